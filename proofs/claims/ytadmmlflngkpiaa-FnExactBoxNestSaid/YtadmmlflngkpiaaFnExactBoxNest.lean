/- Proved: whatever its arguments, the law FnExactBoxNest returns true and its arguments read afterwards as before: the program's BoxNest returns what the reference's BoxNest returns. No conditions. -/
import Derived.Test.YtadmmlflngkpiaaBoxNestW
import Derived.Test.YtadmmlflngkpiaaWhole
set_option linter.all false
set_option linter.unusedSimpArgs false
set_option linter.unusedVariables false
namespace Go.Proofs.Ytadmmlflngkpiaa.fnExactBoxNest
open Go.ChangeShapes Go.WideShapes Go.ChangeAt Go.RowKit Go.Deep

set_option maxRecDepth 100000 in
theorem lifted (os : Os) (started : os.Started) (H : Type) (enc : TypeId × Value → H) :
    ReturnsInHanded {} Try.checked os 3 .any (Rows.fnExactBoxNestSpec.pre6 enc Try.prog Try.f3 Rows.fnExactBoxNestRow.domain false) (Rows.fnExactBoxNestSpec.post enc Try.prog Try.f3 false true false false) := by
  refine returnsInHanded_of_change (C := Try.checked) own started (by kernel_rfl) Try.func3
    (ChangeSpec.witness6 (enc := enc) (C := Try.checked) false ⟨#[], #[.slice none 0 0], []⟩ 16 (by kernel_rfl) (by kernel_rfl) (by kernel_rfl) (by kernel_rfl)) ?_
  intro W base args ds gs before hval0 hW hcnd _
  have hval : ∀ (j : Nat) t v, Try.f3.params[j]? = some t → args[j]? = some v → Value.okWide Try.prog W .any base t v := hval0
  have hW' := hW
  obtain ⟨p, q, hA0, hV, rfl, hfz, hnd⟩ := hW
  have hA : DataW.TrodAll enc Try.prog W 0 (fun _ => true) true Try.f3.params.toList args.toList ds p := hA0
  rw [Try.params3] at hA hval
  obtain ⟨v0, d0, hargs, rfl, j0⟩ := trodAll_one hA
  have z0 := hfz
  obtain ⟨rfl, rfl⟩ := trodVars_none hV
  simp only [List.append_nil] at hW' hfz z0
  have hl : layB Try.prog [22, 3] = true := by kernel_rfl
  obtain ⟨A0, n0, c0, x0, b0, rfl, h0, t0⟩ := open_sl hl (by simp) Try.underlying22 (hval 0 _ v0 rfl (by rw [hargs]; rfl)) j0 z0
  obtain ⟨y0, rfl⟩ := hasTyE_int Try.underlying3 _ t0
  subst hargs
  refine (FnExactBoxNest_walk h0).mono fun e W' ⟨he, hb⟩ => ?_
  subst he
  exact ⟨_, rfl, law_done rfl rfl hW' rfl rfl rfl hA0 (by decide +kernel) hb⟩

theorem in_place : (Rows.fnExactBoxNestRow.inPlace == Try.prog.inPlace 3) = true := by kernel_rfl
theorem unfollowed : (Rows.fnExactBoxNestRow.unfollowed == Try.prog.unfollowed 3) = true := by kernel_rfl
theorem recurses : (Rows.fnExactBoxNestRow.recurses == Try.prog.recurses 3) = true := by kernel_rfl
theorem vars_named : (Rows.fnExactBoxNestRow.named == Try.prog.varsNamed 3) = true := by kernel_rfl
theorem lifts : (Rows.fnExactBoxNestRow.lifted == Try.prog.liftsFinal) = true := whole_lifts
theorem makes : (Try.prog.make == some Rows.fnExactBoxNestRow.make) = true := whole_make
theorem keys : (Rows.fnExactBoxNestRow.plainKeys == Try.prog.plainKeys) = true := whole_keys
theorem closed : joinedFacts Try.prog 3 Try.f3 Rows.fnExactBoxNestSpec Rows.fnExactBoxNestRow = true := by
  simp only [joinedFacts, whole_laid, whole_maps, whole_stops, whole_knobs, whole_heard, whole_enter, in_place, unfollowed, recurses, vars_named, lifts, makes, keys, Bool.true_and, Bool.and_true]
  kernel_rfl
theorem proved : Rows.FnExactBoxNestSaid :=
  OpenClaim.holds_of_wide 3 Try.f3 rfl rfl rfl rfl rfl rfl rfl ⟨rfl, rfl, rfl, rfl, rfl⟩ rfl rfl rfl rfl rfl (by kernel_rfl) Try.func3 closed
    (of_decide_eq_true (by kernel_rfl)) (by unfold Func.isWrapper; first | (rw [if_pos (by decide +kernel)]; kernel_rfl) | (rw [if_neg (by decide +kernel)]; exact ⟨rfl, rfl⟩))
    (fun os started H enc _ => lifted os started H enc)

end Go.Proofs.Ytadmmlflngkpiaa.fnExactBoxNest
