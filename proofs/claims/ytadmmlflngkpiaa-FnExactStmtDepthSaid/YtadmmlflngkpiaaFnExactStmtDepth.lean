/- Proved: whatever its arguments, the law FnExactStmtDepth returns true and its arguments read afterwards as before: the program's StmtDepth returns what the reference's StmtDepth returns. No conditions. -/
import Derived.Test.YtadmmlflngkpiaaStmtDepthW
import Derived.Test.YtadmmlflngkpiaaWhole
import Derived.Test.YtadmmlflngkpiaaOps
set_option linter.all false
set_option linter.unusedSimpArgs false
set_option linter.unusedVariables false
namespace Go.Proofs.Ytadmmlflngkpiaa.fnExactStmtDepth
open Go.ChangeShapes Go.WideShapes Go.ChangeAt Go.RowKit Go.Deep

set_option maxRecDepth 100000 in
theorem lifted (os : Os) (started : os.Started) (H : Type) (enc : TypeId × Value → H) :
    ReturnsInHanded {} Try.checked os 4 .any (Rows.fnExactStmtDepthSpec.pre6 enc Try.prog Try.f4 Rows.fnExactStmtDepthRow.domain false) (Rows.fnExactStmtDepthSpec.post enc Try.prog Try.f4 false true false false) := by
  refine returnsInHanded_of_change (C := Try.checked) own started (by kernel_rfl) Try.func4
    (ChangeSpec.witness6 (enc := enc) (C := Try.checked) false ⟨#[], #[.agg #[.string ⟨#[]⟩, .slice none 0 0, .int .i64 0, .int .i64 0, .slice none 0 0, .int .i64 0, .string ⟨#[]⟩, .slice none 0 0, .slice none 0 0]], []⟩ 16 (by kernel_rfl) (by kernel_rfl) (by kernel_rfl) (by kernel_rfl)) ?_
  intro W base args ds gs before hval0 hW hcnd _
  have hval : ∀ (j : Nat) t v, Try.f4.params[j]? = some t → args[j]? = some v → Value.okWide Try.prog W .any base t v := hval0
  have hW' := hW
  obtain ⟨p, q, hA0, hV, rfl, hfz, hnd⟩ := hW
  have hA : DataW.TrodAll enc Try.prog W 0 (fun _ => true) true Try.f4.params.toList args.toList ds p := hA0
  rw [Try.params4] at hA hval
  obtain ⟨v0, d0, hargs, rfl, j0⟩ := trodAll_one hA
  have z0 := hfz
  obtain ⟨rfl, rfl⟩ := trodVars_none hV
  simp only [List.append_nil] at hW' hfz z0
  have hl : layB Try.prog [41, 34, 9, 32, 36, 22, 3, 39, 37] = true := by kernel_rfl
  obtain ⟨cs0, y0, b0, rfl, h0⟩ := opn_stm hl (by simp) (hval 0 _ v0 rfl (by rw [hargs]; rfl)) j0 z0
  obtain ⟨A2_0, c2_0, A5_0, c5_0, A8_0, c8_0, A9_0, c9_0, d2_0, d5_0, d8_0, d9_0, hc0, _⟩ := Rep.stm_iff.1 h0
  subst hc0
  subst hargs
  refine (FnExactStmtDepth_walk h0).mono fun e W' ⟨he, hb⟩ => ?_
  subst he
  exact ⟨_, rfl, law_done rfl rfl hW' rfl rfl rfl hA0 (by decide +kernel) hb⟩

theorem in_place : (Rows.fnExactStmtDepthRow.inPlace == Try.prog.inPlace 4) = true := by kernel_rfl
theorem unfollowed : (Rows.fnExactStmtDepthRow.unfollowed == Try.prog.unfollowed 4) = true := by kernel_rfl
theorem recurses : (Rows.fnExactStmtDepthRow.recurses == Try.prog.recurses 4) = true := by kernel_rfl
theorem vars_named : (Rows.fnExactStmtDepthRow.named == Try.prog.varsNamed 4) = true := by kernel_rfl
theorem lifts : (Rows.fnExactStmtDepthRow.lifted == Try.prog.liftsFinal) = true := whole_lifts
theorem makes : (Try.prog.make == some Rows.fnExactStmtDepthRow.make) = true := whole_make
theorem keys : (Rows.fnExactStmtDepthRow.plainKeys == Try.prog.plainKeys) = true := whole_keys
theorem closed : joinedFacts Try.prog 4 Try.f4 Rows.fnExactStmtDepthSpec Rows.fnExactStmtDepthRow = true := by
  simp only [joinedFacts, whole_laid, whole_maps, whole_stops, whole_knobs, whole_heard, whole_enter, in_place, unfollowed, recurses, vars_named, lifts, makes, keys, Bool.true_and, Bool.and_true]
  kernel_rfl
theorem proved : Rows.FnExactStmtDepthSaid :=
  OpenClaim.holds_of_wide 4 Try.f4 rfl rfl rfl rfl rfl rfl rfl ⟨rfl, rfl, rfl, rfl, rfl⟩ rfl rfl rfl rfl rfl (by kernel_rfl) Try.func4 closed
    (of_decide_eq_true (by kernel_rfl)) (by unfold Func.isWrapper; first | (rw [if_pos (by decide +kernel)]; kernel_rfl) | (rw [if_neg (by decide +kernel)]; exact ⟨rfl, rfl⟩))
    (fun os started H enc _ => lifted os started H enc)

end Go.Proofs.Ytadmmlflngkpiaa.fnExactStmtDepth
