/- Proved: whatever its arguments, the law FnExactConnectedParts returns true and its arguments read afterwards as before: the program's ConnectedParts returns what the reference's ConnectedParts returns. No conditions. -/
import Derived.Test.YtimocdpfnncnlaaGreatConn1
import Derived.Test.YtimocdpfnncnlaaGreatWhole
import Derived.Test.YtimocdpfnncnlaaGreatOps
set_option linter.all false
set_option linter.unusedSimpArgs false
set_option linter.unusedVariables false
namespace Go.Proofs.YtimocdpfnncnlaaGreat.fnExactConnectedParts
open Go.ChangeShapes Go.WideShapes Go.ChangeAt Go.RowKit Go.Deep

set_option maxRecDepth 100000 in
theorem lifted (os : Os) (started : os.Started) (H : Type) (enc : TypeId × Value → H) :
    ReturnsInHanded {} Tryz.checked os 6 .any (Rows.fnExactConnectedPartsSpec.pre6 enc Tryz.prog Tryz.f6 Rows.fnExactConnectedPartsRow.domain false) (Rows.fnExactConnectedPartsSpec.post enc Tryz.prog Tryz.f6 false true false false) := by
  refine returnsInHanded_of_change (C := Tryz.checked) own started (by kernel_rfl) Tryz.func6
    (ChangeSpec.witness6 (enc := enc) (C := Tryz.checked) false ⟨#[], #[.agg #[.slice none 0 0, .slice none 0 0]], []⟩ 16 (by kernel_rfl) (by kernel_rfl) (by kernel_rfl) (by kernel_rfl)) ?_
  intro W base args ds gs before hval0 hW hcnd _
  have hval : ∀ (j : Nat) t v, Tryz.f6.params[j]? = some t → args[j]? = some v → Value.okWide Tryz.prog W .any base t v := hval0
  have hW' := hW
  obtain ⟨p, q, hA0, hV, rfl, hfz, hnd⟩ := hW
  have hA : DataW.TrodAll enc Tryz.prog W 0 (fun _ => true) true Tryz.f6.params.toList args.toList ds p := hA0
  rw [Tryz.params6] at hA hval
  obtain ⟨v0, d0, hargs, rfl, j0⟩ := trodAll_one hA
  have z0 := hfz
  obtain ⟨rfl, rfl⟩ := trodVars_none hV
  simp only [List.append_nil] at hW' hfz z0
  have hl : layB Tryz.prog [25, 22, 85, 9, 35, 3, 23, 90, 87, 161, 159, 165, 88, 170, 164, 168, 166] = true := by kernel_rfl
  obtain ⟨cs0, y0, b0, rfl, h0⟩ := opn_pgm hl (by simp) (hval 0 _ v0 rfl (by rw [hargs]; rfl)) j0 z0
  obtain ⟨A1_0, c1_0, A2_0, c2_0, d1_0, d2_0, hc0, _⟩ := Rep.pgm_iff.1 h0
  subst hc0
  subst hargs
  refine (FnExactConnectedParts_walk h0).mono fun e W' ⟨he, hb⟩ => ?_
  subst he
  exact ⟨_, rfl, law_done rfl rfl hW' rfl rfl rfl hA0 (by decide +kernel) hb⟩

theorem in_place : (Rows.fnExactConnectedPartsRow.inPlace == Tryz.prog.inPlace 6) = true := by kernel_rfl
theorem unfollowed : (Rows.fnExactConnectedPartsRow.unfollowed == Tryz.prog.unfollowed 6) = true := by kernel_rfl
theorem recurses : (Rows.fnExactConnectedPartsRow.recurses == Tryz.prog.recurses 6) = true := by kernel_rfl
theorem vars_named : (Rows.fnExactConnectedPartsRow.named == Tryz.prog.varsNamed 6) = true := by kernel_rfl
theorem lifts : (Rows.fnExactConnectedPartsRow.lifted == Tryz.prog.liftsFinal) = true := whole_lifts
theorem makes : (Tryz.prog.make == some Rows.fnExactConnectedPartsRow.make) = true := whole_make
theorem keys : (Rows.fnExactConnectedPartsRow.plainKeys == Tryz.prog.plainKeys) = true := whole_keys
theorem closed : joinedFacts Tryz.prog 6 Tryz.f6 Rows.fnExactConnectedPartsSpec Rows.fnExactConnectedPartsRow = true := by
  simp only [joinedFacts, whole_laid, whole_maps, whole_stops, whole_knobs, whole_heard, whole_enter, in_place, unfollowed, recurses, vars_named, lifts, makes, keys, Bool.true_and, Bool.and_true]
  kernel_rfl
theorem proved : Rows.FnExactConnectedPartsSaid :=
  OpenClaim.holds_of_wide 6 Tryz.f6 rfl rfl rfl rfl rfl rfl rfl ⟨rfl, rfl, rfl, rfl, rfl⟩ rfl rfl rfl rfl rfl (by kernel_rfl) Tryz.func6 closed
    (of_decide_eq_true (by kernel_rfl)) (by unfold Func.isWrapper; first | (rw [if_pos (by decide +kernel)]; kernel_rfl) | (rw [if_neg (by decide +kernel)]; exact ⟨rfl, rfl⟩))
    (fun os started H enc _ => lifted os started H enc)

end Go.Proofs.YtimocdpfnncnlaaGreat.fnExactConnectedParts
