/- Proved: whatever its arguments, the law FnExactLiveInstances returns true and its arguments read afterwards as before: the program's LiveInstances returns what the reference's LiveInstances returns. No conditions. -/
import Derived.Test.YtimocdpfnncnlaaGreatLive1
import Derived.Test.YtimocdpfnncnlaaGreatWhole
import Derived.Test.YtimocdpfnncnlaaGreatOps
set_option linter.all false
set_option linter.unusedSimpArgs false
set_option linter.unusedVariables false
namespace Go.Proofs.YtimocdpfnncnlaaGreat.fnExactLiveInstances
open Go.ChangeShapes Go.WideShapes Go.ChangeAt Go.RowKit Go.Deep

set_option maxRecDepth 100000 in
theorem lifted (os : Os) (started : os.Started) (H : Type) (enc : TypeId × Value → H) :
    ReturnsInHanded {} Tryz.checked os 5 .any (Rows.fnExactLiveInstancesSpec.pre6 enc Tryz.prog Tryz.f5 Rows.fnExactLiveInstancesRow.domain false) (Rows.fnExactLiveInstancesSpec.post enc Tryz.prog Tryz.f5 false true false false) := by
  refine returnsInHanded_of_change (C := Tryz.checked) own started (by kernel_rfl) Tryz.func5
    (ChangeSpec.witness6 (enc := enc) (C := Tryz.checked) false ⟨#[], #[.agg #[.slice none 0 0, .slice none 0 0]], []⟩ 16 (by kernel_rfl) (by kernel_rfl) (by kernel_rfl) (by kernel_rfl)) ?_
  intro W base args ds gs before hval0 hW hcnd _
  have hval : ∀ (j : Nat) t v, Tryz.f5.params[j]? = some t → args[j]? = some v → Value.okWide Tryz.prog W .any base t v := hval0
  have hW' := hW
  obtain ⟨p, q, hA0, hV, rfl, hfz, hnd⟩ := hW
  have hA : DataW.TrodAll enc Tryz.prog W 0 (fun _ => true) true Tryz.f5.params.toList args.toList ds p := hA0
  rw [Tryz.params5] at hA hval
  obtain ⟨v0, d0, hargs, rfl, j0⟩ := trodAll_one hA
  have z0 := hfz
  obtain ⟨rfl, rfl⟩ := trodVars_none hV
  simp only [List.append_nil] at hW' hfz z0
  have hl : layB Tryz.prog [25, 22, 85, 9, 35, 3, 23, 90, 87, 161, 159, 165, 88, 170, 164, 168, 166] = true := by kernel_rfl
  obtain ⟨cs0, y0, b0, rfl, h0⟩ := opn_pgm hl (by simp) (hval 0 _ v0 rfl (by rw [hargs]; rfl)) j0 z0
  obtain ⟨A1_0, c1_0, A2_0, c2_0, d1_0, d2_0, hc0, _⟩ := Rep.pgm_iff.1 h0
  subst hc0
  subst hargs
  refine (FnExactLiveInstances_walk h0).mono fun e W' ⟨he, hb⟩ => ?_
  subst he
  exact ⟨_, rfl, law_done rfl rfl hW' rfl rfl rfl hA0 (by decide +kernel) hb⟩

theorem in_place : (Rows.fnExactLiveInstancesRow.inPlace == Tryz.prog.inPlace 5) = true := by kernel_rfl
theorem unfollowed : (Rows.fnExactLiveInstancesRow.unfollowed == Tryz.prog.unfollowed 5) = true := by kernel_rfl
theorem recurses : (Rows.fnExactLiveInstancesRow.recurses == Tryz.prog.recurses 5) = true := by kernel_rfl
theorem vars_named : (Rows.fnExactLiveInstancesRow.named == Tryz.prog.varsNamed 5) = true := by kernel_rfl
theorem lifts : (Rows.fnExactLiveInstancesRow.lifted == Tryz.prog.liftsFinal) = true := whole_lifts
theorem makes : (Tryz.prog.make == some Rows.fnExactLiveInstancesRow.make) = true := whole_make
theorem keys : (Rows.fnExactLiveInstancesRow.plainKeys == Tryz.prog.plainKeys) = true := whole_keys
theorem closed : joinedFacts Tryz.prog 5 Tryz.f5 Rows.fnExactLiveInstancesSpec Rows.fnExactLiveInstancesRow = true := by
  simp only [joinedFacts, whole_laid, whole_maps, whole_stops, whole_knobs, whole_heard, whole_enter, in_place, unfollowed, recurses, vars_named, lifts, makes, keys, Bool.true_and, Bool.and_true]
  kernel_rfl
theorem proved : Rows.FnExactLiveInstancesSaid :=
  OpenClaim.holds_of_wide 5 Tryz.f5 rfl rfl rfl rfl rfl rfl rfl ⟨rfl, rfl, rfl, rfl, rfl⟩ rfl rfl rfl rfl rfl (by kernel_rfl) Tryz.func5 closed
    (of_decide_eq_true (by kernel_rfl)) (by unfold Func.isWrapper; first | (rw [if_pos (by decide +kernel)]; kernel_rfl) | (rw [if_neg (by decide +kernel)]; exact ⟨rfl, rfl⟩))
    (fun os started H enc _ => lifted os started H enc)

end Go.Proofs.YtimocdpfnncnlaaGreat.fnExactLiveInstances
