/- Proved: whatever its arguments, the law FnExactInstanceCells returns true and its arguments read afterwards as before: the program's InstanceCells returns what the reference's InstanceCells returns. No conditions. -/
import Derived.Test.YtgimggpmnemkbaaGreatZInstanceCellsW
import Derived.Test.YtgimggpmnemkbaaGreatZWhole
import Derived.Test.YtgimggpmnemkbaaGreatZOps
set_option linter.all false
set_option linter.unusedSimpArgs false
set_option linter.unusedVariables false
namespace Go.Proofs.YtgimggpmnemkbaaGreat.fnExactInstanceCells
open Go.ChangeShapes Go.WideShapes Go.ChangeAt Go.RowKit Go.Deep

set_option maxRecDepth 100000 in
theorem lifted (os : Os) (started : os.Started) (H : Type) (enc : TypeId × Value → H) :
    ReturnsInHanded {} Tryz.checked os 12 .any (Rows.fnExactInstanceCellsSpec.pre6 enc Tryz.prog Tryz.f12 Rows.fnExactInstanceCellsRow.domain false) (Rows.fnExactInstanceCellsSpec.post enc Tryz.prog Tryz.f12 false true false false) := by
  refine returnsInHanded_of_change (C := Tryz.checked) own started (by kernel_rfl) Tryz.func12
    (ChangeSpec.witness6 (enc := enc) (C := Tryz.checked) false ⟨#[], #[.agg #[.slice none 0 0, .slice none 0 0], .agg #[.int .i64 0, .int .i64 0, .slice none 0 0]], []⟩ 16 (by kernel_rfl) (by kernel_rfl) (by kernel_rfl) (by kernel_rfl)) ?_
  intro W base args ds gs before hval0 hW hcnd _
  have hval : ∀ (j : Nat) t v, Tryz.f12.params[j]? = some t → args[j]? = some v → Value.okWide Tryz.prog W .any base t v := hval0
  have hW' := hW
  obtain ⟨p, q, hA0, hV, rfl, hfz, hnd⟩ := hW
  have hA : DataW.TrodAll enc Tryz.prog W 0 (fun _ => true) true Tryz.f12.params.toList args.toList ds p := hA0
  rw [Tryz.params12] at hA hval
  obtain ⟨v0, v1, d0, d1, p0, p1, hargs, rfl, rfl, j0, j1⟩ := trodAll_two hA
  obtain ⟨rfl, rfl⟩ := trodVars_none hV
  simp only [List.append_nil] at hW' hfz
  have z0 := (noneFrozen_left hfz)
  have z1 := (noneFrozen_right hfz)
  have hl : layB Tryz.prog [25, 22, 136, 9, 26, 3, 23, 141, 138, 211, 209, 215, 139, 220, 214, 218, 216, 28] = true := by kernel_rfl
  obtain ⟨cs0, y0, b0, rfl, h0⟩ := opn_pgm hl (by simp) (hval 0 _ v0 rfl (by rw [hargs]; rfl)) j0 z0
  obtain ⟨A1_0, c1_0, A2_0, c2_0, d1_0, d2_0, hc0, _⟩ := Rep.pgm_iff.1 h0
  subst hc0
  obtain ⟨cs1, y1, b1, rfl, h1⟩ := opn_in hl (by simp) (hval 1 _ v1 rfl (by rw [hargs]; rfl)) j1 z1
  obtain ⟨A3_1, c3_1, d3_1, hc1, _⟩ := Rep.in_iff.1 h1
  subst hc1
  subst hargs
  refine (FnExactInstanceCells_walk h0 h1).mono fun e W' ⟨he, hb⟩ => ?_
  subst he
  exact ⟨_, rfl, law_done rfl rfl hW' rfl rfl rfl hA0 (by decide +kernel) hb⟩

theorem in_place : (Rows.fnExactInstanceCellsRow.inPlace == Tryz.prog.inPlace 12) = true := by kernel_rfl
theorem unfollowed : (Rows.fnExactInstanceCellsRow.unfollowed == Tryz.prog.unfollowed 12) = true := by kernel_rfl
theorem recurses : (Rows.fnExactInstanceCellsRow.recurses == Tryz.prog.recurses 12) = true := by kernel_rfl
theorem vars_named : (Rows.fnExactInstanceCellsRow.named == Tryz.prog.varsNamed 12) = true := by kernel_rfl
theorem lifts : (Rows.fnExactInstanceCellsRow.lifted == Tryz.prog.liftsFinal) = true := whole_lifts
theorem makes : (Tryz.prog.make == some Rows.fnExactInstanceCellsRow.make) = true := whole_make
theorem keys : (Rows.fnExactInstanceCellsRow.plainKeys == Tryz.prog.plainKeys) = true := whole_keys
theorem closed : joinedFacts Tryz.prog 12 Tryz.f12 Rows.fnExactInstanceCellsSpec Rows.fnExactInstanceCellsRow = true := by
  simp only [joinedFacts, whole_laid, whole_maps, whole_stops, whole_knobs, whole_heard, whole_enter, in_place, unfollowed, recurses, vars_named, lifts, makes, keys, Bool.true_and, Bool.and_true]
  kernel_rfl
theorem proved : Rows.FnExactInstanceCellsSaid :=
  OpenClaim.holds_of_wide 12 Tryz.f12 rfl rfl rfl rfl rfl rfl rfl ⟨rfl, rfl, rfl, rfl, rfl⟩ rfl rfl rfl rfl rfl (by kernel_rfl) Tryz.func12 closed
    (of_decide_eq_true (by kernel_rfl)) (by unfold Func.isWrapper; first | (rw [if_pos (by decide +kernel)]; kernel_rfl) | (rw [if_neg (by decide +kernel)]; exact ⟨rfl, rfl⟩))
    (fun os started H enc _ => lifted os started H enc)

end Go.Proofs.YtgimggpmnemkbaaGreat.fnExactInstanceCells
