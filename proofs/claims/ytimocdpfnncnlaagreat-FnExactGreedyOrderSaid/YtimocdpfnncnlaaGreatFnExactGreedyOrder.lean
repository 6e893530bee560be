/- Proved: whatever its arguments, the law FnExactGreedyOrder returns true and its arguments read afterwards as before: the program's GreedyOrder returns what the reference's GreedyOrder returns. No conditions. -/
import Derived.Test.YtimocdpfnncnlaaGreatGreedy1
import Derived.Test.YtimocdpfnncnlaaGreatWhole
import Derived.Test.YtimocdpfnncnlaaGreatOps
set_option linter.all false
set_option linter.unusedSimpArgs false
set_option linter.unusedVariables false
namespace Go.Proofs.YtimocdpfnncnlaaGreat.fnExactGreedyOrder
open Go.ChangeShapes Go.WideShapes Go.ChangeAt Go.RowKit Go.Deep

set_option maxRecDepth 100000 in
theorem lifted (os : Os) (started : os.Started) (H : Type) (enc : TypeId × Value → H) :
    ReturnsInHanded {} Tryz.checked os 7 .any (Rows.fnExactGreedyOrderSpec.pre6 enc Tryz.prog Tryz.f7 Rows.fnExactGreedyOrderRow.domain false) (Rows.fnExactGreedyOrderSpec.post enc Tryz.prog Tryz.f7 false true false false) := by
  refine returnsInHanded_of_change (C := Tryz.checked) own started (by kernel_rfl) Tryz.func7
    (ChangeSpec.witness6 (enc := enc) (C := Tryz.checked) false ⟨#[], #[.agg #[.slice none 0 0, .slice none 0 0], .slice none 0 0], []⟩ 16 (by kernel_rfl) (by kernel_rfl) (by kernel_rfl) (by kernel_rfl)) ?_
  intro W base args ds gs before hval0 hW hcnd _
  have hval : ∀ (j : Nat) t v, Tryz.f7.params[j]? = some t → args[j]? = some v → Value.okWide Tryz.prog W .any base t v := hval0
  have hW' := hW
  obtain ⟨p, q, hA0, hV, rfl, hfz, hnd⟩ := hW
  have hA : DataW.TrodAll enc Tryz.prog W 0 (fun _ => true) true Tryz.f7.params.toList args.toList ds p := hA0
  rw [Tryz.params7] at hA hval
  obtain ⟨v0, v1, d0, d1, p0, p1, hargs, rfl, rfl, j0, j1⟩ := trodAll_two hA
  obtain ⟨rfl, rfl⟩ := trodVars_none hV
  simp only [List.append_nil] at hW' hfz
  have z0 := (noneFrozen_left hfz)
  have z1 := (noneFrozen_right hfz)
  have hl : layB Tryz.prog [25, 22, 85, 9, 35, 3, 23, 90, 87, 161, 159, 165, 88, 170, 164, 168, 166] = true := by kernel_rfl
  obtain ⟨cs0, y0, b0, rfl, h0⟩ := opn_pgm hl (by simp) (hval 0 _ v0 rfl (by rw [hargs]; rfl)) j0 z0
  obtain ⟨A1_0, c1_0, A2_0, c2_0, d1_0, d2_0, hc0, _⟩ := Rep.pgm_iff.1 h0
  subst hc0
  obtain ⟨A1, n1, c1, x1, b1, rfl, h1, t1⟩ := open_sl hl (by simp) Tryz.underlying35 (hval 1 _ v1 rfl (by rw [hargs]; rfl)) j1 z1
  obtain ⟨y1, rfl⟩ := hasTyE_int Tryz.underlying3 _ t1
  subst hargs
  refine (FnExactGreedyOrder_walk h0 h1).mono fun e W' ⟨he, hb⟩ => ?_
  subst he
  exact ⟨_, rfl, law_done rfl rfl hW' rfl rfl rfl hA0 (by decide +kernel) hb⟩

theorem in_place : (Rows.fnExactGreedyOrderRow.inPlace == Tryz.prog.inPlace 7) = true := by kernel_rfl
theorem unfollowed : (Rows.fnExactGreedyOrderRow.unfollowed == Tryz.prog.unfollowed 7) = true := by kernel_rfl
theorem recurses : (Rows.fnExactGreedyOrderRow.recurses == Tryz.prog.recurses 7) = true := by kernel_rfl
theorem vars_named : (Rows.fnExactGreedyOrderRow.named == Tryz.prog.varsNamed 7) = true := by kernel_rfl
theorem lifts : (Rows.fnExactGreedyOrderRow.lifted == Tryz.prog.liftsFinal) = true := whole_lifts
theorem makes : (Tryz.prog.make == some Rows.fnExactGreedyOrderRow.make) = true := whole_make
theorem keys : (Rows.fnExactGreedyOrderRow.plainKeys == Tryz.prog.plainKeys) = true := whole_keys
theorem closed : joinedFacts Tryz.prog 7 Tryz.f7 Rows.fnExactGreedyOrderSpec Rows.fnExactGreedyOrderRow = true := by
  simp only [joinedFacts, whole_laid, whole_maps, whole_stops, whole_knobs, whole_heard, whole_enter, in_place, unfollowed, recurses, vars_named, lifts, makes, keys, Bool.true_and, Bool.and_true]
  kernel_rfl
theorem proved : Rows.FnExactGreedyOrderSaid :=
  OpenClaim.holds_of_wide 7 Tryz.f7 rfl rfl rfl rfl rfl rfl rfl ⟨rfl, rfl, rfl, rfl, rfl⟩ rfl rfl rfl rfl rfl (by kernel_rfl) Tryz.func7 closed
    (of_decide_eq_true (by kernel_rfl)) (by unfold Func.isWrapper; first | (rw [if_pos (by decide +kernel)]; kernel_rfl) | (rw [if_neg (by decide +kernel)]; exact ⟨rfl, rfl⟩))
    (fun os started H enc _ => lifted os started H enc)

end Go.Proofs.YtimocdpfnncnlaaGreat.fnExactGreedyOrder
