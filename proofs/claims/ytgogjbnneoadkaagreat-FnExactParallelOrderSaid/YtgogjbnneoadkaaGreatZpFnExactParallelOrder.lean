/- Proved: whatever its arguments, the law FnExactParallelOrder returns true and its arguments read afterwards as before: the program's ParallelOrder returns what the reference's ParallelOrder returns. No conditions. -/
import Derived.Test.YtgogjbnneoadkaaGreatRows
import Derived.Test.YtgogjbnneoadkaaGreatChecked
import Derived.ProofKit
import Derived.JoinedOf
import Derived.Test.YtgogjbnneoadkaaGreatZpParallelOrderW
import Derived.Test.YtgogjbnneoadkaaGreatZpOps
set_option linter.all false
set_option linter.unusedSimpArgs false
set_option linter.unusedVariables false
namespace Go.Proofs.YtgogjbnneoadkaaGreat
open Go.RowKit

theorem whole_laid : laidOutB Tryz.prog = true := by kernel_rfl
theorem whole_maps : mapsRowed Tryz.prog = true := by kernel_rfl
theorem whole_stops : (Tryz.prog.stops == []) = true := by kernel_rfl
theorem whole_knobs : (Tryz.prog.stopKnobs == []) = true := by kernel_rfl
theorem whole_heard : Tryz.prog.stopsHeard = true := by kernel_rfl
theorem whole_enter : Tryz.prog.mayEnter = true := by kernel_rfl
theorem whole_lifts : (Rows.fnExactSplitLoopRow.lifted == Tryz.prog.liftsFinal) = true := by kernel_rfl
theorem whole_make : (Tryz.prog.make == some Rows.fnExactSplitLoopRow.make) = true := by kernel_rfl
theorem whole_keys : (Rows.fnExactSplitLoopRow.plainKeys == Tryz.prog.plainKeys) = true := by kernel_rfl
end Go.Proofs.YtgogjbnneoadkaaGreat
set_option linter.all false
set_option linter.unusedSimpArgs false
set_option linter.unusedVariables false
namespace Go.Proofs.YtgogjbnneoadkaaGreat.fnExactParallelOrder
open Go.ChangeShapes Go.WideShapes Go.ChangeAt Go.RowKit Go.Deep

set_option maxRecDepth 100000 in
theorem lifted (os : Os) (started : os.Started) (H : Type) (enc : TypeId × Value → H) :
    ReturnsInHanded {} Tryz.checked os 6 .any (Rows.fnExactParallelOrderSpec.pre6 enc Tryz.prog Tryz.f6 Rows.fnExactParallelOrderRow.domain false) (Rows.fnExactParallelOrderSpec.post enc Tryz.prog Tryz.f6 false true false false) := by
  refine returnsInHanded_of_change (C := Tryz.checked) own started (by kernel_rfl) Tryz.func6
    (ChangeSpec.witness6 (enc := enc) (C := Tryz.checked) false ⟨#[], #[.agg #[.slice none 0 0, .slice none 0 0], .int .i64 0, .int .i64 0, .slice none 0 0], []⟩ 16 (by kernel_rfl) (by kernel_rfl) (by kernel_rfl) (by kernel_rfl)) ?_
  intro W base args ds gs before hval0 hW hcnd _
  have hval : ∀ (j : Nat) t v, Tryz.f6.params[j]? = some t → args[j]? = some v → Value.okWide Tryz.prog W .any base t v := hval0
  have hW' := hW
  obtain ⟨p, q, hA0, hV, rfl, hfz, hnd⟩ := hW
  have hA : DataW.TrodAll enc Tryz.prog W 0 (fun _ => true) true Tryz.f6.params.toList args.toList ds p := hA0
  rw [Tryz.params6] at hA hval
  obtain ⟨vs, hvs⟩ : ∃ vs, args.toList = vs := ⟨_, rfl⟩
  rw [hvs] at hA
  obtain ⟨v0, vs0, d0, ds0, p0, q0, e0, rfl, rfl, j0, g0⟩ := trodAll_cons hA; subst e0
  obtain ⟨v1, vs1, d1, ds1, p1, q1, e1, rfl, rfl, j1, g1⟩ := trodAll_cons g0; subst e1
  obtain ⟨v2, vs2, d2, ds2, p2, q2, e2, rfl, rfl, j2, g2⟩ := trodAll_cons g1; subst e2
  obtain ⟨v3, vs3, d3, ds3, p3, q3, e3, rfl, rfl, j3, g3⟩ := trodAll_cons g2; subst e3
  obtain ⟨rfl, rfl, rfl⟩ := trodAll_nil g3
  have hargs : args = #[v0, v1, v2, v3] := Array.ext' (by rw [hvs])
  obtain ⟨rfl, rfl⟩ := trodVars_none hV
  simp only [List.append_nil] at hW' hfz hA0
  have z0 := (noneFrozen_left hfz)
  have z1 := (noneFrozen_left (noneFrozen_right hfz))
  have z2 := (noneFrozen_left (noneFrozen_right (noneFrozen_right hfz)))
  have z3 := (noneFrozen_right (noneFrozen_right (noneFrozen_right hfz)))
  have hl : layB Tryz.prog [25, 22, 115, 9, 39, 3, 23, 120, 117, 198, 196, 202, 118, 207, 201, 205, 203] = true := by kernel_rfl
  obtain ⟨cs0, y0, b0, rfl, h0⟩ := opn_pgm hl (by simp) (hval 0 _ v0 rfl (by rw [hargs]; rfl)) j0 z0
  obtain ⟨A1_0, c1_0, A2_0, c2_0, d1_0, d2_0, hc0, _⟩ := Rep.pgm_iff.1 h0
  subst hc0
  obtain ⟨x1, rfl, rfl, rfl, u1⟩ := open_int Tryz.underlying3 (hval 1 _ v1 rfl (by rw [hargs]; rfl)) j1
  have h1 : I64 x1 := bounds_i64 u1
  obtain ⟨x2, rfl, rfl, rfl, u2⟩ := open_int Tryz.underlying3 (hval 2 _ v2 rfl (by rw [hargs]; rfl)) j2
  have h2 : I64 x2 := bounds_i64 u2
  obtain ⟨A3, n3, c3, x3, b3, rfl, h3, t3⟩ := open_sl hl (by simp) Tryz.underlying39 (hval 3 _ v3 rfl (by rw [hargs]; rfl)) j3 z3
  obtain ⟨y3, rfl⟩ := hasTyE_int Tryz.underlying3 _ t3
  subst hargs
  refine (FnExactParallelOrder_walk h0 h3).mono fun e W' ⟨he, hb⟩ => ?_
  subst he
  exact ⟨_, rfl, law_done rfl rfl hW' rfl rfl rfl hA0 (by decide +kernel) hb⟩

theorem in_place : (Rows.fnExactParallelOrderRow.inPlace == Tryz.prog.inPlace 6) = true := by kernel_rfl
theorem unfollowed : (Rows.fnExactParallelOrderRow.unfollowed == Tryz.prog.unfollowed 6) = true := by kernel_rfl
theorem recurses : (Rows.fnExactParallelOrderRow.recurses == Tryz.prog.recurses 6) = true := by kernel_rfl
theorem vars_named : (Rows.fnExactParallelOrderRow.named == Tryz.prog.varsNamed 6) = true := by kernel_rfl
theorem lifts : (Rows.fnExactParallelOrderRow.lifted == Tryz.prog.liftsFinal) = true := whole_lifts
theorem makes : (Tryz.prog.make == some Rows.fnExactParallelOrderRow.make) = true := whole_make
theorem keys : (Rows.fnExactParallelOrderRow.plainKeys == Tryz.prog.plainKeys) = true := whole_keys
theorem closed : joinedFacts Tryz.prog 6 Tryz.f6 Rows.fnExactParallelOrderSpec Rows.fnExactParallelOrderRow = true := by
  simp only [joinedFacts, whole_laid, whole_maps, whole_stops, whole_knobs, whole_heard, whole_enter, in_place, unfollowed, recurses, vars_named, lifts, makes, keys, Bool.true_and, Bool.and_true]
  kernel_rfl
theorem proved : Rows.FnExactParallelOrderSaid :=
  OpenClaim.holds_of_wide 6 Tryz.f6 rfl rfl rfl rfl rfl rfl rfl ⟨rfl, rfl, rfl, rfl, rfl⟩ rfl rfl rfl rfl rfl (by kernel_rfl) Tryz.func6 closed
    (of_decide_eq_true (by kernel_rfl)) (by unfold Func.isWrapper; first | (rw [if_pos (by decide +kernel)]; kernel_rfl) | (rw [if_neg (by decide +kernel)]; exact ⟨rfl, rfl⟩))
    (fun os started H enc _ => lifted os started H enc)

end Go.Proofs.YtgogjbnneoadkaaGreat.fnExactParallelOrder
