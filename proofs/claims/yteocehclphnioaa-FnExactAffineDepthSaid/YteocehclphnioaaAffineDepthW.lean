/- The law FnExactAffineDepth: its walk: the copies, the reference's and the program's call, the comparison. -/
import Derived.Test.YteocehclphnioaaLaw
import Derived.Test.YteocehclphnioaaDepth
namespace Go.Proofs.Yteocehclphnioaa
open Go.ChangeShapes Go.WideShapes Go.ChangeAt Go.RowKit Go.Deep

set_option maxHeartbeats 2000000 in
theorem FnExactAffineDepth_walk {w : World} {x0 : Aff} {A0 : Option Addr} {n0 c0 : Nat} {k0 : Int} {bs0 : List Nat} (h0 : Rep w x0.d [.slice A0 n0 c0, .int .i64 k0] bs0) :
    Calls Try.prog 10 #[.agg #[.slice A0 n0 c0, .int .i64 k0]] w fun e w' => e = .returned (.bool true) ∧ Below w.heap.size w w' := by
  have H0 := Lib.hid h0; clear h0
  by_cases hs0 : (1048576 : Int) - n0 < 0
  · have HS0 := Lib.hid (szR_neg hs0)
    go_enter Try.func10, Try.ntmps10
    go_wp2_with fail
    refine (szAffine_c (H0.out.below (by repeat (first | exact Below.refl _ _ | refine Below.setCell ?_ (by simp; try omega) _ | refine Below.alloc ?_ (by simp [World.setCell]; try omega) _ | refine below_drewN ?_ _ | refine Below.drew ?_ | refine below_tr ?_ ‹Below _ _ _›))) (by omega) (by omega)).mono ?_
    rintro e v1 ⟨rfl, bv1⟩
    rw [HS0.out]
    go_wp2
    go_ret
    exact ⟨rfl, (by repeat (first | exact Below.refl _ _ | refine Below.setCell ?_ (by simp; try omega) _ | refine Below.alloc ?_ (by simp [World.setCell]; try omega) _ | refine below_drewN ?_ _ | refine Below.drew ?_ | refine below_tr ?_ ‹Below _ _ _›))⟩
  · have HS0 := Lib.hid (szR_pos (left := 1048576) (tot := n0) (by omega))
    have HN0 := Lib.hid (show n0 ≤ 10000000 by omega)
    have hl0 : 0 ≤ (1048576 : Int) - n0 := by omega
    clear hs0
    have hq : ((AffineDepthF x0) != (AffineDepthF x0)) = false := by simp
    go_enter Try.func10, Try.ntmps10
    go_wp2_with fail
    refine (szAffine_c (H0.out.below (by repeat (first | exact Below.refl _ _ | refine Below.setCell ?_ (by simp; try omega) _ | refine Below.alloc ?_ (by simp [World.setCell]; try omega) _ | refine below_drewN ?_ _ | refine Below.drew ?_ | refine below_tr ?_ ‹Below _ _ _›))) (by omega) (by omega)).mono ?_
    rintro e w1 ⟨rfl, b1⟩
    rw [HS0.out]
    have P0_1 := (Box2.new w _ _ _).to (b1)
    have s1 : Below w.heap.size w w1 := (by repeat (first | exact Below.refl _ _ | refine Below.setCell ?_ (by simp; try omega) _ | refine Below.alloc ?_ (by simp [World.setCell]; try omega) _ | refine below_drewN ?_ _ | refine Below.drew ?_ | refine below_tr ?_ ‹Below _ _ _›))
    have R0_1 := Lib.hid (H0.out.below s1); clear H0
    have S1 : Below w.heap.size w w1 := s1
    go_wp2_with fail
    refine (toAffine_c (R0_1.out.below (by repeat (first | exact Below.refl _ _ | refine Below.setCell ?_ (by simp; try omega) _ | refine Below.alloc ?_ (by simp [World.setCell]; try omega) _ | refine below_drewN ?_ _ | refine Below.drew ?_ | refine below_tr ?_ ‹Below _ _ _›))) HN0.out).mono ?_
    rintro e w2 ⟨g2, rfl, r2, hg2, b2⟩
    have P0_2 := P0_1.to (b2); clear P0_1
    have R0_2 := Lib.hid (R0_1.out.below (b2)); clear R0_1
    have S2 : Below w.heap.size w w2 := below_tr S1 (b2)
    have C0_2 := Lib.hid r2; clear r2 hg2
    go_wp2_with fail
    refine (specAffineDepth_c (C0_2.out.below (by repeat (first | exact Below.refl _ _ | refine Below.setCell ?_ (by simp; try omega) _ | refine Below.alloc ?_ (by simp [World.setCell]; try omega) _ | refine below_drewN ?_ _ | refine Below.drew ?_ | refine below_tr ?_ ‹Below _ _ _›)))).mono ?_
    rintro e w3 ⟨rfl, b3⟩
    have P0_3 := P0_2.to (b3); clear P0_2
    have R0_3 := Lib.hid (R0_2.out.below (b3)); clear R0_2
    have S3 : Below w.heap.size w w3 := below_tr S2 (b3)
    go_wp2_with fail
    refine (toAffine_c (R0_3.out.below (by repeat (first | exact Below.refl _ _ | refine Below.setCell ?_ (by simp; try omega) _ | refine Below.alloc ?_ (by simp [World.setCell]; try omega) _ | refine below_drewN ?_ _ | refine Below.drew ?_ | refine below_tr ?_ ‹Below _ _ _›))) HN0.out).mono ?_
    rintro e w4 ⟨g4, rfl, r4, hg4, b4⟩
    have P0_4 := P0_3.to (b4); clear P0_3
    have R0_4 := Lib.hid (R0_3.out.below (b4)); clear R0_3
    have S4 : Below w.heap.size w w4 := below_tr S3 (b4)
    have X0_4 := Lib.hid r4; clear r4 hg4
    go_wp2_with fail
    refine (implAffineDepth_c (X0_4.out.below (by repeat (first | exact Below.refl _ _ | refine Below.setCell ?_ (by simp; try omega) _ | refine Below.alloc ?_ (by simp [World.setCell]; try omega) _ | refine below_drewN ?_ _ | refine Below.drew ?_ | refine below_tr ?_ ‹Below _ _ _›)))).mono ?_
    rintro e w5 ⟨rfl, b5⟩
    have Q0_5 := (Box2.new w4 _ _ _).to (b5)
    have s5 : Below w4.heap.size w4 w5 := (by repeat (first | exact Below.refl _ _ | refine Below.setCell ?_ (by simp; try omega) _ | refine Below.alloc ?_ (by simp [World.setCell]; try omega) _ | refine below_drewN ?_ _ | refine Below.drew ?_ | refine below_tr ?_ ‹Below _ _ _›))
    have P0_5 := P0_4.to s5; clear P0_4
    have R0_5 := Lib.hid (R0_4.out.below s5); clear R0_4
    have Rx0_5 := Lib.hid (X0_4.out.below s5); clear X0_4
    have S5 : Below w.heap.size w w5 := below_tr S4 s5
    go_wp2_with fail
    go_region_held3 (fun w' => Box2 w' w.heap.size (.slice A0 n0 c0) (.int .i64 k0) ∧ Box2 w' w4.heap.size (.slice (some ⟨g4, 0, none⟩) n0 n0) (.int .i64 k0)) (first | exact ⟨P0_5, Q0_5⟩ | exact ⟨P0_5.to (of_drew b6), Q0_5.to (of_drew b6)⟩ | exact ⟨(P0_5.to (of_drew b6)).to b7, (Q0_5.to (of_drew b6)).to b7⟩ | skip)
      (first | (go_at_call 25; refine (toAffine_c (R0_5.out.below (Below.refl _ _).drew) HN0.out).mono ?_; rintro e w6 ⟨g6, rfl, r6, hg6, b6⟩) | (go_at_call 27; refine (eqAffine_c (Rx0_5.out.below (of_drew b6)) r6).mono ?_; rintro e w7 ⟨rfl, b7⟩))
    have t7 : Below w5.heap.size w5 w7 := below_tr (of_drew b6) b7
    clear b6 b7 r6 hg6
    have P0_7 := P0_5.to (t7); clear P0_5
    have Q0_7 := Q0_5.to (t7); clear Q0_5
    have R0_7 := Lib.hid (R0_5.out.below (t7)); clear R0_5
    have Rx0_7 := Lib.hid (Rx0_5.out.below (t7)); clear Rx0_5
    have S7 : Below w.heap.size w w7 := below_tr S5 (t7)
    go_wp2
    go_ret
    exact ⟨rfl, S7⟩
end Go.Proofs.Yteocehclphnioaa
