/- The law FnExactEvalAffine: its walk: the copies, the reference's and the program's call, the comparison. -/
import Derived.Test.YteocehclphnioaaLaw
import Derived.Test.YteocehclphnioaaDepth
namespace Go.Proofs.Yteocehclphnioaa
open Go.ChangeShapes Go.WideShapes Go.ChangeAt Go.RowKit Go.Deep

set_option maxHeartbeats 2000000 in
theorem FnExactEvalAffine_walk {w : World} {x0 : Aff} {A0 : Option Addr} {n0 c0 : Nat} {k0 : Int} {bs0 : List Nat} {x1 : List Int} {A1 : Option Addr} {n1 c1 : Nat} {bs1 : List Nat} (h0 : Rep w x0.d [.slice A0 n0 c0, .int .i64 k0] bs0) (h1 : Rep w (ints x1) [.slice A1 n1 c1] bs1) :
    Calls Try.prog 11 #[.agg #[.slice A0 n0 c0, .int .i64 k0], .slice A1 n1 c1] w fun e w' => e = .returned (.bool true) ∧ Below w.heap.size w w' := by
  have H0 := Lib.hid h0; clear h0
  have hm1 : n1 ≤ 9223372036854775807 := Nat.le_trans h1.ints_len.2.1 h1.ints_len.2.2
  have H1 := Lib.hid h1; clear h1
  by_cases hbig1 : 1048576 < n1
  · skip
    go_enter Try.func11, Try.ntmps11
    go_wp2
    go_ret
    exact ⟨rfl, (by repeat (first | exact Below.refl _ _ | refine Below.setCell ?_ (by simp; try omega) _ | refine Below.alloc ?_ (by simp [World.setCell]; try omega) _ | refine below_drewN ?_ _ | refine Below.drew ?_ | refine below_tr ?_ ‹Below _ _ _›))⟩
  · have HN1 := Lib.hid (show n1 ≤ 10000000 by omega)
    by_cases hs0 : (1048576 : Int) - n0 < 0
    · have HS0 := Lib.hid (szR_neg hs0)
      go_enter Try.func11, Try.ntmps11
      go_wp2_with fail
      refine (szAffine_c (H0.out.below (by repeat (first | exact Below.refl _ _ | refine Below.setCell ?_ (by simp; try omega) _ | refine Below.alloc ?_ (by simp [World.setCell]; try omega) _ | refine below_drewN ?_ _ | refine Below.drew ?_ | refine below_tr ?_ ‹Below _ _ _›))) (by omega) (by omega)).mono ?_
      rintro e v1 ⟨rfl, bv1⟩
      rw [HS0.out]
      go_wp2
      go_ret
      exact ⟨rfl, (by repeat (first | exact Below.refl _ _ | refine Below.setCell ?_ (by simp; try omega) _ | refine Below.alloc ?_ (by simp [World.setCell]; try omega) _ | refine below_drewN ?_ _ | refine Below.drew ?_ | refine below_tr ?_ ‹Below _ _ _›))⟩
    · have HS0 := Lib.hid (szR_pos (left := 1048576) (tot := n0) (by omega))
      have HN0 := Lib.hid (show n0 ≤ 10000000 by omega)
      have hl0 : 0 ≤ (1048576 : Int) - n0 := by omega
      clear hs0
      have hq : ((EvalAffineF x0 x1) != (EvalAffineF x0 x1)) = false := by simp
      go_enter Try.func11, Try.ntmps11
      go_wp2_with fail
      refine (szAffine_c (H0.out.below (by repeat (first | exact Below.refl _ _ | refine Below.setCell ?_ (by simp; try omega) _ | refine Below.alloc ?_ (by simp [World.setCell]; try omega) _ | refine below_drewN ?_ _ | refine Below.drew ?_ | refine below_tr ?_ ‹Below _ _ _›))) (by omega) (by omega)).mono ?_
      rintro e w1 ⟨rfl, b1⟩
      rw [HS0.out]
      have P0_1 := (Box2.new w _ _ _).to (b1)
      have s1 : Below w.heap.size w w1 := (by repeat (first | exact Below.refl _ _ | refine Below.setCell ?_ (by simp; try omega) _ | refine Below.alloc ?_ (by simp [World.setCell]; try omega) _ | refine below_drewN ?_ _ | refine Below.drew ?_ | refine below_tr ?_ ‹Below _ _ _›))
      have R0_1 := Lib.hid (H0.out.below s1); clear H0
      have R1_1 := Lib.hid (H1.out.below s1); clear H1
      have S1 : Below w.heap.size w w1 := s1
      go_wp2_with fail
      refine (toAffine_c (R0_1.out.below (by repeat (first | exact Below.refl _ _ | refine Below.setCell ?_ (by simp; try omega) _ | refine Below.alloc ?_ (by simp [World.setCell]; try omega) _ | refine below_drewN ?_ _ | refine Below.drew ?_ | refine below_tr ?_ ‹Below _ _ _›))) HN0.out).mono ?_
      rintro e w2 ⟨g2, rfl, r2, hg2, b2⟩
      have P0_2 := P0_1.to (b2); clear P0_1
      have R0_2 := Lib.hid (R0_1.out.below (b2)); clear R0_1
      have R1_2 := Lib.hid (R1_1.out.below (b2)); clear R1_1
      have S2 : Below w.heap.size w w2 := below_tr S1 (b2)
      have C0_2 := Lib.hid r2; clear r2 hg2
      go_wp2_with fail
      refine (toIntS_c (R1_2.out.below (by repeat (first | exact Below.refl _ _ | refine Below.setCell ?_ (by simp; try omega) _ | refine Below.alloc ?_ (by simp [World.setCell]; try omega) _ | refine below_drewN ?_ _ | refine Below.drew ?_ | refine below_tr ?_ ‹Below _ _ _›))) HN1.out).mono ?_
      rintro e w3 ⟨g3, rfl, r3, hg3, b3⟩
      have P0_3 := P0_2.to (b3); clear P0_2
      have R0_3 := Lib.hid (R0_2.out.below (b3)); clear R0_2
      have R1_3 := Lib.hid (R1_2.out.below (b3)); clear R1_2
      have Rc0_3 := Lib.hid (C0_2.out.below (b3)); clear C0_2
      have S3 : Below w.heap.size w w3 := below_tr S2 (b3)
      have C1_3 := Lib.hid r3; clear r3 hg3
      go_wp2_with fail
      refine (specEvalAffine_c (Rc0_3.out.below (by repeat (first | exact Below.refl _ _ | refine Below.setCell ?_ (by simp; try omega) _ | refine Below.alloc ?_ (by simp [World.setCell]; try omega) _ | refine below_drewN ?_ _ | refine Below.drew ?_ | refine below_tr ?_ ‹Below _ _ _›))) (C1_3.out.below (by repeat (first | exact Below.refl _ _ | refine Below.setCell ?_ (by simp; try omega) _ | refine Below.alloc ?_ (by simp [World.setCell]; try omega) _ | refine below_drewN ?_ _ | refine Below.drew ?_ | refine below_tr ?_ ‹Below _ _ _›)))).mono ?_
      rintro e w4 ⟨rfl, b4⟩
      have P0_4 := P0_3.to (b4); clear P0_3
      have R0_4 := Lib.hid (R0_3.out.below (b4)); clear R0_3
      have R1_4 := Lib.hid (R1_3.out.below (b4)); clear R1_3
      have S4 : Below w.heap.size w w4 := below_tr S3 (b4)
      go_wp2_with fail
      refine (toAffine_c (R0_4.out.below (by repeat (first | exact Below.refl _ _ | refine Below.setCell ?_ (by simp; try omega) _ | refine Below.alloc ?_ (by simp [World.setCell]; try omega) _ | refine below_drewN ?_ _ | refine Below.drew ?_ | refine below_tr ?_ ‹Below _ _ _›))) HN0.out).mono ?_
      rintro e w5 ⟨g5, rfl, r5, hg5, b5⟩
      have P0_5 := P0_4.to (b5); clear P0_4
      have R0_5 := Lib.hid (R0_4.out.below (b5)); clear R0_4
      have R1_5 := Lib.hid (R1_4.out.below (b5)); clear R1_4
      have S5 : Below w.heap.size w w5 := below_tr S4 (b5)
      have X0_5 := Lib.hid r5; clear r5 hg5
      go_wp2_with fail
      refine (toIntS_c (R1_5.out.below (by repeat (first | exact Below.refl _ _ | refine Below.setCell ?_ (by simp; try omega) _ | refine Below.alloc ?_ (by simp [World.setCell]; try omega) _ | refine below_drewN ?_ _ | refine Below.drew ?_ | refine below_tr ?_ ‹Below _ _ _›))) HN1.out).mono ?_
      rintro e w6 ⟨g6, rfl, r6, hg6, b6⟩
      have Q0_6 := (Box2.new w5 _ _ _).to (b6)
      have s6 : Below w5.heap.size w5 w6 := (by repeat (first | exact Below.refl _ _ | refine Below.setCell ?_ (by simp; try omega) _ | refine Below.alloc ?_ (by simp [World.setCell]; try omega) _ | refine below_drewN ?_ _ | refine Below.drew ?_ | refine below_tr ?_ ‹Below _ _ _›))
      have P0_6 := P0_5.to s6; clear P0_5
      have R0_6 := Lib.hid (R0_5.out.below s6); clear R0_5
      have R1_6 := Lib.hid (R1_5.out.below s6); clear R1_5
      have Rx0_6 := Lib.hid (X0_5.out.below s6); clear X0_5
      have S6 : Below w.heap.size w w6 := below_tr S5 s6
      have X1_6 := Lib.hid r6; clear r6 hg6
      go_wp2_with fail
      refine (implEvalAffine_c (Rx0_6.out.below (by repeat (first | exact Below.refl _ _ | refine Below.setCell ?_ (by simp; try omega) _ | refine Below.alloc ?_ (by simp [World.setCell]; try omega) _ | refine below_drewN ?_ _ | refine Below.drew ?_ | refine below_tr ?_ ‹Below _ _ _›))) (X1_6.out.below (by repeat (first | exact Below.refl _ _ | refine Below.setCell ?_ (by simp; try omega) _ | refine Below.alloc ?_ (by simp [World.setCell]; try omega) _ | refine below_drewN ?_ _ | refine Below.drew ?_ | refine below_tr ?_ ‹Below _ _ _›)))).mono ?_
      rintro e w7 ⟨rfl, b7⟩
      have P0_7 := P0_6.to (b7); clear P0_6
      have Q0_7 := Q0_6.to (b7); clear Q0_6
      have R0_7 := Lib.hid (R0_6.out.below (b7)); clear R0_6
      have R1_7 := Lib.hid (R1_6.out.below (b7)); clear R1_6
      have Rx0_7 := Lib.hid (Rx0_6.out.below (b7)); clear Rx0_6
      have Rx1_7 := Lib.hid (X1_6.out.below (b7)); clear X1_6
      have S7 : Below w.heap.size w w7 := below_tr S6 (b7)
      go_wp2_with fail
      go_region_held3 (fun w' => Box2 w' w.heap.size (.slice A0 n0 c0) (.int .i64 k0) ∧ Box2 w' w5.heap.size (.slice (some ⟨g5, 0, none⟩) n0 n0) (.int .i64 k0)) (first | exact ⟨P0_7, Q0_7⟩ | exact ⟨P0_7.to (of_drew b8), Q0_7.to (of_drew b8)⟩ | exact ⟨(P0_7.to (of_drew b8)).to b9, (Q0_7.to (of_drew b8)).to b9⟩ | skip)
        (first | (go_at_call 25; refine (toAffine_c (R0_7.out.below (Below.refl _ _).drew) HN0.out).mono ?_; rintro e w8 ⟨g8, rfl, r8, hg8, b8⟩) | (go_at_call 27; refine (eqAffine_c (Rx0_7.out.below (of_drew b8)) r8).mono ?_; rintro e w9 ⟨rfl, b9⟩))
      have t9 : Below w7.heap.size w7 w9 := below_tr (of_drew b8) b9
      clear b8 b9 r8 hg8
      have P0_9 := P0_7.to (t9); clear P0_7
      have Q0_9 := Q0_7.to (t9); clear Q0_7
      have R0_9 := Lib.hid (R0_7.out.below (t9)); clear R0_7
      have R1_9 := Lib.hid (R1_7.out.below (t9)); clear R1_7
      have Rx0_9 := Lib.hid (Rx0_7.out.below (t9)); clear Rx0_7
      have Rx1_9 := Lib.hid (Rx1_7.out.below (t9)); clear Rx1_7
      have S9 : Below w.heap.size w w9 := below_tr S7 (t9)
      go_wp2_with fail
      refine (toIntS_c (R1_9.out.below (by repeat (first | exact Below.refl _ _ | refine Below.setCell ?_ (by simp; try omega) _ | refine Below.alloc ?_ (by simp [World.setCell]; try omega) _ | refine below_drewN ?_ _ | refine Below.drew ?_ | refine below_tr ?_ ‹Below _ _ _›))) HN1.out).mono ?_
      rintro e w10 ⟨g10, rfl, r10, hg10, b10⟩
      have P0_10 := P0_9.to (b10); clear P0_9
      have Q0_10 := Q0_9.to (b10); clear Q0_9
      have R0_10 := Lib.hid (R0_9.out.below (b10)); clear R0_9
      have R1_10 := Lib.hid (R1_9.out.below (b10)); clear R1_9
      have Rx0_10 := Lib.hid (Rx0_9.out.below (b10)); clear Rx0_9
      have Rx1_10 := Lib.hid (Rx1_9.out.below (b10)); clear Rx1_9
      have S10 : Below w.heap.size w w10 := below_tr S9 (b10)
      go_wp2_with fail
      refine (eqIntS_c Rx1_10.out r10).mono ?_
      rintro e w11 ⟨rfl, nq10, rfl⟩
      have t11 : Below w10.heap.size w10 (w10.drewN nq10) := below_drewN (Below.refl _ _) _
      have P0_11 := P0_10.to (t11); clear P0_10
      have Q0_11 := Q0_10.to (t11); clear Q0_10
      have R0_11 := Lib.hid (R0_10.out.below (t11)); clear R0_10
      have R1_11 := Lib.hid (R1_10.out.below (t11)); clear R1_10
      have Rx0_11 := Lib.hid (Rx0_10.out.below (t11)); clear Rx0_10
      have Rx1_11 := Lib.hid (Rx1_10.out.below (t11)); clear Rx1_10
      have S11 : Below w.heap.size w (w10.drewN nq10) := below_tr S10 (t11)
      go_wp2
      go_ret
      exact ⟨rfl, S11⟩
end Go.Proofs.Yteocehclphnioaa
