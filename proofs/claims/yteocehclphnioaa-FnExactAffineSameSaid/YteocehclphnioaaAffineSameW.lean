/- The law FnExactAffineSame: its walk: the copies, the reference's and the program's call, the comparison. -/
import Derived.Test.YteocehclphnioaaLaw
import Derived.Test.YteocehclphnioaaSame
namespace Go.Proofs.Yteocehclphnioaa
open Go.ChangeShapes Go.WideShapes Go.ChangeAt Go.RowKit Go.Deep

set_option maxHeartbeats 2000000 in
theorem FnExactAffineSame_walk {w : World} {x0 : Aff} {A0 : Option Addr} {n0 c0 : Nat} {k0 : Int} {bs0 : List Nat} {x1 : Aff} {A1 : Option Addr} {n1 c1 : Nat} {k1 : Int} {bs1 : List Nat} (h0 : Rep w x0.d [.slice A0 n0 c0, .int .i64 k0] bs0) (h1 : Rep w x1.d [.slice A1 n1 c1, .int .i64 k1] bs1) :
    Calls Try.prog 8 #[.agg #[.slice A0 n0 c0, .int .i64 k0], .agg #[.slice A1 n1 c1, .int .i64 k1]] w fun e w' => e = .returned (.bool true) ∧ Below w.heap.size w w' := by
  have H0 := Lib.hid h0; clear h0
  have H1 := Lib.hid h1; clear h1
  by_cases hs0 : (1048576 : Int) - n0 < 0
  · have HS0 := Lib.hid (szR_neg hs0)
    go_enter Try.func8, Try.ntmps8
    go_wp2_with fail
    refine (szAffine_c (H0.out.below (by repeat (first | exact Below.refl _ _ | refine Below.setCell ?_ (by simp; try omega) _ | refine Below.alloc ?_ (by simp [World.setCell]; try omega) _ | refine below_drewN ?_ _ | refine Below.drew ?_ | refine below_tr ?_ ‹Below _ _ _›))) (by omega) (by omega)).mono ?_
    rintro e v1 ⟨rfl, bv1⟩
    rw [HS0.out]
    go_wp2
    go_ret
    exact ⟨rfl, (by repeat (first | exact Below.refl _ _ | refine Below.setCell ?_ (by simp; try omega) _ | refine Below.alloc ?_ (by simp [World.setCell]; try omega) _ | refine below_drewN ?_ _ | refine Below.drew ?_ | refine below_tr ?_ ‹Below _ _ _›))⟩
  · have HS0 := Lib.hid (szR_pos (left := 1048576) (tot := n0) (by omega))
    have HN0 := Lib.hid (show n0 ≤ 10000000 by omega)
    have hl0 : 0 ≤ (1048576 : Int) - n0 := by omega
    clear hs0
    by_cases hs1 : ((1048576 - (n0 : Int)) : Int) - n1 < 0
    · have HS1 := Lib.hid (szR_neg hs1)
      go_enter Try.func8, Try.ntmps8
      go_wp2_with fail
      refine (szAffine_c (H0.out.below (by repeat (first | exact Below.refl _ _ | refine Below.setCell ?_ (by simp; try omega) _ | refine Below.alloc ?_ (by simp [World.setCell]; try omega) _ | refine below_drewN ?_ _ | refine Below.drew ?_ | refine below_tr ?_ ‹Below _ _ _›))) (by omega) (by omega)).mono ?_
      rintro e v1 ⟨rfl, bv1⟩
      rw [HS0.out]
      have Pv0 : Box2 v1 w.heap.size (.slice A0 n0 c0) (.int .i64 k0) := by
        constructor
        · rw [bv1.cell (by simp; try omega)]; go_simp
        · rw [bv1.cell (by simp; try omega)]; go_simp
      have Pv1 : Box2 v1 (w.heap.size + 1) (.slice A1 n1 c1) (.int .i64 k1) := by
        constructor
        · rw [bv1.cell (by simp; try omega)]; go_simp
        · rw [bv1.cell (by simp; try omega)]; go_simp
      have Sv1 : Below w.heap.size w v1 := (by repeat (first | exact Below.refl _ _ | refine Below.setCell ?_ (by simp; try omega) _ | refine Below.alloc ?_ (by simp [World.setCell]; try omega) _ | refine below_drewN ?_ _ | refine Below.drew ?_ | refine below_tr ?_ ‹Below _ _ _›))
      go_wp2_with fail
      refine (szAffine_c (H1.out.below (by repeat (first | exact Below.refl _ _ | refine Below.setCell ?_ (by simp; try omega) _ | refine Below.alloc ?_ (by simp [World.setCell]; try omega) _ | refine below_drewN ?_ _ | refine Below.drew ?_ | refine below_tr ?_ ‹Below _ _ _›))) (by omega) (by omega)).mono ?_
      rintro e v2 ⟨rfl, bv2⟩
      rw [HS1.out]
      go_wp2
      go_ret
      exact ⟨rfl, (by repeat (first | exact Below.refl _ _ | refine Below.setCell ?_ (by simp; try omega) _ | refine Below.alloc ?_ (by simp [World.setCell]; try omega) _ | refine below_drewN ?_ _ | refine Below.drew ?_ | refine below_tr ?_ ‹Below _ _ _›))⟩
    · have HS1 := Lib.hid (szR_pos (left := (1048576 - (n0 : Int))) (tot := n1) (by omega))
      have HN1 := Lib.hid (show n1 ≤ 10000000 by omega)
      have hl1 : 0 ≤ ((1048576 - (n0 : Int)) : Int) - n1 := by omega
      clear hs1
      have hq : ((affSame x0 x1) != (affSame x0 x1)) = false := by simp
      go_enter Try.func8, Try.ntmps8
      go_wp2_with fail
      refine (szAffine_c (H0.out.below (by repeat (first | exact Below.refl _ _ | refine Below.setCell ?_ (by simp; try omega) _ | refine Below.alloc ?_ (by simp [World.setCell]; try omega) _ | refine below_drewN ?_ _ | refine Below.drew ?_ | refine below_tr ?_ ‹Below _ _ _›))) (by omega) (by omega)).mono ?_
      rintro e w1 ⟨rfl, b1⟩
      rw [HS0.out]
      have P0_1 : Box2 w1 w.heap.size (.slice A0 n0 c0) (.int .i64 k0) := by
        constructor
        · rw [(b1).cell (by simp; try omega)]; go_simp
        · rw [(b1).cell (by simp; try omega)]; go_simp
      have P1_1 : Box2 w1 (w.heap.size + 1) (.slice A1 n1 c1) (.int .i64 k1) := by
        constructor
        · rw [(b1).cell (by simp; try omega)]; go_simp
        · rw [(b1).cell (by simp; try omega)]; go_simp
      have s1 : Below w.heap.size w w1 := (by repeat (first | exact Below.refl _ _ | refine Below.setCell ?_ (by simp; try omega) _ | refine Below.alloc ?_ (by simp [World.setCell]; try omega) _ | refine below_drewN ?_ _ | refine Below.drew ?_ | refine below_tr ?_ ‹Below _ _ _›))
      have R0_1 := Lib.hid (H0.out.below s1); clear H0
      have R1_1 := Lib.hid (H1.out.below s1); clear H1
      have S1 : Below w.heap.size w w1 := s1
      go_wp2_with fail
      refine (szAffine_c (R1_1.out.below (by repeat (first | exact Below.refl _ _ | refine Below.setCell ?_ (by simp; try omega) _ | refine Below.alloc ?_ (by simp [World.setCell]; try omega) _ | refine below_drewN ?_ _ | refine Below.drew ?_ | refine below_tr ?_ ‹Below _ _ _›))) (by omega) (by omega)).mono ?_
      rintro e w2 ⟨rfl, b2⟩
      rw [HS1.out]
      have P0_2 := P0_1.to (b2); clear P0_1
      have P1_2 := P1_1.to (b2); clear P1_1
      have R0_2 := Lib.hid (R0_1.out.below (b2)); clear R0_1
      have R1_2 := Lib.hid (R1_1.out.below (b2)); clear R1_1
      have S2 : Below w.heap.size w w2 := below_tr S1 (b2)
      go_wp2_with fail
      go_region_held3 (fun w' => Box2 w' w.heap.size (.slice A0 n0 c0) (.int .i64 k0) ∧ Box2 w' (w.heap.size + 1) (.slice A1 n1 c1) (.int .i64 k1)) (first | exact ⟨P0_2, P1_2⟩ | exact ⟨(P0_2.to (of_drew b3)), (P1_2.to (of_drew b3))⟩ | exact ⟨((P0_2.to (of_drew b3)).to b4), ((P1_2.to (of_drew b3)).to b4)⟩ | exact ⟨(((P0_2.to (of_drew b3)).to b4).to b5), (((P1_2.to (of_drew b3)).to b4).to b5)⟩ | skip)
        (first | (go_at_call_of 25 (Value.agg #[.slice A0 n0 c0, .int .i64 k0]); refine (toAffine_c (R0_2.out.below (Below.refl _ _).drew) HN0.out).mono ?_; rintro e w3 ⟨g3, rfl, r3, hg3, b3⟩) | (go_at_call_of 25 (Value.agg #[.slice A1 n1 c1, .int .i64 k1]); refine (toAffine_c (R1_2.out.below (of_drew b3)) HN1.out).mono ?_; rintro e w4 ⟨g4, rfl, r4, hg4, b4⟩) | (go_at_call 28; refine (specAffineSame_c (r3.below b4) r4).mono ?_; rintro e w5 ⟨rfl, b5⟩))
      have t5 : Below w2.heap.size w2 w5 := (below_tr (below_tr (of_drew b3) b4) b5)
      clear b3 b4 b5 r3 hg3 r4 hg4
      have P0_5 := P0_2.to (t5); clear P0_2
      have P1_5 := P1_2.to (t5); clear P1_2
      have R0_5 := Lib.hid (R0_2.out.below (t5)); clear R0_2
      have R1_5 := Lib.hid (R1_2.out.below (t5)); clear R1_2
      have S5 : Below w.heap.size w w5 := below_tr S2 (t5)
      go_wp2_with fail
      refine (toAffine_c (R0_5.out.below (by repeat (first | exact Below.refl _ _ | refine Below.setCell ?_ (by simp; try omega) _ | refine Below.alloc ?_ (by simp [World.setCell]; try omega) _ | refine below_drewN ?_ _ | refine Below.drew ?_ | refine below_tr ?_ ‹Below _ _ _›))) HN0.out).mono ?_
      rintro e w6 ⟨g6, rfl, r6, hg6, b6⟩
      have P0_6 := P0_5.to (b6); clear P0_5
      have P1_6 := P1_5.to (b6); clear P1_5
      have R0_6 := Lib.hid (R0_5.out.below (b6)); clear R0_5
      have R1_6 := Lib.hid (R1_5.out.below (b6)); clear R1_5
      have S6 : Below w.heap.size w w6 := below_tr S5 (b6)
      have X0_6 := Lib.hid r6; clear r6 hg6
      have lP0_6q := lt_of_cell P0_6.1
      have lP1_6q := lt_of_cell P1_6.1
      go_wp2_with fail
      refine (toAffine_c (R1_6.out.below (by repeat (first | exact Below.refl _ _ | refine Below.setCell ?_ (by simp; try omega) _ | refine Below.alloc ?_ (by simp [World.setCell]; try omega) _ | refine below_drewN ?_ _ | refine Below.drew ?_ | refine below_tr ?_ ‹Below _ _ _›))) HN1.out).mono ?_
      rintro e w7 ⟨g7, rfl, r7, hg7, b7⟩
      have Q0_7 := (Box2.new w6 _ _ _).to (b7)
      have s7 : Below w6.heap.size w6 w7 := (by repeat (first | exact Below.refl _ _ | refine Below.setCell ?_ (by simp; try omega) _ | refine Below.alloc ?_ (by simp [World.setCell]; try omega) _ | refine below_drewN ?_ _ | refine Below.drew ?_ | refine below_tr ?_ ‹Below _ _ _›))
      have P0_7 := P0_6.to s7; clear P0_6
      have P1_7 := P1_6.to s7; clear P1_6
      have R0_7 := Lib.hid (R0_6.out.below s7); clear R0_6
      have R1_7 := Lib.hid (R1_6.out.below s7); clear R1_6
      have Rx0_7 := Lib.hid (X0_6.out.below s7); clear X0_6
      have S7 : Below w.heap.size w w7 := below_tr S6 s7
      have X1_7 := Lib.hid r7; clear r7 hg7
      have lP0_7q := lt_of_cell P0_7.1
      have lP1_7q := lt_of_cell P1_7.1
      have lQ0_7q := lt_of_cell Q0_7.1
      go_wp2_with fail
      refine (implAffineSame_c (Rx0_7.out.below (by repeat (first | exact Below.refl _ _ | refine Below.setCell ?_ (by simp; try omega) _ | refine Below.alloc ?_ (by simp [World.setCell]; try omega) _ | refine below_drewN ?_ _ | refine Below.drew ?_ | refine below_tr ?_ ‹Below _ _ _›))) (X1_7.out.below (by repeat (first | exact Below.refl _ _ | refine Below.setCell ?_ (by simp; try omega) _ | refine Below.alloc ?_ (by simp [World.setCell]; try omega) _ | refine below_drewN ?_ _ | refine Below.drew ?_ | refine below_tr ?_ ‹Below _ _ _›)))).mono ?_
      rintro e w8 ⟨rfl, b8⟩
      have Q1_8 := (Box2.new w7 _ _ _).to (b8)
      have s8 : Below w7.heap.size w7 w8 := (by repeat (first | exact Below.refl _ _ | refine Below.setCell ?_ (by simp; try omega) _ | refine Below.alloc ?_ (by simp [World.setCell]; try omega) _ | refine below_drewN ?_ _ | refine Below.drew ?_ | refine below_tr ?_ ‹Below _ _ _›))
      have P0_8 := P0_7.to s8; clear P0_7
      have P1_8 := P1_7.to s8; clear P1_7
      have Q0_8 := Q0_7.to s8; clear Q0_7
      have R0_8 := Lib.hid (R0_7.out.below s8); clear R0_7
      have R1_8 := Lib.hid (R1_7.out.below s8); clear R1_7
      have Rx0_8 := Lib.hid (Rx0_7.out.below s8); clear Rx0_7
      have Rx1_8 := Lib.hid (X1_7.out.below s8); clear X1_7
      have S8 : Below w.heap.size w w8 := below_tr S7 s8
      go_wp2_with fail
      go_region_held3 (fun w' => Box2 w' w.heap.size (.slice A0 n0 c0) (.int .i64 k0) ∧ Box2 w' w6.heap.size (.slice (some ⟨g6, 0, none⟩) n0 n0) (.int .i64 k0)) (first | exact ⟨P0_8, Q0_8⟩ | exact ⟨P0_8.to (of_drew b9), Q0_8.to (of_drew b9)⟩ | exact ⟨(P0_8.to (of_drew b9)).to b10, (Q0_8.to (of_drew b9)).to b10⟩ | skip)
        (first | (go_at_call 25; refine (toAffine_c (R0_8.out.below (Below.refl _ _).drew) HN0.out).mono ?_; rintro e w9 ⟨g9, rfl, r9, hg9, b9⟩) | (go_at_call 27; refine (eqAffine_c (Rx0_8.out.below (of_drew b9)) r9).mono ?_; rintro e w10 ⟨rfl, b10⟩))
      have t10 : Below w8.heap.size w8 w10 := below_tr (of_drew b9) b10
      clear b9 b10 r9 hg9
      have P0_10 := P0_8.to (t10); clear P0_8
      have P1_10 := P1_8.to (t10); clear P1_8
      have Q0_10 := Q0_8.to (t10); clear Q0_8
      have Q1_10 := Q1_8.to (t10); clear Q1_8
      have R0_10 := Lib.hid (R0_8.out.below (t10)); clear R0_8
      have R1_10 := Lib.hid (R1_8.out.below (t10)); clear R1_8
      have Rx0_10 := Lib.hid (Rx0_8.out.below (t10)); clear Rx0_8
      have Rx1_10 := Lib.hid (Rx1_8.out.below (t10)); clear Rx1_8
      have S10 : Below w.heap.size w w10 := below_tr S8 (t10)
      go_wp2_with fail
      go_region_held3 (fun w' => Box2 w' (w.heap.size + 1) (.slice A1 n1 c1) (.int .i64 k1) ∧ Box2 w' w7.heap.size (.slice (some ⟨g7, 0, none⟩) n1 n1) (.int .i64 k1)) (first | exact ⟨P1_10, Q1_10⟩ | exact ⟨P1_10.to (of_drew b11), Q1_10.to (of_drew b11)⟩ | exact ⟨(P1_10.to (of_drew b11)).to b12, (Q1_10.to (of_drew b11)).to b12⟩ | skip)
        (first | (go_at_call 25; refine (toAffine_c (R1_10.out.below (Below.refl _ _).drew) HN1.out).mono ?_; rintro e w11 ⟨g11, rfl, r11, hg11, b11⟩) | (go_at_call 27; refine (eqAffine_c (Rx1_10.out.below (of_drew b11)) r11).mono ?_; rintro e w12 ⟨rfl, b12⟩))
      have t12 : Below w10.heap.size w10 w12 := below_tr (of_drew b11) b12
      clear b11 b12 r11 hg11
      have P0_12 := P0_10.to (t12); clear P0_10
      have P1_12 := P1_10.to (t12); clear P1_10
      have Q0_12 := Q0_10.to (t12); clear Q0_10
      have Q1_12 := Q1_10.to (t12); clear Q1_10
      have R0_12 := Lib.hid (R0_10.out.below (t12)); clear R0_10
      have R1_12 := Lib.hid (R1_10.out.below (t12)); clear R1_10
      have Rx0_12 := Lib.hid (Rx0_10.out.below (t12)); clear Rx0_10
      have Rx1_12 := Lib.hid (Rx1_10.out.below (t12)); clear Rx1_10
      have S12 : Below w.heap.size w w12 := below_tr S10 (t12)
      go_wp2
      go_ret
      exact ⟨rfl, S12⟩
end Go.Proofs.Yteocehclphnioaa
