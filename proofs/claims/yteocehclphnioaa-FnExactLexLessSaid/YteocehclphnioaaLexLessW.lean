/- The law FnExactLexLess: its walk: the copies, the reference's and the program's call, the comparison. -/
import Derived.Test.YteocehclphnioaaLaw
import Derived.Test.YteocehclphnioaaSame
namespace Go.Proofs.Yteocehclphnioaa
open Go.ChangeShapes Go.WideShapes Go.ChangeAt Go.RowKit Go.Deep

set_option maxHeartbeats 2000000 in
theorem FnExactLexLess_walk {w : World} {x0 : List Int} {A0 : Option Addr} {n0 c0 : Nat} {bs0 : List Nat} {x1 : List Int} {A1 : Option Addr} {n1 c1 : Nat} {bs1 : List Nat} (h0 : Rep w (ints x0) [.slice A0 n0 c0] bs0) (h1 : Rep w (ints x1) [.slice A1 n1 c1] bs1) :
    Calls Try.prog 6 #[.slice A0 n0 c0, .slice A1 n1 c1] w fun e w' => e = .returned (.bool true) ∧ Below w.heap.size w w' := by
  have hm0 : n0 ≤ 9223372036854775807 := Nat.le_trans h0.ints_len.2.1 h0.ints_len.2.2
  have H0 := Lib.hid h0; clear h0
  have hm1 : n1 ≤ 9223372036854775807 := Nat.le_trans h1.ints_len.2.1 h1.ints_len.2.2
  have H1 := Lib.hid h1; clear h1
  by_cases hbig0 : 1048576 < n0
  · skip
    go_enter Try.func6, Try.ntmps6
    go_wp2
    go_ret
    exact ⟨rfl, (by repeat (first | exact Below.refl _ _ | refine Below.setCell ?_ (by simp; try omega) _ | refine Below.alloc ?_ (by simp [World.setCell]; try omega) _ | refine below_drewN ?_ _ | refine Below.drew ?_ | refine below_tr ?_ ‹Below _ _ _›))⟩
  · have HN0 := Lib.hid (show n0 ≤ 10000000 by omega)
    by_cases hbig1 : 1048576 < n1
    · skip
      go_enter Try.func6, Try.ntmps6
      go_wp2
      go_ret
      exact ⟨rfl, (by repeat (first | exact Below.refl _ _ | refine Below.setCell ?_ (by simp; try omega) _ | refine Below.alloc ?_ (by simp [World.setCell]; try omega) _ | refine below_drewN ?_ _ | refine Below.drew ?_ | refine below_tr ?_ ‹Below _ _ _›))⟩
    · have HN1 := Lib.hid (show n1 ≤ 10000000 by omega)
      have hq : ((LexLessF x0 x1) != (LexLessF x0 x1)) = false := by simp
      go_enter Try.func6, Try.ntmps6
      go_wp2_with fail
      refine (toIntS_c (H0.out.below (by repeat (first | exact Below.refl _ _ | refine Below.setCell ?_ (by simp; try omega) _ | refine Below.alloc ?_ (by simp [World.setCell]; try omega) _ | refine below_drewN ?_ _ | refine Below.drew ?_ | refine below_tr ?_ ‹Below _ _ _›))) HN0.out).mono ?_
      rintro e w1 ⟨g1, rfl, r1, hg1, b1⟩
      have R0_1 := Lib.hid (H0.out.below (b1)); clear H0
      have R1_1 := Lib.hid (H1.out.below (b1)); clear H1
      have S1 : Below w.heap.size w w1 := (b1)
      have C0_1 := Lib.hid r1; clear r1 hg1
      go_wp2_with fail
      refine (toIntS_c (R1_1.out.below (by repeat (first | exact Below.refl _ _ | refine Below.setCell ?_ (by simp; try omega) _ | refine Below.alloc ?_ (by simp [World.setCell]; try omega) _ | refine below_drewN ?_ _ | refine Below.drew ?_ | refine below_tr ?_ ‹Below _ _ _›))) HN1.out).mono ?_
      rintro e w2 ⟨g2, rfl, r2, hg2, b2⟩
      have R0_2 := Lib.hid (R0_1.out.below (b2)); clear R0_1
      have R1_2 := Lib.hid (R1_1.out.below (b2)); clear R1_1
      have Rc0_2 := Lib.hid (C0_1.out.below (b2)); clear C0_1
      have S2 : Below w.heap.size w w2 := below_tr S1 (b2)
      have C1_2 := Lib.hid r2; clear r2 hg2
      go_wp2_with fail
      refine (drewB (specLexLess_c (Rc0_2.out.below (by repeat (first | exact Below.refl _ _ | refine Below.setCell ?_ (by simp; try omega) _ | refine Below.alloc ?_ (by simp [World.setCell]; try omega) _ | refine below_drewN ?_ _ | refine Below.drew ?_ | refine below_tr ?_ ‹Below _ _ _›))) (C1_2.out.below (by repeat (first | exact Below.refl _ _ | refine Below.setCell ?_ (by simp; try omega) _ | refine Below.alloc ?_ (by simp [World.setCell]; try omega) _ | refine below_drewN ?_ _ | refine Below.drew ?_ | refine below_tr ?_ ‹Below _ _ _›))))).mono ?_
      rintro e w3 ⟨rfl, b3⟩
      have R0_3 := Lib.hid (R0_2.out.below (b3)); clear R0_2
      have R1_3 := Lib.hid (R1_2.out.below (b3)); clear R1_2
      have S3 : Below w.heap.size w w3 := below_tr S2 (b3)
      go_wp2_with fail
      refine (toIntS_c (R0_3.out.below (by repeat (first | exact Below.refl _ _ | refine Below.setCell ?_ (by simp; try omega) _ | refine Below.alloc ?_ (by simp [World.setCell]; try omega) _ | refine below_drewN ?_ _ | refine Below.drew ?_ | refine below_tr ?_ ‹Below _ _ _›))) HN0.out).mono ?_
      rintro e w4 ⟨g4, rfl, r4, hg4, b4⟩
      have R0_4 := Lib.hid (R0_3.out.below (b4)); clear R0_3
      have R1_4 := Lib.hid (R1_3.out.below (b4)); clear R1_3
      have S4 : Below w.heap.size w w4 := below_tr S3 (b4)
      have X0_4 := Lib.hid r4; clear r4 hg4
      go_wp2_with fail
      refine (toIntS_c (R1_4.out.below (by repeat (first | exact Below.refl _ _ | refine Below.setCell ?_ (by simp; try omega) _ | refine Below.alloc ?_ (by simp [World.setCell]; try omega) _ | refine below_drewN ?_ _ | refine Below.drew ?_ | refine below_tr ?_ ‹Below _ _ _›))) HN1.out).mono ?_
      rintro e w5 ⟨g5, rfl, r5, hg5, b5⟩
      have R0_5 := Lib.hid (R0_4.out.below (b5)); clear R0_4
      have R1_5 := Lib.hid (R1_4.out.below (b5)); clear R1_4
      have Rx0_5 := Lib.hid (X0_4.out.below (b5)); clear X0_4
      have S5 : Below w.heap.size w w5 := below_tr S4 (b5)
      have X1_5 := Lib.hid r5; clear r5 hg5
      go_wp2_with fail
      refine (sameB (implLexLess_c (Rx0_5.out.below (by repeat (first | exact Below.refl _ _ | refine Below.setCell ?_ (by simp; try omega) _ | refine Below.alloc ?_ (by simp [World.setCell]; try omega) _ | refine below_drewN ?_ _ | refine Below.drew ?_ | refine below_tr ?_ ‹Below _ _ _›))) (X1_5.out.below (by repeat (first | exact Below.refl _ _ | refine Below.setCell ?_ (by simp; try omega) _ | refine Below.alloc ?_ (by simp [World.setCell]; try omega) _ | refine below_drewN ?_ _ | refine Below.drew ?_ | refine below_tr ?_ ‹Below _ _ _›))))).mono ?_
      rintro e w6 ⟨rfl, b6⟩
      have R0_6 := Lib.hid (R0_5.out.below (b6)); clear R0_5
      have R1_6 := Lib.hid (R1_5.out.below (b6)); clear R1_5
      have Rx0_6 := Lib.hid (Rx0_5.out.below (b6)); clear Rx0_5
      have Rx1_6 := Lib.hid (X1_5.out.below (b6)); clear X1_5
      have S6 : Below w.heap.size w w6 := below_tr S5 (b6)
      go_wp2_with fail
      refine (toIntS_c (R0_6.out.below (by repeat (first | exact Below.refl _ _ | refine Below.setCell ?_ (by simp; try omega) _ | refine Below.alloc ?_ (by simp [World.setCell]; try omega) _ | refine below_drewN ?_ _ | refine Below.drew ?_ | refine below_tr ?_ ‹Below _ _ _›))) HN0.out).mono ?_
      rintro e w7 ⟨g7, rfl, r7, hg7, b7⟩
      have R0_7 := Lib.hid (R0_6.out.below (b7)); clear R0_6
      have R1_7 := Lib.hid (R1_6.out.below (b7)); clear R1_6
      have Rx0_7 := Lib.hid (Rx0_6.out.below (b7)); clear Rx0_6
      have Rx1_7 := Lib.hid (Rx1_6.out.below (b7)); clear Rx1_6
      have S7 : Below w.heap.size w w7 := below_tr S6 (b7)
      go_wp2_with fail
      refine (eqIntS_c Rx0_7.out r7).mono ?_
      rintro e w8 ⟨rfl, nq7, rfl⟩
      have t8 : Below w7.heap.size w7 (w7.drewN nq7) := below_drewN (Below.refl _ _) _
      have R0_8 := Lib.hid (R0_7.out.below (t8)); clear R0_7
      have R1_8 := Lib.hid (R1_7.out.below (t8)); clear R1_7
      have Rx0_8 := Lib.hid (Rx0_7.out.below (t8)); clear Rx0_7
      have Rx1_8 := Lib.hid (Rx1_7.out.below (t8)); clear Rx1_7
      have S8 : Below w.heap.size w (w7.drewN nq7) := below_tr S7 (t8)
      go_wp2_with fail
      refine (toIntS_c (R1_8.out.below (by repeat (first | exact Below.refl _ _ | refine Below.setCell ?_ (by simp; try omega) _ | refine Below.alloc ?_ (by simp [World.setCell]; try omega) _ | refine below_drewN ?_ _ | refine Below.drew ?_ | refine below_tr ?_ ‹Below _ _ _›))) HN1.out).mono ?_
      rintro e w9 ⟨g9, rfl, r9, hg9, b9⟩
      have R0_9 := Lib.hid (R0_8.out.below (b9)); clear R0_8
      have R1_9 := Lib.hid (R1_8.out.below (b9)); clear R1_8
      have Rx0_9 := Lib.hid (Rx0_8.out.below (b9)); clear Rx0_8
      have Rx1_9 := Lib.hid (Rx1_8.out.below (b9)); clear Rx1_8
      have S9 : Below w.heap.size w w9 := below_tr S8 (b9)
      go_wp2_with fail
      refine (eqIntS_c Rx1_9.out r9).mono ?_
      rintro e w10 ⟨rfl, nq9, rfl⟩
      have t10 : Below w9.heap.size w9 (w9.drewN nq9) := below_drewN (Below.refl _ _) _
      have R0_10 := Lib.hid (R0_9.out.below (t10)); clear R0_9
      have R1_10 := Lib.hid (R1_9.out.below (t10)); clear R1_9
      have Rx0_10 := Lib.hid (Rx0_9.out.below (t10)); clear Rx0_9
      have Rx1_10 := Lib.hid (Rx1_9.out.below (t10)); clear Rx1_9
      have S10 : Below w.heap.size w (w9.drewN nq9) := below_tr S9 (t10)
      go_wp2
      go_ret
      exact ⟨rfl, S10⟩
end Go.Proofs.Yteocehclphnioaa
