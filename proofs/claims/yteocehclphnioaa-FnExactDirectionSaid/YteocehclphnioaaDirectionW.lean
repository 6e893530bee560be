/- The law FnExactDirection: its walk: the copies, the reference's and the program's call, the comparison. -/
import Derived.Test.YteocehclphnioaaLaw
import Derived.Test.YteocehclphnioaaDirection
namespace Go.Proofs.Yteocehclphnioaa
open Go.ChangeShapes Go.WideShapes Go.ChangeAt Go.RowKit Go.Deep

set_option maxHeartbeats 2000000 in
theorem FnExactDirection_walk {w : World} {x0 : List Int} {A0 : Option Addr} {n0 c0 : Nat} {bs0 : List Nat} (h0 : Rep w (ints x0) [.slice A0 n0 c0] bs0) :
    Calls Try.prog 5 #[.slice A0 n0 c0] w fun e w' => e = .returned (.bool true) ∧ Below w.heap.size w w' := by
  have hm0 : n0 ≤ 9223372036854775807 := Nat.le_trans h0.ints_len.2.1 h0.ints_len.2.2
  have H0 := Lib.hid h0; clear h0
  by_cases hbig0 : 1048576 < n0
  · skip
    go_enter Try.func5, Try.ntmps5
    go_wp2
    go_ret
    exact ⟨rfl, (by repeat (first | exact Below.refl _ _ | refine Below.setCell ?_ (by simp; try omega) _ | refine Below.alloc ?_ (by simp [World.setCell]; try omega) _ | refine below_drewN ?_ _ | refine Below.drew ?_ | refine below_tr ?_ ‹Below _ _ _›))⟩
  · have HN0 := Lib.hid (show n0 ≤ 10000000 by omega)
    go_enter Try.func5, Try.ntmps5
    go_wp2_with fail
    refine (toIntS_c (H0.out.below (by repeat (first | exact Below.refl _ _ | refine Below.setCell ?_ (by simp; try omega) _ | refine Below.alloc ?_ (by simp [World.setCell]; try omega) _ | refine below_drewN ?_ _ | refine Below.drew ?_ | refine below_tr ?_ ‹Below _ _ _›))) HN0.out).mono ?_
    rintro e w1 ⟨g1, rfl, r1, hg1, b1⟩
    have R0_1 := Lib.hid (H0.out.below (b1)); clear H0
    have S1 : Below w.heap.size w w1 := (b1)
    have C0_1 := Lib.hid r1; clear r1 hg1
    go_wp2_with fail
    refine (sameB (specDirection_c (C0_1.out.below (by repeat (first | exact Below.refl _ _ | refine Below.setCell ?_ (by simp; try omega) _ | refine Below.alloc ?_ (by simp [World.setCell]; try omega) _ | refine below_drewN ?_ _ | refine Below.drew ?_ | refine below_tr ?_ ‹Below _ _ _›))))).mono ?_
    rintro e w2 ⟨rfl, b2⟩
    have R0_2 := Lib.hid (R0_1.out.below (b2)); clear R0_1
    have S2 : Below w.heap.size w w2 := below_tr S1 (b2)
    go_wp2_with fail
    refine (toIntS_c (R0_2.out.below (by repeat (first | exact Below.refl _ _ | refine Below.setCell ?_ (by simp; try omega) _ | refine Below.alloc ?_ (by simp [World.setCell]; try omega) _ | refine below_drewN ?_ _ | refine Below.drew ?_ | refine below_tr ?_ ‹Below _ _ _›))) HN0.out).mono ?_
    rintro e w3 ⟨g3, rfl, r3, hg3, b3⟩
    have R0_3 := Lib.hid (R0_2.out.below (b3)); clear R0_2
    have S3 : Below w.heap.size w w3 := below_tr S2 (b3)
    have X0_3 := Lib.hid r3; clear r3 hg3
    go_wp2_with fail
    refine (sameB (implDirection_c (X0_3.out.below (by repeat (first | exact Below.refl _ _ | refine Below.setCell ?_ (by simp; try omega) _ | refine Below.alloc ?_ (by simp [World.setCell]; try omega) _ | refine below_drewN ?_ _ | refine Below.drew ?_ | refine below_tr ?_ ‹Below _ _ _›))))).mono ?_
    rintro e w4 ⟨rfl, b4⟩
    have R0_4 := Lib.hid (R0_3.out.below (b4)); clear R0_3
    have Rx0_4 := Lib.hid (X0_3.out.below (b4)); clear X0_3
    have S4 : Below w.heap.size w w4 := below_tr S3 (b4)
    go_wp2_with fail
    refine (toIntS_c (R0_4.out.below (by repeat (first | exact Below.refl _ _ | refine Below.setCell ?_ (by simp; try omega) _ | refine Below.alloc ?_ (by simp [World.setCell]; try omega) _ | refine below_drewN ?_ _ | refine Below.drew ?_ | refine below_tr ?_ ‹Below _ _ _›))) HN0.out).mono ?_
    rintro e w5 ⟨g5, rfl, r5, hg5, b5⟩
    have R0_5 := Lib.hid (R0_4.out.below (b5)); clear R0_4
    have Rx0_5 := Lib.hid (Rx0_4.out.below (b5)); clear Rx0_4
    have S5 : Below w.heap.size w w5 := below_tr S4 (b5)
    go_wp2_with fail
    refine (eqIntS_c Rx0_5.out r5).mono ?_
    rintro e w6 ⟨rfl, nq5, rfl⟩
    have t6 : Below w5.heap.size w5 (w5.drewN nq5) := below_drewN (Below.refl _ _) _
    have R0_6 := Lib.hid (R0_5.out.below (t6)); clear R0_5
    have Rx0_6 := Lib.hid (Rx0_5.out.below (t6)); clear Rx0_5
    have S6 : Below w.heap.size w (w5.drewN nq5) := below_tr S5 (t6)
    go_wp2
    go_ret
    exact ⟨rfl, S6⟩
end Go.Proofs.Yteocehclphnioaa
