/- The law FnExactNestSame: its walk. Printed by lawgen.py. -/
import Derived.Test.YtlllidhmohdgiaaLaw
import Derived.Test.YtlllidhmohdgiaaNestSame
import Derived.Test.YtlllidhmohdgiaaTyLoop
namespace Go.Proofs.Ytlllidhmohdgiaa
open Go.ChangeShapes Go.WideShapes Go.ChangeAt Go.RowKit Go.Deep

set_option maxRecDepth 100000 in
set_option maxHeartbeats 2000000 in
theorem FnExactNestSame_walk {w : World} {x0 : List Lp} {A0 : Option Addr} {n0 : Nat} {c0 : Nat} {bs0 : List Nat} {x1 : List Lp} {A1 : Option Addr} {n1 : Nat} {c1 : Nat} {bs1 : List Nat} (h0 : Rep w (sls Lp.d x0) [.slice A0 n0 c0] bs0) (h1 : Rep w (sls Lp.d x1) [.slice A1 n1 c1] bs1) :
    Calls Try.prog 4 #[.slice A0 n0 c0, .slice A1 n1 c1] w fun e w' => e = .returned (.bool true) ∧ Below w.heap.size w w' := by
  have hm0 : n0 ≤ 9223372036854775807 := Nat.le_trans h0.sl_len.2.1 h0.sl_len.2.2
  have H0 := Lib.hid h0; clear h0
  have hm1 : n1 ≤ 9223372036854775807 := Nat.le_trans h1.sl_len.2.1 h1.sl_len.2.2
  have H1 := Lib.hid h1; clear h1
  by_cases hs0 : (1048576 : Int) - ((szD (sls Lp.d x0) : Nat) : Int) < 0
  · have HS0 := Lib.hid (szR_neg hs0)
    go_enter Try.func4, Try.ntmps4
    go_wp2_with fail
    refine (szLoopS_t (H0.out.below (by repeat (first | exact Below.refl _ _ | refine Below.setCell ?_ (by simp; try omega) _ | refine below_al ?_ _ | refine Below.alloc ?_ (by simp [World.setCell]; try omega) _ | refine below_drewN ?_ _ | refine Below.drew ?_ | refine below_tr ?_ ‹Below _ _ _›))) (by omega) (by omega)).mono ?_
    rintro e v1 ⟨rfl, bv1⟩
    rw [HS0.out]
    go_wp2
    go_ret
    exact ⟨rfl, (by repeat (first | exact Below.refl _ _ | refine Below.setCell ?_ (by simp; try omega) _ | refine below_al ?_ _ | refine Below.alloc ?_ (by simp [World.setCell]; try omega) _ | refine below_drewN ?_ _ | refine Below.drew ?_ | refine below_tr ?_ ‹Below _ _ _›))⟩
  · have HS0 := Lib.hid (szR_pos (left := 1048576) (tot := szD (sls Lp.d x0)) (by omega))
    have HN0 := Lib.hid (show szD (sls Lp.d x0) ≤ 1048576 by omega)
    have hl0 : 0 ≤ (1048576 : Int) - ((szD (sls Lp.d x0) : Nat) : Int) := by omega
    clear hs0
    by_cases hs1 : ((1048576 - ((szD (sls Lp.d x0) : Nat) : Int)) : Int) - ((szD (sls Lp.d x1) : Nat) : Int) < 0
    · have HS1 := Lib.hid (szR_neg hs1)
      go_enter Try.func4, Try.ntmps4
      go_wp2_with fail
      refine (szLoopS_t (H0.out.below (by repeat (first | exact Below.refl _ _ | refine Below.setCell ?_ (by simp; try omega) _ | refine below_al ?_ _ | refine Below.alloc ?_ (by simp [World.setCell]; try omega) _ | refine below_drewN ?_ _ | refine Below.drew ?_ | refine below_tr ?_ ‹Below _ _ _›))) (by omega) (by omega)).mono ?_
      rintro e v1 ⟨rfl, bv1⟩
      rw [HS0.out]
      have Sv1 : Below w.heap.size w v1 := (by repeat (first | exact Below.refl _ _ | refine Below.setCell ?_ (by simp; try omega) _ | refine below_al ?_ _ | refine Below.alloc ?_ (by simp [World.setCell]; try omega) _ | refine below_drewN ?_ _ | refine Below.drew ?_ | refine below_tr ?_ ‹Below _ _ _›))
      go_wp2_with fail
      refine (szLoopS_t (H1.out.below (by repeat (first | exact Below.refl _ _ | refine Below.setCell ?_ (by simp; try omega) _ | refine below_al ?_ _ | refine Below.alloc ?_ (by simp [World.setCell]; try omega) _ | refine below_drewN ?_ _ | refine Below.drew ?_ | refine below_tr ?_ ‹Below _ _ _›))) (by omega) (by omega)).mono ?_
      rintro e v2 ⟨rfl, bv2⟩
      rw [HS1.out]
      go_wp2
      go_ret
      exact ⟨rfl, (by repeat (first | exact Below.refl _ _ | refine Below.setCell ?_ (by simp; try omega) _ | refine below_al ?_ _ | refine Below.alloc ?_ (by simp [World.setCell]; try omega) _ | refine below_drewN ?_ _ | refine Below.drew ?_ | refine below_tr ?_ ‹Below _ _ _›))⟩
    · have HS1 := Lib.hid (szR_pos (left := (1048576 - ((szD (sls Lp.d x0) : Nat) : Int))) (tot := szD (sls Lp.d x1)) (by omega))
      have HN1 := Lib.hid (show szD (sls Lp.d x1) ≤ 1048576 by omega)
      have hl1 : 0 ≤ ((1048576 - ((szD (sls Lp.d x0) : Nat) : Int)) : Int) - ((szD (sls Lp.d x1) : Nat) : Int) := by omega
      clear hs1
      have hq0 : ((NestSameF x0 x1) != (NestSameF x0 x1)) = false := by simp
      go_enter Try.func4, Try.ntmps4
      have TA0 := Lib.hid (Rep.lt _ H0.out)
      have TA1 := Lib.hid (Rep.lt _ H1.out)
      go_wp2_with fail
      refine (szLoopS_t (H0.out.below (by repeat (first | exact Below.refl _ _ | refine Below.setCell ?_ (by simp; try omega) _ | refine below_al ?_ _ | refine Below.alloc ?_ (by simp [World.setCell]; try omega) _ | refine below_drewN ?_ _ | refine Below.drew ?_ | refine below_tr ?_ ‹Below _ _ _›))) (by omega) (by omega)).mono ?_
      rintro e w1 ⟨rfl, b1⟩
      rw [HS0.out]
      have RA0_1 := Lib.hid (H0.out.below b1); clear H0
      have RA1_1 := Lib.hid (H1.out.below b1); clear H1
      have S1 : Below w.heap.size w w1 := b1
      have Z1 := Lib.hid (b1.size)
      go_wp2_with fail
      refine (szLoopS_t (RA1_1.out.below (by repeat (first | exact Below.refl _ _ | refine Below.setCell ?_ (by simp; try omega) _ | refine below_al ?_ _ | refine Below.alloc ?_ (by simp [World.setCell]; try omega) _ | refine below_drewN ?_ _ | refine Below.drew ?_ | refine below_tr ?_ ‹Below _ _ _›))) (by omega) (by omega)).mono ?_
      rintro e w2 ⟨rfl, b2⟩
      rw [HS1.out]
      have RA0_2 := Lib.hid (RA0_1.out.below b2); clear RA0_1
      have RA1_2 := Lib.hid (RA1_1.out.below b2); clear RA1_1
      have S2 : Below w.heap.size w w2 := below_tr S1 b2
      have Z2 := Lib.hid (b2.size)
      go_wp2_with fail
      refine (toLoopS_m (RA0_2.out.below (by repeat (first | exact Below.refl _ _ | refine Below.setCell ?_ (by simp; try omega) _ | refine below_al ?_ _ | refine Below.alloc ?_ (by simp [World.setCell]; try omega) _ | refine below_drewN ?_ _ | refine Below.drew ?_ | refine below_tr ?_ ‹Below _ _ _›))) HN0.out).mono ?_
      rintro e w3 ⟨A3, n3, c3, bs3, rfl, r3, nd3, hb3, b3⟩
      have Tc0 := Lib.hid (show ∀ y ∈ bs3, w2.heap.size + 0 ≤ y ∧ y < w3.heap.size from fun y hy => ⟨by have := hb3 y hy; (try simp at this); omega, Rep.lt _ r3 y hy⟩)
      have RA0_3 := Lib.hid (RA0_2.out.below b3); clear RA0_2
      have RA1_3 := Lib.hid (RA1_2.out.below b3); clear RA1_2
      have S3 : Below w.heap.size w w3 := below_tr S2 b3
      have Z3 := Lib.hid (b3.size)
      have r3h := Lib.hid r3; clear r3 hb3
      clear nd3
      go_wp2_with fail
      refine (toLoopS_m (RA1_3.out.below (by repeat (first | exact Below.refl _ _ | refine Below.setCell ?_ (by simp; try omega) _ | refine below_al ?_ _ | refine Below.alloc ?_ (by simp [World.setCell]; try omega) _ | refine below_drewN ?_ _ | refine Below.drew ?_ | refine below_tr ?_ ‹Below _ _ _›))) HN1.out).mono ?_
      rintro e w4 ⟨A4, n4, c4, bs4, rfl, r4, nd4, hb4, b4⟩
      have Tc1 := Lib.hid (show ∀ y ∈ bs4, w3.heap.size + 0 ≤ y ∧ y < w4.heap.size from fun y hy => ⟨by have := hb4 y hy; (try simp at this); omega, Rep.lt _ r4 y hy⟩)
      have RA0_4 := Lib.hid (RA0_3.out.below b4); clear RA0_3
      have RA1_4 := Lib.hid (RA1_3.out.below b4); clear RA1_3
      have Rc0_4 := Lib.hid (r3h.out.below b4); clear r3h
      have S4 : Below w.heap.size w w4 := below_tr S3 b4
      have Z4 := Lib.hid (b4.size)
      have r4h := Lib.hid r4; clear r4 hb4
      clear nd4
      go_wp2_with fail
      refine (specNestSame_c (Rc0_4.out.below (by repeat (first | exact Below.refl _ _ | refine Below.setCell ?_ (by simp; try omega) _ | refine below_al ?_ _ | refine Below.alloc ?_ (by simp [World.setCell]; try omega) _ | refine below_drewN ?_ _ | refine Below.drew ?_ | refine below_tr ?_ ‹Below _ _ _›))) (r4h.out.below (by repeat (first | exact Below.refl _ _ | refine Below.setCell ?_ (by simp; try omega) _ | refine below_al ?_ _ | refine Below.alloc ?_ (by simp [World.setCell]; try omega) _ | refine below_drewN ?_ _ | refine Below.drew ?_ | refine below_tr ?_ ‹Below _ _ _›)))).mono ?_
      rintro e w5 ⟨rfl, b5⟩
      have RA0_5 := Lib.hid (RA0_4.out.below b5); clear RA0_4
      have RA1_5 := Lib.hid (RA1_4.out.below b5); clear RA1_4
      have Rc0_5 := Lib.hid (Rc0_4.out.below b5); clear Rc0_4
      have Rc1_5 := Lib.hid (r4h.out.below b5); clear r4h
      have S5 : Below w.heap.size w w5 := below_tr S4 b5
      have Z5 := Lib.hid (b5.size)
      go_wp2_with fail
      refine (toLoopS_m (RA0_5.out.below (by repeat (first | exact Below.refl _ _ | refine Below.setCell ?_ (by simp; try omega) _ | refine below_al ?_ _ | refine Below.alloc ?_ (by simp [World.setCell]; try omega) _ | refine below_drewN ?_ _ | refine Below.drew ?_ | refine below_tr ?_ ‹Below _ _ _›))) HN0.out).mono ?_
      rintro e w6 ⟨A6, n6, c6, bs6, rfl, r6, nd6, hb6, b6⟩
      have Tx0 := Lib.hid (show ∀ y ∈ bs6, w5.heap.size + 0 ≤ y ∧ y < w6.heap.size from fun y hy => ⟨by have := hb6 y hy; (try simp at this); omega, Rep.lt _ r6 y hy⟩)
      have RA0_6 := Lib.hid (RA0_5.out.below b6); clear RA0_5
      have RA1_6 := Lib.hid (RA1_5.out.below b6); clear RA1_5
      have S6 : Below w.heap.size w w6 := below_tr S5 b6
      have Z6 := Lib.hid (b6.size)
      have r6h := Lib.hid r6; clear r6 hb6
      go_wp2_with fail
      refine (toLoopS_m (RA1_6.out.below (by repeat (first | exact Below.refl _ _ | refine Below.setCell ?_ (by simp; try omega) _ | refine below_al ?_ _ | refine Below.alloc ?_ (by simp [World.setCell]; try omega) _ | refine below_drewN ?_ _ | refine Below.drew ?_ | refine below_tr ?_ ‹Below _ _ _›))) HN1.out).mono ?_
      rintro e w7 ⟨A7, n7, c7, bs7, rfl, r7, nd7, hb7, b7⟩
      have Tx1 := Lib.hid (show ∀ y ∈ bs7, w6.heap.size + 0 ≤ y ∧ y < w7.heap.size from fun y hy => ⟨by have := hb7 y hy; (try simp at this); omega, Rep.lt _ r7 y hy⟩)
      have RA0_7 := Lib.hid (RA0_6.out.below b7); clear RA0_6
      have RA1_7 := Lib.hid (RA1_6.out.below b7); clear RA1_6
      have Rx0_7 := Lib.hid (r6h.out.below b7); clear r6h
      have S7 : Below w.heap.size w w7 := below_tr S6 b7
      have Z7 := Lib.hid (b7.size)
      have r7h := Lib.hid r7; clear r7 hb7
      go_wp2_with fail
      refine (implNestSame_c (Rx0_7.out.below (by repeat (first | exact Below.refl _ _ | refine Below.setCell ?_ (by simp; try omega) _ | refine below_al ?_ _ | refine Below.alloc ?_ (by simp [World.setCell]; try omega) _ | refine below_drewN ?_ _ | refine Below.drew ?_ | refine below_tr ?_ ‹Below _ _ _›))) (r7h.out.below (by repeat (first | exact Below.refl _ _ | refine Below.setCell ?_ (by simp; try omega) _ | refine below_al ?_ _ | refine Below.alloc ?_ (by simp [World.setCell]; try omega) _ | refine below_drewN ?_ _ | refine Below.drew ?_ | refine below_tr ?_ ‹Below _ _ _›)))).mono ?_
      rintro e w8 ⟨rfl, b8⟩
      have RA0_8 := Lib.hid (RA0_7.out.below b8); clear RA0_7
      have RA1_8 := Lib.hid (RA1_7.out.below b8); clear RA1_7
      have Rx0_8 := Lib.hid (Rx0_7.out.below b8); clear Rx0_7
      have Rx1_8 := Lib.hid (r7h.out.below b8); clear r7h
      have S8 : Below w.heap.size w w8 := below_tr S7 b8
      have Z8 := Lib.hid (b8.size)
      go_wp2_with fail
      refine (toLoopS_m (RA0_8.out.below (by repeat (first | exact Below.refl _ _ | refine Below.setCell ?_ (by simp; try omega) _ | refine below_al ?_ _ | refine Below.alloc ?_ (by simp [World.setCell]; try omega) _ | refine below_drewN ?_ _ | refine Below.drew ?_ | refine below_tr ?_ ‹Below _ _ _›))) HN0.out).mono ?_
      rintro e w9 ⟨A9, n9, c9, bs9, rfl, r9, nd9, hb9, b9⟩
      have Ty0 := Lib.hid (show ∀ y ∈ bs9, w8.heap.size + 0 ≤ y ∧ y < w9.heap.size from fun y hy => ⟨by have := hb9 y hy; (try simp at this); omega, Rep.lt _ r9 y hy⟩)
      have RA0_9 := Lib.hid (RA0_8.out.below b9); clear RA0_8
      have RA1_9 := Lib.hid (RA1_8.out.below b9); clear RA1_8
      have Rx0_9 := Lib.hid (Rx0_8.out.below b9); clear Rx0_8
      have Rx1_9 := Lib.hid (Rx1_8.out.below b9); clear Rx1_8
      have S9 : Below w.heap.size w w9 := below_tr S8 b9
      have Z9 := Lib.hid (b9.size)
      have r9h := Lib.hid r9; clear r9 hb9
      go_wp2_with fail
      refine (eqLoopS_b (Rx0_9.out.below (by repeat (first | exact Below.refl _ _ | refine Below.setCell ?_ (by simp; try omega) _ | refine below_al ?_ _ | refine Below.alloc ?_ (by simp [World.setCell]; try omega) _ | refine below_drewN ?_ _ | refine Below.drew ?_ | refine below_tr ?_ ‹Below _ _ _›))) (r9h.out.below (by repeat (first | exact Below.refl _ _ | refine Below.setCell ?_ (by simp; try omega) _ | refine below_al ?_ _ | refine Below.alloc ?_ (by simp [World.setCell]; try omega) _ | refine below_drewN ?_ _ | refine Below.drew ?_ | refine below_tr ?_ ‹Below _ _ _›)))).mono ?_
      rintro e w10 ⟨rfl, b10⟩
      have RA0_10 := Lib.hid (RA0_9.out.below b10); clear RA0_9
      have RA1_10 := Lib.hid (RA1_9.out.below b10); clear RA1_9
      have Rx0_10 := Lib.hid (Rx0_9.out.below b10); clear Rx0_9
      have Rx1_10 := Lib.hid (Rx1_9.out.below b10); clear Rx1_9
      have Ry0_10 := Lib.hid (r9h.out.below b10); clear r9h
      have S10 : Below w.heap.size w w10 := below_tr S9 b10
      have Z10 := Lib.hid (b10.size)
      go_wp2_with fail
      refine (toLoopS_m (RA1_10.out.below (by repeat (first | exact Below.refl _ _ | refine Below.setCell ?_ (by simp; try omega) _ | refine below_al ?_ _ | refine Below.alloc ?_ (by simp [World.setCell]; try omega) _ | refine below_drewN ?_ _ | refine Below.drew ?_ | refine below_tr ?_ ‹Below _ _ _›))) HN1.out).mono ?_
      rintro e w11 ⟨A11, n11, c11, bs11, rfl, r11, nd11, hb11, b11⟩
      have Ty1 := Lib.hid (show ∀ y ∈ bs11, w10.heap.size + 0 ≤ y ∧ y < w11.heap.size from fun y hy => ⟨by have := hb11 y hy; (try simp at this); omega, Rep.lt _ r11 y hy⟩)
      have RA0_11 := Lib.hid (RA0_10.out.below b11); clear RA0_10
      have RA1_11 := Lib.hid (RA1_10.out.below b11); clear RA1_10
      have Rx0_11 := Lib.hid (Rx0_10.out.below b11); clear Rx0_10
      have Rx1_11 := Lib.hid (Rx1_10.out.below b11); clear Rx1_10
      have S11 : Below w.heap.size w w11 := below_tr S10 b11
      have Z11 := Lib.hid (b11.size)
      have r11h := Lib.hid r11; clear r11 hb11
      go_wp2_with fail
      refine (eqLoopS_b (Rx1_11.out.below (by repeat (first | exact Below.refl _ _ | refine Below.setCell ?_ (by simp; try omega) _ | refine below_al ?_ _ | refine Below.alloc ?_ (by simp [World.setCell]; try omega) _ | refine below_drewN ?_ _ | refine Below.drew ?_ | refine below_tr ?_ ‹Below _ _ _›))) (r11h.out.below (by repeat (first | exact Below.refl _ _ | refine Below.setCell ?_ (by simp; try omega) _ | refine below_al ?_ _ | refine Below.alloc ?_ (by simp [World.setCell]; try omega) _ | refine below_drewN ?_ _ | refine Below.drew ?_ | refine below_tr ?_ ‹Below _ _ _›)))).mono ?_
      rintro e w12 ⟨rfl, b12⟩
      have RA0_12 := Lib.hid (RA0_11.out.below b12); clear RA0_11
      have RA1_12 := Lib.hid (RA1_11.out.below b12); clear RA1_11
      have Rx0_12 := Lib.hid (Rx0_11.out.below b12); clear Rx0_11
      have Rx1_12 := Lib.hid (Rx1_11.out.below b12); clear Rx1_11
      have Ry1_12 := Lib.hid (r11h.out.below b12); clear r11h
      have S12 : Below w.heap.size w w12 := below_tr S11 b12
      have Z12 := Lib.hid (b12.size)
      go_wp2
      go_ret
      exact ⟨rfl, S12⟩
end Go.Proofs.Ytlllidhmohdgiaa
