/- The law FnExactNestPoints: its walk. Printed by lawgen.py. -/
import Derived.Test.YtlllidhmohdgiaaLaw
import Derived.Test.YtlllidhmohdgiaaNestPointsI
import Derived.Test.YtlllidhmohdgiaaTyLoop
set_option linter.all false
set_option linter.unusedSimpArgs false
set_option linter.unusedVariables false
namespace Go.Proofs.Ytlllidhmohdgiaa
open Go.ChangeShapes Go.WideShapes Go.ChangeAt Go.RowKit Go.Deep

set_option maxRecDepth 100000 in
set_option maxHeartbeats 2000000 in
theorem FnExactNestPoints_walk {w : World} {x0 : List Lp} {A0 : Option Addr} {n0 : Nat} {c0 : Nat} {bs0 : List Nat} (h0 : Rep w (sls Lp.d x0) [.slice A0 n0 c0] bs0) :
    Calls Try.prog 10 #[.slice A0 n0 c0] w fun e w' => e = .returned (.bool true) ∧ Below w.heap.size w w' := by
  have hm0 : n0 ≤ 9223372036854775807 := Nat.le_trans h0.sl_len.2.1 h0.sl_len.2.2
  have H0 := Lib.hid h0; clear h0
  by_cases hs0 : (1048576 : Int) - ((szD (sls Lp.d x0) : Nat) : Int) < 0
  · have HS0 := Lib.hid (szR_neg hs0)
    go_enter Try.func10, Try.ntmps10
    go_wp2_with fail
    refine (szLoopS_t (H0.out.below (by repeat (first | with_reducible exact Below.refl _ _ | refine Below.setCell ?_ (by simp; try omega) _ | refine below_al ?_ _ | refine Below.alloc ?_ (by simp [World.setCell]; try omega) _ | refine below_drewN ?_ _ | refine Below.drew ?_ | refine below_tr ?_ ‹Below _ _ _›))) (by omega) (by omega)).mono ?_
    rintro e v1 ⟨rfl, bv1⟩
    rw [HS0.out]
    go_wp2
    go_ret
    exact ⟨rfl, (by repeat (first | with_reducible exact Below.refl _ _ | refine Below.setCell ?_ (by simp; try omega) _ | refine below_al ?_ _ | refine Below.alloc ?_ (by simp [World.setCell]; try omega) _ | refine below_drewN ?_ _ | refine Below.drew ?_ | refine below_tr ?_ ‹Below _ _ _›))⟩
  · have HS0 := Lib.hid (szR_pos (left := 1048576) (tot := szD (sls Lp.d x0)) (by omega))
    have HN0 := Lib.hid (show szD (sls Lp.d x0) ≤ 1048576 by omega)
    have hl0 : 0 ≤ (1048576 : Int) - ((szD (sls Lp.d x0) : Nat) : Int) := by omega
    clear hs0
    have hq1 : ((NestPointsF x0).2 != (NestPointsF x0).2) = false := by simp
    have HL := Lib.hid (NestPointsF_len x0)
    go_enter Try.func10, Try.ntmps10
    have TA0 := Lib.hid (Rep.lt _ H0.out)
    go_wp2_with fail
    refine (szLoopS_t (H0.out.below (by repeat (first | with_reducible exact Below.refl _ _ | refine Below.setCell ?_ (by simp; try omega) _ | refine below_al ?_ _ | refine Below.alloc ?_ (by simp [World.setCell]; try omega) _ | refine below_drewN ?_ _ | refine Below.drew ?_ | refine below_tr ?_ ‹Below _ _ _›))) (by omega) (by omega)).mono ?_
    rintro e w1 ⟨rfl, b1⟩
    rw [HS0.out]
    have RA0_1 := Lib.hid (H0.out.below b1); clear H0
    have S1 : Below w.heap.size w w1 := b1
    have Z1 := Lib.hid (b1.size)
    go_wp2_with fail
    refine (toLoopS_m (RA0_1.out.below (by repeat (first | with_reducible exact Below.refl _ _ | refine Below.setCell ?_ (by simp; try omega) _ | refine below_al ?_ _ | refine Below.alloc ?_ (by simp [World.setCell]; try omega) _ | refine below_drewN ?_ _ | refine Below.drew ?_ | refine below_tr ?_ ‹Below _ _ _›))) HN0.out).mono ?_
    rintro e w2 ⟨A2, n2, c2, bs2, rfl, r2, nd2, hb2, b2⟩
    have Tc0 := Lib.hid (show ∀ y ∈ bs2, w1.heap.size + 0 ≤ y ∧ y < w2.heap.size from fun y hy => ⟨by have := hb2 y hy; (try simp at this); omega, Rep.lt _ r2 y hy⟩)
    have RA0_2 := Lib.hid (RA0_1.out.below b2); clear RA0_1
    have S2 : Below w.heap.size w w2 := below_tr S1 b2
    have Z2 := Lib.hid (b2.size)
    have r2h := Lib.hid r2; clear r2 hb2
    clear nd2
    go_wp2_with fail
    refine (specNestPoints_c (r2h.out.below (by repeat (first | with_reducible exact Below.refl _ _ | refine Below.setCell ?_ (by simp; try omega) _ | refine below_al ?_ _ | refine Below.alloc ?_ (by simp [World.setCell]; try omega) _ | refine below_drewN ?_ _ | refine Below.drew ?_ | refine below_tr ?_ ‹Below _ _ _›)))).mono ?_
    rintro e w3 ⟨A3, n3, c3, bs3, rfl, r3, nd3, hb3, b3⟩
    have Tw0 := Lib.hid (show ∀ y ∈ bs3, y < w3.heap.size from Rep.lt _ r3)
    have RA0_3 := Lib.hid (RA0_2.out.below b3); clear RA0_2
    have Rc0_3 := Lib.hid (r2h.out.below b3); clear r2h
    have S3 : Below w.heap.size w w3 := below_tr S2 b3
    have Z3 := Lib.hid (b3.size)
    have r3h := Lib.hid r3; clear r3 hb3 nd3
    go_wp2_with fail
    refine (toLoopS_m (RA0_3.out.below (by repeat (first | with_reducible exact Below.refl _ _ | refine Below.setCell ?_ (by simp; try omega) _ | refine below_al ?_ _ | refine Below.alloc ?_ (by simp [World.setCell]; try omega) _ | refine below_drewN ?_ _ | refine Below.drew ?_ | refine below_tr ?_ ‹Below _ _ _›))) HN0.out).mono ?_
    rintro e w4 ⟨A4, n4, c4, bs4, rfl, r4, nd4, hb4, b4⟩
    have Tx0 := Lib.hid (show ∀ y ∈ bs4, w3.heap.size + 0 ≤ y ∧ y < w4.heap.size from fun y hy => ⟨by have := hb4 y hy; (try simp at this); omega, Rep.lt _ r4 y hy⟩)
    have RA0_4 := Lib.hid (RA0_3.out.below b4); clear RA0_3
    have Rw0_4 := Lib.hid (r3h.out.below b4); clear r3h
    have S4 : Below w.heap.size w w4 := below_tr S3 b4
    have Z4 := Lib.hid (b4.size)
    have r4h := Lib.hid r4; clear r4 hb4
    go_wp2_with fail
    refine (implNestPoints_c (r4h.out.below (by repeat (first | with_reducible exact Below.refl _ _ | refine Below.setCell ?_ (by simp; try omega) _ | refine below_al ?_ _ | refine Below.alloc ?_ (by simp [World.setCell]; try omega) _ | refine below_drewN ?_ _ | refine Below.drew ?_ | refine below_tr ?_ ‹Below _ _ _›)))).mono ?_
    rintro e w5 ⟨A5, n5, c5, bs5, rfl, r5, nd5, hb5, b5⟩
    have Tg0 := Lib.hid (show ∀ y ∈ bs5, w4.heap.size + 0 ≤ y ∧ y < w5.heap.size from fun y hy => ⟨by have := hb5 y hy; (try simp at this); omega, Rep.lt _ r5 y hy⟩)
    have RA0_5 := Lib.hid (RA0_4.out.below b5); clear RA0_4
    have Rw0_5 := Lib.hid (Rw0_4.out.below b5); clear Rw0_4
    have Rx0_5 := Lib.hid (r4h.out.below b5); clear r4h
    have S5 : Below w.heap.size w w5 := below_tr S4 b5
    have Z5 := Lib.hid (b5.size)
    have r5h := Lib.hid r5; clear r5 hb5
    go_wp2_with fail
    refine (eqIntSS_b (r5h.out.below (by repeat (first | with_reducible exact Below.refl _ _ | refine Below.setCell ?_ (by simp; try omega) _ | refine below_al ?_ _ | refine Below.alloc ?_ (by simp [World.setCell]; try omega) _ | refine below_drewN ?_ _ | refine Below.drew ?_ | refine below_tr ?_ ‹Below _ _ _›))) (Rw0_5.out.below (by repeat (first | with_reducible exact Below.refl _ _ | refine Below.setCell ?_ (by simp; try omega) _ | refine below_al ?_ _ | refine Below.alloc ?_ (by simp [World.setCell]; try omega) _ | refine below_drewN ?_ _ | refine Below.drew ?_ | refine below_tr ?_ ‹Below _ _ _›)))).mono ?_
    rintro e w6 ⟨rfl, b6⟩
    have RA0_6 := Lib.hid (RA0_5.out.below b6); clear RA0_5
    have Rw0_6 := Lib.hid (Rw0_5.out.below b6); clear Rw0_5
    have Rx0_6 := Lib.hid (Rx0_5.out.below b6); clear Rx0_5
    have Rg0_6 := Lib.hid (r5h.out.below b6); clear r5h
    have S6 : Below w.heap.size w w6 := below_tr S5 b6
    have Z6 := Lib.hid (b6.size)
    go_wp2_with fail
    refine (toLoopS_m (RA0_6.out.below (by repeat (first | with_reducible exact Below.refl _ _ | refine Below.setCell ?_ (by simp; try omega) _ | refine below_al ?_ _ | refine Below.alloc ?_ (by simp [World.setCell]; try omega) _ | refine below_drewN ?_ _ | refine Below.drew ?_ | refine below_tr ?_ ‹Below _ _ _›))) HN0.out).mono ?_
    rintro e w7 ⟨A7, n7, c7, bs7, rfl, r7, nd7, hb7, b7⟩
    have Ty0 := Lib.hid (show ∀ y ∈ bs7, w6.heap.size + 0 ≤ y ∧ y < w7.heap.size from fun y hy => ⟨by have := hb7 y hy; (try simp at this); omega, Rep.lt _ r7 y hy⟩)
    have RA0_7 := Lib.hid (RA0_6.out.below b7); clear RA0_6
    have Rw0_7 := Lib.hid (Rw0_6.out.below b7); clear Rw0_6
    have Rx0_7 := Lib.hid (Rx0_6.out.below b7); clear Rx0_6
    have Rg0_7 := Lib.hid (Rg0_6.out.below b7); clear Rg0_6
    have S7 : Below w.heap.size w w7 := below_tr S6 b7
    have Z7 := Lib.hid (b7.size)
    have r7h := Lib.hid r7; clear r7 hb7
    go_wp2_with fail
    refine (eqLoopS_b (Rx0_7.out.below (by repeat (first | with_reducible exact Below.refl _ _ | refine Below.setCell ?_ (by simp; try omega) _ | refine below_al ?_ _ | refine Below.alloc ?_ (by simp [World.setCell]; try omega) _ | refine below_drewN ?_ _ | refine Below.drew ?_ | refine below_tr ?_ ‹Below _ _ _›))) (r7h.out.below (by repeat (first | with_reducible exact Below.refl _ _ | refine Below.setCell ?_ (by simp; try omega) _ | refine below_al ?_ _ | refine Below.alloc ?_ (by simp [World.setCell]; try omega) _ | refine below_drewN ?_ _ | refine Below.drew ?_ | refine below_tr ?_ ‹Below _ _ _›)))).mono ?_
    rintro e w8 ⟨rfl, b8⟩
    have RA0_8 := Lib.hid (RA0_7.out.below b8); clear RA0_7
    have Rw0_8 := Lib.hid (Rw0_7.out.below b8); clear Rw0_7
    have Rx0_8 := Lib.hid (Rx0_7.out.below b8); clear Rx0_7
    have Rg0_8 := Lib.hid (Rg0_7.out.below b8); clear Rg0_7
    have Ry0_8 := Lib.hid (r7h.out.below b8); clear r7h
    have S8 : Below w.heap.size w w8 := below_tr S7 b8
    have Z8 := Lib.hid (b8.size)
    have hcnt : cntL cntI (NestPointsF x0).1 ≤ 1000000 := HL.out
    have hn0c : cntL Lp.cntE x0 ≤ 10000000 := by have := HN0.out; have := Lp.cnts_le x0; omega
    go_wp2_with fail
    refine (markLoopS_n Rx0_8.out nd4 (q := 1) (by omega) (by omega)).mono ?_
    rintro e w9 ⟨rfl, r9, t9⟩
    have m9h := Lib.hid r9; clear r9
    have RA0_9 := Lib.hid (Rep.keep _ RA0_8.out (t9.keeps fun y hy => ⟨Rep.lt _ RA0_8.out y hy, fun hm => by have h1 := Tx0.out y hm; have h2 := TA0.out y hy; have q0 := Z1.out; have q1 := Z2.out; have q2 := Z3.out; have q3 := Z4.out; have q4 := Z5.out; have q5 := Z6.out; have q6 := Z7.out; have q7 := Z8.out; omega⟩)); clear RA0_8
    have Rw0_9 := Lib.hid (Rep.keep _ Rw0_8.out (t9.keeps fun y hy => ⟨Rep.lt _ Rw0_8.out y hy, fun hm => by have h1 := Tx0.out y hm; have h2 := Tw0.out y hy; have q0 := Z1.out; have q1 := Z2.out; have q2 := Z3.out; have q3 := Z4.out; have q4 := Z5.out; have q5 := Z6.out; have q6 := Z7.out; have q7 := Z8.out; omega⟩)); clear Rw0_8
    have Rg0_9 := Lib.hid (Rep.keep _ Rg0_8.out (t9.keeps fun y hy => ⟨Rep.lt _ Rg0_8.out y hy, fun hm => by have h1 := Tx0.out y hm; have h2 := Tg0.out y hy; have q0 := Z1.out; have q1 := Z2.out; have q2 := Z3.out; have q3 := Z4.out; have q4 := Z5.out; have q5 := Z6.out; have q6 := Z7.out; have q7 := Z8.out; omega⟩)); clear Rg0_8
    have S9 : Below w.heap.size w w9 := S8.trans (t9.below S8.size (fun y hm => by have h1 := Tx0.out y hm; have q0 := Z1.out; have q1 := Z2.out; have q2 := Z3.out; have q3 := Z4.out; have q4 := Z5.out; have q5 := Z6.out; have q6 := Z7.out; have q7 := Z8.out; omega))
    have Z9 := Lib.hid (show w8.heap.size ≤ w9.heap.size from t9.size)
    clear t9
    go_wp2_with fail
    refine (eqIntSS_b (Rg0_9.out.below (by repeat (first | with_reducible exact Below.refl _ _ | refine Below.setCell ?_ (by simp; try omega) _ | refine below_al ?_ _ | refine Below.alloc ?_ (by simp [World.setCell]; try omega) _ | refine below_drewN ?_ _ | refine Below.drew ?_ | refine below_tr ?_ ‹Below _ _ _›))) (Rw0_9.out.below (by repeat (first | with_reducible exact Below.refl _ _ | refine Below.setCell ?_ (by simp; try omega) _ | refine below_al ?_ _ | refine Below.alloc ?_ (by simp [World.setCell]; try omega) _ | refine below_drewN ?_ _ | refine Below.drew ?_ | refine below_tr ?_ ‹Below _ _ _›)))).mono ?_
    rintro e w10 ⟨rfl, b10⟩
    have RA0_10 := Lib.hid (RA0_9.out.below b10); clear RA0_9
    have Rw0_10 := Lib.hid (Rw0_9.out.below b10); clear Rw0_9
    have Rg0_10 := Lib.hid (Rg0_9.out.below b10); clear Rg0_9
    have S10 : Below w.heap.size w w10 := below_tr S9 b10
    have Z10 := Lib.hid (b10.size)
    go_wp2_with fail
    refine (markIntSS_n Rg0_10.out nd5 (q := 1) (by omega) (by omega)).mono ?_
    rintro e w11 ⟨rfl, r11, t11⟩
    have m11h := Lib.hid r11; clear r11
    have RA0_11 := Lib.hid (Rep.keep _ RA0_10.out (t11.keeps fun y hy => ⟨Rep.lt _ RA0_10.out y hy, fun hm => by have h1 := Tg0.out y hm; have h2 := TA0.out y hy; have q0 := Z1.out; have q1 := Z2.out; have q2 := Z3.out; have q3 := Z4.out; have q4 := Z5.out; have q5 := Z6.out; have q6 := Z7.out; have q7 := Z8.out; have q8 := Z9.out; have q9 := Z10.out; omega⟩)); clear RA0_10
    have Rw0_11 := Lib.hid (Rep.keep _ Rw0_10.out (t11.keeps fun y hy => ⟨Rep.lt _ Rw0_10.out y hy, fun hm => by have h1 := Tg0.out y hm; have h2 := Tw0.out y hy; have q0 := Z1.out; have q1 := Z2.out; have q2 := Z3.out; have q3 := Z4.out; have q4 := Z5.out; have q5 := Z6.out; have q6 := Z7.out; have q7 := Z8.out; have q8 := Z9.out; have q9 := Z10.out; omega⟩)); clear Rw0_10
    have S11 : Below w.heap.size w w11 := S10.trans (t11.below S10.size (fun y hm => by have h1 := Tg0.out y hm; have q0 := Z1.out; have q1 := Z2.out; have q2 := Z3.out; have q3 := Z4.out; have q4 := Z5.out; have q5 := Z6.out; have q6 := Z7.out; have q7 := Z8.out; have q8 := Z9.out; have q9 := Z10.out; omega))
    have Z11 := Lib.hid (show w10.heap.size ≤ w11.heap.size from t11.size)
    clear t11
    have hmq : ((1 + ((cntL cntI (NestPointsF x0).1 : Nat) : Int)) != (1 + ((cntL cntI (NestPointsF x0).1 : Nat) : Int))) = false := by simp
    go_wp2_with fail
    refine (heldIntSS_n m11h.out (q := 1) (by omega) (by omega)).mono ?_
    rintro e w12 ⟨rfl, b12⟩
    have RA0_12 := Lib.hid (RA0_11.out.below b12); clear RA0_11
    have Rw0_12 := Lib.hid (Rw0_11.out.below b12); clear Rw0_11
    have Rg0_12 := Lib.hid (m11h.out.below b12); clear m11h
    have S12 : Below w.heap.size w w12 := below_tr S11 b12
    have Z12 := Lib.hid (b12.size)
    go_wp2_with fail
    refine (toLoopS_m (RA0_12.out.below (by repeat (first | with_reducible exact Below.refl _ _ | refine Below.setCell ?_ (by simp; try omega) _ | refine below_al ?_ _ | refine Below.alloc ?_ (by simp [World.setCell]; try omega) _ | refine below_drewN ?_ _ | refine Below.drew ?_ | refine below_tr ?_ ‹Below _ _ _›))) HN0.out).mono ?_
    rintro e w13 ⟨A13, n13, c13, bs13, rfl, r13, nd13, hb13, b13⟩
    have Tz0 := Lib.hid (show ∀ y ∈ bs13, w12.heap.size + 0 ≤ y ∧ y < w13.heap.size from fun y hy => ⟨by have := hb13 y hy; (try simp at this); omega, Rep.lt _ r13 y hy⟩)
    have RA0_13 := Lib.hid (RA0_12.out.below b13); clear RA0_12
    have Rw0_13 := Lib.hid (Rw0_12.out.below b13); clear Rw0_12
    have Rg0_13 := Lib.hid (Rg0_12.out.below b13); clear Rg0_12
    have S13 : Below w.heap.size w w13 := below_tr S12 b13
    have Z13 := Lib.hid (b13.size)
    have r13h := Lib.hid r13; clear r13 hb13
    go_wp2_with fail
    refine (implNestPoints_c (r13h.out.below (by repeat (first | with_reducible exact Below.refl _ _ | refine Below.setCell ?_ (by simp; try omega) _ | refine below_al ?_ _ | refine Below.alloc ?_ (by simp [World.setCell]; try omega) _ | refine below_drewN ?_ _ | refine Below.drew ?_ | refine below_tr ?_ ‹Below _ _ _›)))).mono ?_
    rintro e w14 ⟨A14, n14, c14, bs14, rfl, r14, nd14, hb14, b14⟩
    have RA0_14 := Lib.hid (RA0_13.out.below b14); clear RA0_13
    have Rw0_14 := Lib.hid (Rw0_13.out.below b14); clear Rw0_13
    have Rg0_14 := Lib.hid (Rg0_13.out.below b14); clear Rg0_13
    have Rz0_14 := Lib.hid (r13h.out.below b14); clear r13h
    have S14 : Below w.heap.size w w14 := below_tr S13 b14
    have Z14 := Lib.hid (b14.size)
    have r14h := Lib.hid r14; clear r14 hb14 nd14
    go_wp2_with fail
    refine (eqIntSS_b (r14h.out.below (by repeat (first | with_reducible exact Below.refl _ _ | refine Below.setCell ?_ (by simp; try omega) _ | refine below_al ?_ _ | refine Below.alloc ?_ (by simp [World.setCell]; try omega) _ | refine below_drewN ?_ _ | refine Below.drew ?_ | refine below_tr ?_ ‹Below _ _ _›))) (Rw0_14.out.below (by repeat (first | with_reducible exact Below.refl _ _ | refine Below.setCell ?_ (by simp; try omega) _ | refine below_al ?_ _ | refine Below.alloc ?_ (by simp [World.setCell]; try omega) _ | refine below_drewN ?_ _ | refine Below.drew ?_ | refine below_tr ?_ ‹Below _ _ _›)))).mono ?_
    rintro e w15 ⟨rfl, b15⟩
    have RA0_15 := Lib.hid (RA0_14.out.below b15); clear RA0_14
    have Rw0_15 := Lib.hid (Rw0_14.out.below b15); clear Rw0_14
    have Rg0_15 := Lib.hid (Rg0_14.out.below b15); clear Rg0_14
    have Rh0_15 := Lib.hid (r14h.out.below b15); clear r14h
    have S15 : Below w.heap.size w w15 := below_tr S14 b15
    have Z15 := Lib.hid (b15.size)
    go_wp2_with fail
    refine (heldIntSS_n Rg0_15.out (q := 1) (by omega) (by omega)).mono ?_
    rintro e w16 ⟨rfl, b16⟩
    have RA0_16 := Lib.hid (RA0_15.out.below b16); clear RA0_15
    have Rw0_16 := Lib.hid (Rw0_15.out.below b16); clear Rw0_15
    have Rg0_16 := Lib.hid (Rg0_15.out.below b16); clear Rg0_15
    have Rh0_16 := Lib.hid (Rh0_15.out.below b16); clear Rh0_15
    have S16 : Below w.heap.size w w16 := below_tr S15 b16
    have Z16 := Lib.hid (b16.size)
    go_wp2
    go_ret
    exact ⟨rfl, S16⟩
end Go.Proofs.Ytlllidhmohdgiaa
