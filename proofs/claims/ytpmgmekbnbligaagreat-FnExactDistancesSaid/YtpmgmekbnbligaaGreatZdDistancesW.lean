/- The law FnExactDistances: its walk. Printed by lawgen.py. -/
import Derived.Test.YtpmgmekbnbligaaGreatZdLaw
import Derived.Test.YtpmgmekbnbligaaGreatZdMark
import Derived.Test.YtpmgmekbnbligaaGreatZdOps
import Derived.Test.YtpmgmekbnbligaaGreatZdBasic
set_option linter.all false
set_option linter.unusedSimpArgs false
set_option linter.unusedVariables false
namespace Go.Proofs.YtpmgmekbnbligaaGreat
open Go.ChangeShapes Go.WideShapes Go.ChangeAt Go.RowKit Go.Deep

set_option maxRecDepth 100000 in
set_option maxHeartbeats 2000000 in
theorem FnExactDistances_walk {w : World} {x0 : Pgm} {A1_0 : Option Addr} {c1_0 : Nat} {A2_0 : Option Addr} {c2_0 : Nat} {bs0 : List Nat} {x1 : Int} (h0 : Rep w x0.d [.slice A1_0 x0.arrays.length c1_0, .slice A2_0 x0.parts.length c2_0] bs0) :
    Calls Tryz.prog 4 #[.agg #[.slice A1_0 x0.arrays.length c1_0, .slice A2_0 x0.parts.length c2_0], .int .i64 x1] w fun e w' => e = .returned (.bool true) ∧ Below w.heap.size w w' := by
  have H0 := Lib.hid h0; clear h0
  by_cases hs0 : (1048576 : Int) - ((szD x0.d : Nat) : Int) < 0
  · have HS0 := Lib.hid (szR_neg hs0)
    go_enter Tryz.func4, Tryz.ntmps4
    go_wp2_with fail
    refine (szProgram_t (H0.out.below bel) (by omega) (by omega)).mono ?_
    rintro e v1 ⟨rfl, bv1⟩
    rw [HS0.out]
    go_wp2
    go_ret
    exact ⟨rfl, bel⟩
  · have HS0 := Lib.hid (szR_pos (left := 1048576) (tot := szD x0.d) (by omega))
    have HN0 := Lib.hid (show szD x0.d ≤ 1048576 by omega)
    have hl0 : 0 ≤ (1048576 : Int) - ((szD x0.d : Nat) : Int) := by omega
    clear hs0
    have HL := Lib.hid (DistancesF_len x0 x1)
    go_enter Tryz.func4, Tryz.ntmps4
    have TA0 := Lib.hid (Rep.lt _ H0.out)
    go_wp2_with fail
    refine (szProgram_t (H0.out.below bel) (by omega) (by omega)).mono ?_
    rintro e w1 ⟨rfl, b1⟩
    rw [HS0.out]
    have P0_1n := (Box2.new w _ _ _).to b1
    have s1 : Below w.heap.size w w1 := bel
    have RA0_1 := Lib.hid (H0.out.below s1); clear H0
    have S1 : Below w.heap.size w w1 := s1
    have Z1 := Lib.hid (s1.size)
    have LP0 := Lib.hid (lt_of_cell P0_1n.1)
    go_wp2_with fail
    refine (toProgram_m (RA0_1.out.below bel) HN0.out).mono ?_
    rintro e w2 ⟨A1_2, c1_2, A2_2, c2_2, bs2, rfl, r2, nd2, hb2, b2⟩
    have Tc0 := Lib.hid (show ∀ y ∈ bs2, w1.heap.size + 0 ≤ y ∧ y < w2.heap.size from fun y hy => ⟨by have := hb2 y hy; (try simp at this); omega, Rep.lt _ r2 y hy⟩)
    have P0_2 := P0_1n.to b2; clear P0_1n
    have RA0_2 := Lib.hid (RA0_1.out.below b2); clear RA0_1
    have S2 : Below w.heap.size w w2 := below_tr S1 b2
    have Z2 := Lib.hid (b2.size)
    have r2h := Lib.hid r2; clear r2 hb2
    clear nd2
    go_wp2_with fail
    refine (specDistances_k (r2h.out.below bel)).mono ?_
    rintro e w3 ⟨A3, n3, c3, bs3, rfl, r3, nd3, hb3, b3⟩
    have Tw0 := Lib.hid (show ∀ y ∈ bs3, y < w3.heap.size from Rep.lt _ r3)
    have P0_3 := P0_2.to b3; clear P0_2
    have RA0_3 := Lib.hid (RA0_2.out.below b3); clear RA0_2
    have Rc0_3 := Lib.hid (r2h.out.below b3); clear r2h
    have S3 : Below w.heap.size w w3 := below_tr S2 b3
    have Z3 := Lib.hid (b3.size)
    have r3h := Lib.hid r3; clear r3 hb3 nd3
    go_wp2_with fail
    refine (toProgram_m (RA0_3.out.below bel) HN0.out).mono ?_
    rintro e w4 ⟨A1_4, c1_4, A2_4, c2_4, bs4, rfl, r4, nd4, hb4, b4⟩
    have Tx0 := Lib.hid (show ∀ y ∈ bs4, w3.heap.size + 0 ≤ y ∧ y < w4.heap.size from fun y hy => ⟨by have := hb4 y hy; (try simp at this); omega, Rep.lt _ r4 y hy⟩)
    have P0_4 := P0_3.to b4; clear P0_3
    have RA0_4 := Lib.hid (RA0_3.out.below b4); clear RA0_3
    have Rw0_4 := Lib.hid (r3h.out.below b4); clear r3h
    have S4 : Below w.heap.size w w4 := below_tr S3 b4
    have Z4 := Lib.hid (b4.size)
    have r4h := Lib.hid r4; clear r4 hb4
    have ltP0_4 := lt_of_cell P0_4.1
    go_wp2_with fail
    refine (implDistances_k (r4h.out.below bel)).mono ?_
    rintro e w5 ⟨A5, n5, c5, bs5, rfl, r5, nd5, hb5, b5⟩
    have Tg0 := Lib.hid (show ∀ y ∈ bs5, w4.heap.size + 1 ≤ y ∧ y < w5.heap.size from fun y hy => ⟨by have := hb5 y hy; (try simp at this); omega, Rep.lt _ r5 y hy⟩)
    have X0_5n := (Box2.new w4 _ _ _).to b5
    have s5 : Below w4.heap.size w4 w5 := bel
    have P0_5 := P0_4.to s5; clear P0_4
    have RA0_5 := Lib.hid (RA0_4.out.below s5); clear RA0_4
    have Rw0_5 := Lib.hid (Rw0_4.out.below s5); clear Rw0_4
    have Rx0_5 := Lib.hid (r4h.out.below s5); clear r4h
    have S5 : Below w.heap.size w w5 := below_tr S4 s5
    have Z5 := Lib.hid (s5.size)
    have LX0 := Lib.hid (lt_of_cell X0_5n.1)
    have r5h := Lib.hid r5; clear r5 hb5
    go_wp2_with fail
    refine (eqIntSS_b (r5h.out.below bel) (Rw0_5.out.below bel)).mono ?_
    rintro e w6 ⟨rfl, b6⟩
    have P0_6 := P0_5.to b6; clear P0_5
    have X0_6 := X0_5n.to b6; clear X0_5n
    have RA0_6 := Lib.hid (RA0_5.out.below b6); clear RA0_5
    have Rw0_6 := Lib.hid (Rw0_5.out.below b6); clear Rw0_5
    have Rx0_6 := Lib.hid (Rx0_5.out.below b6); clear Rx0_5
    have Rg0_6 := Lib.hid (r5h.out.below b6); clear r5h
    have S6 : Below w.heap.size w w6 := below_tr S5 b6
    have Z6 := Lib.hid (b6.size)
    go_wp2_with fail
    go_region_held3 (fun w' => Box2 w' w.heap.size (.slice A1_0 x0.arrays.length c1_0) (.slice A2_0 x0.parts.length c2_0) ∧ Box2 w' w4.heap.size (.slice A1_4 x0.arrays.length c1_4) (.slice A2_4 x0.parts.length c2_4)) (first | exact ⟨P0_6, X0_6⟩ | exact ⟨P0_6.to (of_drew b7), X0_6.to (of_drew b7)⟩ | exact ⟨(P0_6.to (of_drew b7)).to b8, (X0_6.to (of_drew b7)).to b8⟩ | skip)
      (first | (go_at_call 7; refine (toProgram_m (RA0_6.out.below (Below.refl _ _).drew) HN0.out).mono ?_; rintro e w7 ⟨A1_7, c1_7, A2_7, c2_7, bs7, rfl, r7, nd7, hb7, b7⟩) | (go_at_call 10; refine (eqProgram_c (Rx0_6.out.below (of_drew b7)) r7).mono ?_; rintro e w8 ⟨rfl, b8⟩))
    have t8 : Below w6.heap.size w6 w8 := below_tr (of_drew b7) b8
    clear b7 b8 r7 hb7 nd7
    have P0_8 := P0_6.to t8; clear P0_6
    have X0_8 := X0_6.to t8; clear X0_6
    have RA0_8 := Lib.hid (RA0_6.out.below t8); clear RA0_6
    have Rw0_8 := Lib.hid (Rw0_6.out.below t8); clear Rw0_6
    have Rx0_8 := Lib.hid (Rx0_6.out.below t8); clear Rx0_6
    have Rg0_8 := Lib.hid (Rg0_6.out.below t8); clear Rg0_6
    have S8 : Below w.heap.size w w8 := below_tr S6 t8
    have Z8 := Lib.hid (t8.size)
    have hcnt : cntL cntI (DistancesF x0 x1) ≤ 1000000 := HL.out
    have hn0c : Pgm.cntM x0 ≤ 10000000 := by have := HN0.out; have := Pgm.cntM_le x0; omega
    go_wp2_with fail
    refine (markProgram_n Rx0_8.out nd4 (q := 1) (by omega) (by omega)).mono ?_
    rintro e w9 ⟨rfl, r9, t9⟩
    have m9h := Lib.hid r9; clear r9
    have P0_9 := t9.box2 P0_8 (fun hm => by have h1 := Tx0.out _ hm; have q0 := Z1.out; have q1 := LP0.out; have q2 := Z2.out; have q3 := Z3.out; have q4 := Z4.out; have q5 := Z5.out; have q6 := LX0.out; have q7 := Z6.out; have q8 := Z8.out; omega); clear P0_8
    have X0_9 := t9.box2 X0_8 (fun hm => by have h1 := Tx0.out _ hm; have q0 := Z1.out; have q1 := LP0.out; have q2 := Z2.out; have q3 := Z3.out; have q4 := Z4.out; have q5 := Z5.out; have q6 := LX0.out; have q7 := Z6.out; have q8 := Z8.out; omega); clear X0_8
    have RA0_9 := Lib.hid (Rep.keep _ RA0_8.out (t9.keeps fun y hy => ⟨Rep.lt _ RA0_8.out y hy, fun hm => by have h1 := Tx0.out y hm; have h2 := TA0.out y hy; have q0 := Z1.out; have q1 := LP0.out; have q2 := Z2.out; have q3 := Z3.out; have q4 := Z4.out; have q5 := Z5.out; have q6 := LX0.out; have q7 := Z6.out; have q8 := Z8.out; omega⟩)); clear RA0_8
    have Rw0_9 := Lib.hid (Rep.keep _ Rw0_8.out (t9.keeps fun y hy => ⟨Rep.lt _ Rw0_8.out y hy, fun hm => by have h1 := Tx0.out y hm; have h2 := Tw0.out y hy; have q0 := Z1.out; have q1 := LP0.out; have q2 := Z2.out; have q3 := Z3.out; have q4 := Z4.out; have q5 := Z5.out; have q6 := LX0.out; have q7 := Z6.out; have q8 := Z8.out; omega⟩)); clear Rw0_8
    have Rg0_9 := Lib.hid (Rep.keep _ Rg0_8.out (t9.keeps fun y hy => ⟨Rep.lt _ Rg0_8.out y hy, fun hm => by have h1 := Tx0.out y hm; have h2 := Tg0.out y hy; have q0 := Z1.out; have q1 := LP0.out; have q2 := Z2.out; have q3 := Z3.out; have q4 := Z4.out; have q5 := Z5.out; have q6 := LX0.out; have q7 := Z6.out; have q8 := Z8.out; omega⟩)); clear Rg0_8
    have S9 : Below w.heap.size w w9 := S8.trans (t9.below S8.size (fun y hm => by have h1 := Tx0.out y hm; have q0 := Z1.out; have q1 := LP0.out; have q2 := Z2.out; have q3 := Z3.out; have q4 := Z4.out; have q5 := Z5.out; have q6 := LX0.out; have q7 := Z6.out; have q8 := Z8.out; omega))
    have Z9 := Lib.hid (show w8.heap.size ≤ w9.heap.size from t9.size)
    clear t9
    go_wp2_with fail
    refine (eqIntSS_b (Rg0_9.out.below bel) (Rw0_9.out.below bel)).mono ?_
    rintro e w10 ⟨rfl, b10⟩
    have P0_10 := P0_9.to b10; clear P0_9
    have X0_10 := X0_9.to b10; clear X0_9
    have RA0_10 := Lib.hid (RA0_9.out.below b10); clear RA0_9
    have Rw0_10 := Lib.hid (Rw0_9.out.below b10); clear Rw0_9
    have Rg0_10 := Lib.hid (Rg0_9.out.below b10); clear Rg0_9
    have S10 : Below w.heap.size w w10 := below_tr S9 b10
    have Z10 := Lib.hid (b10.size)
    go_wp2_with fail
    refine (markIntSS_n Rg0_10.out nd5 (q := 1) (by omega) (by omega)).mono ?_
    rintro e w11 ⟨rfl, r11, t11⟩
    have m11h := Lib.hid r11; clear r11
    have P0_11 := t11.box2 P0_10 (fun hm => by have h1 := Tg0.out _ hm; have q0 := Z1.out; have q1 := LP0.out; have q2 := Z2.out; have q3 := Z3.out; have q4 := Z4.out; have q5 := Z5.out; have q6 := LX0.out; have q7 := Z6.out; have q8 := Z8.out; have q9 := Z9.out; have q10 := Z10.out; omega); clear P0_10
    have X0_11 := t11.box2 X0_10 (fun hm => by have h1 := Tg0.out _ hm; have q0 := Z1.out; have q1 := LP0.out; have q2 := Z2.out; have q3 := Z3.out; have q4 := Z4.out; have q5 := Z5.out; have q6 := LX0.out; have q7 := Z6.out; have q8 := Z8.out; have q9 := Z9.out; have q10 := Z10.out; omega); clear X0_10
    have RA0_11 := Lib.hid (Rep.keep _ RA0_10.out (t11.keeps fun y hy => ⟨Rep.lt _ RA0_10.out y hy, fun hm => by have h1 := Tg0.out y hm; have h2 := TA0.out y hy; have q0 := Z1.out; have q1 := LP0.out; have q2 := Z2.out; have q3 := Z3.out; have q4 := Z4.out; have q5 := Z5.out; have q6 := LX0.out; have q7 := Z6.out; have q8 := Z8.out; have q9 := Z9.out; have q10 := Z10.out; omega⟩)); clear RA0_10
    have Rw0_11 := Lib.hid (Rep.keep _ Rw0_10.out (t11.keeps fun y hy => ⟨Rep.lt _ Rw0_10.out y hy, fun hm => by have h1 := Tg0.out y hm; have h2 := Tw0.out y hy; have q0 := Z1.out; have q1 := LP0.out; have q2 := Z2.out; have q3 := Z3.out; have q4 := Z4.out; have q5 := Z5.out; have q6 := LX0.out; have q7 := Z6.out; have q8 := Z8.out; have q9 := Z9.out; have q10 := Z10.out; omega⟩)); clear Rw0_10
    have S11 : Below w.heap.size w w11 := S10.trans (t11.below S10.size (fun y hm => by have h1 := Tg0.out y hm; have q0 := Z1.out; have q1 := LP0.out; have q2 := Z2.out; have q3 := Z3.out; have q4 := Z4.out; have q5 := Z5.out; have q6 := LX0.out; have q7 := Z6.out; have q8 := Z8.out; have q9 := Z9.out; have q10 := Z10.out; omega))
    have Z11 := Lib.hid (show w10.heap.size ≤ w11.heap.size from t11.size)
    clear t11
    have hmq : ((1 + ((cntL cntI (DistancesF x0 x1) : Nat) : Int)) != (1 + ((cntL cntI (DistancesF x0 x1) : Nat) : Int))) = false := by simp
    go_wp2_with fail
    refine (heldIntSS_n m11h.out (q := 1) (by omega) (by omega)).mono ?_
    rintro e w12 ⟨rfl, b12⟩
    have P0_12 := P0_11.to b12; clear P0_11
    have X0_12 := X0_11.to b12; clear X0_11
    have RA0_12 := Lib.hid (RA0_11.out.below b12); clear RA0_11
    have Rw0_12 := Lib.hid (Rw0_11.out.below b12); clear Rw0_11
    have Rg0_12 := Lib.hid (m11h.out.below b12); clear m11h
    have S12 : Below w.heap.size w w12 := below_tr S11 b12
    have Z12 := Lib.hid (b12.size)
    go_wp2_with fail
    refine (toProgram_m (RA0_12.out.below bel) HN0.out).mono ?_
    rintro e w13 ⟨A1_13, c1_13, A2_13, c2_13, bs13, rfl, r13, nd13, hb13, b13⟩
    have Tz0 := Lib.hid (show ∀ y ∈ bs13, w12.heap.size + 0 ≤ y ∧ y < w13.heap.size from fun y hy => ⟨by have := hb13 y hy; (try simp at this); omega, Rep.lt _ r13 y hy⟩)
    have P0_13 := P0_12.to b13; clear P0_12
    have X0_13 := X0_12.to b13; clear X0_12
    have RA0_13 := Lib.hid (RA0_12.out.below b13); clear RA0_12
    have Rw0_13 := Lib.hid (Rw0_12.out.below b13); clear Rw0_12
    have Rg0_13 := Lib.hid (Rg0_12.out.below b13); clear Rg0_12
    have S13 : Below w.heap.size w w13 := below_tr S12 b13
    have Z13 := Lib.hid (b13.size)
    have r13h := Lib.hid r13; clear r13 hb13
    go_wp2_with fail
    refine (implDistances_k (r13h.out.below bel)).mono ?_
    rintro e w14 ⟨A14, n14, c14, bs14, rfl, r14, nd14, hb14, b14⟩
    have P0_14 := P0_13.to b14; clear P0_13
    have X0_14 := X0_13.to b14; clear X0_13
    have RA0_14 := Lib.hid (RA0_13.out.below b14); clear RA0_13
    have Rw0_14 := Lib.hid (Rw0_13.out.below b14); clear Rw0_13
    have Rg0_14 := Lib.hid (Rg0_13.out.below b14); clear Rg0_13
    have Rz0_14 := Lib.hid (r13h.out.below b14); clear r13h
    have S14 : Below w.heap.size w w14 := below_tr S13 b14
    have Z14 := Lib.hid (b14.size)
    have r14h := Lib.hid r14; clear r14 hb14 nd14
    go_wp2_with fail
    refine (eqIntSS_b (r14h.out.below bel) (Rw0_14.out.below bel)).mono ?_
    rintro e w15 ⟨rfl, b15⟩
    have P0_15 := P0_14.to b15; clear P0_14
    have X0_15 := X0_14.to b15; clear X0_14
    have RA0_15 := Lib.hid (RA0_14.out.below b15); clear RA0_14
    have Rw0_15 := Lib.hid (Rw0_14.out.below b15); clear Rw0_14
    have Rg0_15 := Lib.hid (Rg0_14.out.below b15); clear Rg0_14
    have Rh0_15 := Lib.hid (r14h.out.below b15); clear r14h
    have S15 : Below w.heap.size w w15 := below_tr S14 b15
    have Z15 := Lib.hid (b15.size)
    go_wp2_with fail
    refine (heldIntSS_n Rg0_15.out (q := 1) (by omega) (by omega)).mono ?_
    rintro e w16 ⟨rfl, b16⟩
    have P0_16 := P0_15.to b16; clear P0_15
    have X0_16 := X0_15.to b16; clear X0_15
    have RA0_16 := Lib.hid (RA0_15.out.below b16); clear RA0_15
    have Rw0_16 := Lib.hid (Rw0_15.out.below b16); clear Rw0_15
    have Rg0_16 := Lib.hid (Rg0_15.out.below b16); clear Rg0_15
    have Rh0_16 := Lib.hid (Rh0_15.out.below b16); clear Rh0_15
    have S16 : Below w.heap.size w w16 := below_tr S15 b16
    have Z16 := Lib.hid (b16.size)
    go_wp2
    go_ret
    exact ⟨rfl, S16⟩
end Go.Proofs.YtpmgmekbnbligaaGreat
