/- The law FnExactParallelOrder: its walk. Printed by lawgen.py. -/
import Derived.Test.YtgogjbnneoadkaaGreatZpLaw
import Derived.Test.YtgogjbnneoadkaaGreatZpBasic
import Derived.Test.YtgogjbnneoadkaaGreatZpParS
import Derived.Test.YtgogjbnneoadkaaGreatZpOps
set_option linter.all false
set_option linter.unusedSimpArgs false
set_option linter.unusedVariables false
namespace Go.Proofs.YtgogjbnneoadkaaGreat
open Go.ChangeShapes Go.WideShapes Go.ChangeAt Go.RowKit Go.Deep

set_option maxRecDepth 100000 in
set_option maxHeartbeats 2000000 in
theorem FnExactParallelOrder_walk {w : World} {x0 : Pgm} {A1_0 : Option Addr} {c1_0 : Nat} {A2_0 : Option Addr} {c2_0 : Nat} {bs0 : List Nat} {x1 : Int} {x2 : Int} {x3 : List Int} {A3 : Option Addr} {n3 : Nat} {c3 : Nat} {bs3 : List Nat} (h0 : Rep w x0.d [.slice A1_0 x0.arrays.length c1_0, .slice A2_0 x0.parts.length c2_0] bs0) (h3 : Rep w (ints x3) [.slice A3 n3 c3] bs3) :
    Calls Tryz.prog 6 #[.agg #[.slice A1_0 x0.arrays.length c1_0, .slice A2_0 x0.parts.length c2_0], .int .i64 x1, .int .i64 x2, .slice A3 n3 c3] w fun e w' => e = .returned (.bool true) ∧ Below w.heap.size w w' := by
  have H0 := Lib.hid h0; clear h0
  have hm3 : n3 ≤ 9223372036854775807 := Nat.le_trans h3.ints_len.2.1 h3.ints_len.2.2
  have H3 := Lib.hid h3; clear h3
  have hnl3 := H3.out.ints_len.1
  have HNL3 := Lib.hid hnl3; clear hnl3
  by_cases hbig3 : 1048576 < n3
  · skip
    go_enter Tryz.func6, Tryz.ntmps6
    go_wp2
    go_ret
    exact ⟨rfl, bel⟩
  · have HN3 := Lib.hid (show x3.length ≤ 1048576 by have := HNL3.out; omega)
    by_cases hs0 : (1048576 : Int) - ((szD x0.d : Nat) : Int) < 0
    · have HS0 := Lib.hid (szR_neg hs0)
      go_enter Tryz.func6, Tryz.ntmps6
      go_wp2_with fail
      refine (szProgram_t (H0.out.below bel) (by omega) (by omega)).mono ?_
      rintro e v1 ⟨rfl, bv1⟩
      rw [HS0.out]
      go_wp2
      go_ret
      exact ⟨rfl, bel⟩
    · have HS0 := Lib.hid (szR_pos (left := 1048576) (tot := szD x0.d) (by omega))
      have HN0 := Lib.hid (show szD x0.d ≤ 1048576 by omega)
      have hl0 : 0 ≤ (1048576 : Int) - ((szD x0.d : Nat) : Int) := by omega
      clear hs0
      have hq1 : ((ParallelOrderF x0 x1 x2 x3).2 != (ParallelOrderF x0 x1 x2 x3).2) = false := by simp
      have HL := Lib.hid (ParallelOrderF_len x0 x1 x2 x3)
      go_enter Tryz.func6, Tryz.ntmps6
      have TA0 := Lib.hid (Rep.lt _ H0.out)
      have TA3 := Lib.hid (Rep.lt _ H3.out)
      go_wp2_with fail
      refine (szProgram_t (H0.out.below bel) (by omega) (by omega)).mono ?_
      rintro e w1 ⟨rfl, b1⟩
      rw [HS0.out]
      have P0_1n := (Box2.new w _ _ _).to b1
      have s1 : Below w.heap.size w w1 := bel
      have RA0_1 := Lib.hid (H0.out.below s1); clear H0
      have RA3_1 := Lib.hid (H3.out.below s1); clear H3
      have S1 : Below w.heap.size w w1 := s1
      have Z1 := Lib.hid (s1.size)
      have LP0 := Lib.hid (lt_of_cell P0_1n.1)
      go_wp2_with fail
      refine (toProgram_m (RA0_1.out.below bel) HN0.out).mono ?_
      rintro e w2 ⟨A1_2, c1_2, A2_2, c2_2, bs2, rfl, r2, nd2, hb2, b2⟩
      have Tc0 := Lib.hid (show ∀ y ∈ bs2, w1.heap.size + 0 ≤ y ∧ y < w2.heap.size from fun y hy => ⟨by have := hb2 y hy; (try simp at this); omega, Rep.lt _ r2 y hy⟩)
      have P0_2 := P0_1n.to b2; clear P0_1n
      have RA0_2 := Lib.hid (RA0_1.out.below b2); clear RA0_1
      have RA3_2 := Lib.hid (RA3_1.out.below b2); clear RA3_1
      have S2 : Below w.heap.size w w2 := below_tr S1 b2
      have Z2 := Lib.hid (b2.size)
      have r2h := Lib.hid r2; clear r2 hb2
      clear nd2
      go_wp2_with fail
      refine (toIntS_m (RA3_2.out.below bel) HN3.out).mono ?_
      rintro e w3 ⟨A3, n3, c3, bs3, rfl, r3, nd3, hb3, b3⟩
      have Tc3 := Lib.hid (show ∀ y ∈ bs3, w2.heap.size + 0 ≤ y ∧ y < w3.heap.size from fun y hy => ⟨by have := hb3 y hy; (try simp at this); omega, Rep.lt _ r3 y hy⟩)
      have P0_3 := P0_2.to b3; clear P0_2
      have RA0_3 := Lib.hid (RA0_2.out.below b3); clear RA0_2
      have RA3_3 := Lib.hid (RA3_2.out.below b3); clear RA3_2
      have Rc0_3 := Lib.hid (r2h.out.below b3); clear r2h
      have S3 : Below w.heap.size w w3 := below_tr S2 b3
      have Z3 := Lib.hid (b3.size)
      have r3h := Lib.hid r3; clear r3 hb3
      clear nd3
      go_wp2_with fail
      refine (specParallelOrder_c (Rc0_3.out.below bel) (r3h.out.below bel)).mono ?_
      rintro e w4 ⟨A4, n4, c4, bs4, rfl, r4, nd4, hb4, b4⟩
      have Tw0 := Lib.hid (show ∀ y ∈ bs4, y < w4.heap.size from Rep.lt _ r4)
      have P0_4 := P0_3.to b4; clear P0_3
      have RA0_4 := Lib.hid (RA0_3.out.below b4); clear RA0_3
      have RA3_4 := Lib.hid (RA3_3.out.below b4); clear RA3_3
      have Rc0_4 := Lib.hid (Rc0_3.out.below b4); clear Rc0_3
      have Rc3_4 := Lib.hid (r3h.out.below b4); clear r3h
      have S4 : Below w.heap.size w w4 := below_tr S3 b4
      have Z4 := Lib.hid (b4.size)
      have r4h := Lib.hid r4; clear r4 hb4 nd4
      go_wp2_with fail
      refine (toProgram_m (RA0_4.out.below bel) HN0.out).mono ?_
      rintro e w5 ⟨A1_5, c1_5, A2_5, c2_5, bs5, rfl, r5, nd5, hb5, b5⟩
      have Tx0 := Lib.hid (show ∀ y ∈ bs5, w4.heap.size + 0 ≤ y ∧ y < w5.heap.size from fun y hy => ⟨by have := hb5 y hy; (try simp at this); omega, Rep.lt _ r5 y hy⟩)
      have P0_5 := P0_4.to b5; clear P0_4
      have RA0_5 := Lib.hid (RA0_4.out.below b5); clear RA0_4
      have RA3_5 := Lib.hid (RA3_4.out.below b5); clear RA3_4
      have Rw0_5 := Lib.hid (r4h.out.below b5); clear r4h
      have S5 : Below w.heap.size w w5 := below_tr S4 b5
      have Z5 := Lib.hid (b5.size)
      have r5h := Lib.hid r5; clear r5 hb5
      have ltP0_5 := lt_of_cell P0_5.1
      go_wp2_with fail
      refine (toIntS_m (RA3_5.out.below bel) HN3.out).mono ?_
      rintro e w6 ⟨A6, n6, c6, bs6, rfl, r6, nd6, hb6, b6⟩
      have Tx3 := Lib.hid (show ∀ y ∈ bs6, w5.heap.size + 1 ≤ y ∧ y < w6.heap.size from fun y hy => ⟨by have := hb6 y hy; (try simp at this); omega, Rep.lt _ r6 y hy⟩)
      have X0_6n := (Box2.new w5 _ _ _).to b6
      have s6 : Below w5.heap.size w5 w6 := bel
      have P0_6 := P0_5.to s6; clear P0_5
      have RA0_6 := Lib.hid (RA0_5.out.below s6); clear RA0_5
      have RA3_6 := Lib.hid (RA3_5.out.below s6); clear RA3_5
      have Rw0_6 := Lib.hid (Rw0_5.out.below s6); clear Rw0_5
      have Rx0_6 := Lib.hid (r5h.out.below s6); clear r5h
      have S6 : Below w.heap.size w w6 := below_tr S5 s6
      have Z6 := Lib.hid (s6.size)
      have LX0 := Lib.hid (lt_of_cell X0_6n.1)
      have r6h := Lib.hid r6; clear r6 hb6
      go_wp2_with fail
      refine (implParallelOrder_c (Rx0_6.out.below bel) (r6h.out.below bel)).mono ?_
      rintro e w7 ⟨A7, n7, c7, bs7, rfl, r7, nd7, hb7, b7⟩
      have Tg0 := Lib.hid (show ∀ y ∈ bs7, w6.heap.size + 0 ≤ y ∧ y < w7.heap.size from fun y hy => ⟨by have := hb7 y hy; (try simp at this); omega, Rep.lt _ r7 y hy⟩)
      have P0_7 := P0_6.to b7; clear P0_6
      have X0_7 := X0_6n.to b7; clear X0_6n
      have RA0_7 := Lib.hid (RA0_6.out.below b7); clear RA0_6
      have RA3_7 := Lib.hid (RA3_6.out.below b7); clear RA3_6
      have Rw0_7 := Lib.hid (Rw0_6.out.below b7); clear Rw0_6
      have Rx0_7 := Lib.hid (Rx0_6.out.below b7); clear Rx0_6
      have Rx3_7 := Lib.hid (r6h.out.below b7); clear r6h
      have S7 : Below w.heap.size w w7 := below_tr S6 b7
      have Z7 := Lib.hid (b7.size)
      have r7h := Lib.hid r7; clear r7 hb7
      go_wp2_with fail
      refine (eqIntS_b (r7h.out.below bel) (Rw0_7.out.below bel)).mono ?_
      rintro e w8 ⟨rfl, b8⟩
      have P0_8 := P0_7.to b8; clear P0_7
      have X0_8 := X0_7.to b8; clear X0_7
      have RA0_8 := Lib.hid (RA0_7.out.below b8); clear RA0_7
      have RA3_8 := Lib.hid (RA3_7.out.below b8); clear RA3_7
      have Rw0_8 := Lib.hid (Rw0_7.out.below b8); clear Rw0_7
      have Rx0_8 := Lib.hid (Rx0_7.out.below b8); clear Rx0_7
      have Rx3_8 := Lib.hid (Rx3_7.out.below b8); clear Rx3_7
      have Rg0_8 := Lib.hid (r7h.out.below b8); clear r7h
      have S8 : Below w.heap.size w w8 := below_tr S7 b8
      have Z8 := Lib.hid (b8.size)
      go_wp2_with fail
      go_region_held3 (fun w' => Box2 w' w.heap.size (.slice A1_0 x0.arrays.length c1_0) (.slice A2_0 x0.parts.length c2_0) ∧ Box2 w' w5.heap.size (.slice A1_5 x0.arrays.length c1_5) (.slice A2_5 x0.parts.length c2_5)) (first | exact ⟨P0_8, X0_8⟩ | exact ⟨P0_8.to (of_drew b9), X0_8.to (of_drew b9)⟩ | exact ⟨(P0_8.to (of_drew b9)).to b10, (X0_8.to (of_drew b9)).to b10⟩ | skip)
        (first | (go_at_call 10; refine (toProgram_m (RA0_8.out.below (Below.refl _ _).drew) HN0.out).mono ?_; rintro e w9 ⟨A1_9, c1_9, A2_9, c2_9, bs9, rfl, r9, nd9, hb9, b9⟩) | (go_at_call 12; refine (eqProgram_c (Rx0_8.out.below (of_drew b9)) r9).mono ?_; rintro e w10 ⟨rfl, b10⟩))
      have t10 : Below w8.heap.size w8 w10 := below_tr (of_drew b9) b10
      clear b9 b10 r9 hb9 nd9
      have P0_10 := P0_8.to t10; clear P0_8
      have X0_10 := X0_8.to t10; clear X0_8
      have RA0_10 := Lib.hid (RA0_8.out.below t10); clear RA0_8
      have RA3_10 := Lib.hid (RA3_8.out.below t10); clear RA3_8
      have Rw0_10 := Lib.hid (Rw0_8.out.below t10); clear Rw0_8
      have Rx0_10 := Lib.hid (Rx0_8.out.below t10); clear Rx0_8
      have Rx3_10 := Lib.hid (Rx3_8.out.below t10); clear Rx3_8
      have Rg0_10 := Lib.hid (Rg0_8.out.below t10); clear Rg0_8
      have S10 : Below w.heap.size w w10 := below_tr S8 t10
      have Z10 := Lib.hid (t10.size)
      go_wp2_with fail
      refine (toIntS_m (RA3_10.out.below bel) HN3.out).mono ?_
      rintro e w11 ⟨A11, n11, c11, bs11, rfl, r11, nd11, hb11, b11⟩
      have Ty3 := Lib.hid (show ∀ y ∈ bs11, w10.heap.size + 0 ≤ y ∧ y < w11.heap.size from fun y hy => ⟨by have := hb11 y hy; (try simp at this); omega, Rep.lt _ r11 y hy⟩)
      have P0_11 := P0_10.to b11; clear P0_10
      have X0_11 := X0_10.to b11; clear X0_10
      have RA0_11 := Lib.hid (RA0_10.out.below b11); clear RA0_10
      have RA3_11 := Lib.hid (RA3_10.out.below b11); clear RA3_10
      have Rw0_11 := Lib.hid (Rw0_10.out.below b11); clear Rw0_10
      have Rx0_11 := Lib.hid (Rx0_10.out.below b11); clear Rx0_10
      have Rx3_11 := Lib.hid (Rx3_10.out.below b11); clear Rx3_10
      have Rg0_11 := Lib.hid (Rg0_10.out.below b11); clear Rg0_10
      have S11 : Below w.heap.size w w11 := below_tr S10 b11
      have Z11 := Lib.hid (b11.size)
      have r11h := Lib.hid r11; clear r11 hb11
      go_wp2_with fail
      refine (eqIntS_b (Rx3_11.out.below bel) (r11h.out.below bel)).mono ?_
      rintro e w12 ⟨rfl, b12⟩
      have P0_12 := P0_11.to b12; clear P0_11
      have X0_12 := X0_11.to b12; clear X0_11
      have RA0_12 := Lib.hid (RA0_11.out.below b12); clear RA0_11
      have RA3_12 := Lib.hid (RA3_11.out.below b12); clear RA3_11
      have Rw0_12 := Lib.hid (Rw0_11.out.below b12); clear Rw0_11
      have Rx0_12 := Lib.hid (Rx0_11.out.below b12); clear Rx0_11
      have Rx3_12 := Lib.hid (Rx3_11.out.below b12); clear Rx3_11
      have Rg0_12 := Lib.hid (Rg0_11.out.below b12); clear Rg0_11
      have Ry3_12 := Lib.hid (r11h.out.below b12); clear r11h
      have S12 : Below w.heap.size w w12 := below_tr S11 b12
      have Z12 := Lib.hid (b12.size)
      have hcnt : (ParallelOrderF x0 x1 x2 x3).1.length ≤ 1000000 := HL.out
      have hn0c : Pgm.cntM x0 ≤ 10000000 := by have := HN0.out; have := Pgm.cntM_le x0; omega
      go_wp2_with fail
      refine (markProgram_n Rx0_12.out nd5 (q := 1) (by omega) (by omega)).mono ?_
      rintro e w13 ⟨rfl, r13, t13⟩
      have m13h := Lib.hid r13; clear r13
      have P0_13 := t13.box2 P0_12 (fun hm => by have h1 := Tx0.out _ hm; have q0 := Z1.out; have q1 := LP0.out; have q2 := Z2.out; have q3 := Z3.out; have q4 := Z4.out; have q5 := Z5.out; have q6 := Z6.out; have q7 := LX0.out; have q8 := Z7.out; have q9 := Z8.out; have q10 := Z10.out; have q11 := Z11.out; have q12 := Z12.out; omega); clear P0_12
      have X0_13 := t13.box2 X0_12 (fun hm => by have h1 := Tx0.out _ hm; have q0 := Z1.out; have q1 := LP0.out; have q2 := Z2.out; have q3 := Z3.out; have q4 := Z4.out; have q5 := Z5.out; have q6 := Z6.out; have q7 := LX0.out; have q8 := Z7.out; have q9 := Z8.out; have q10 := Z10.out; have q11 := Z11.out; have q12 := Z12.out; omega); clear X0_12
      have RA0_13 := Lib.hid (Rep.keep _ RA0_12.out (t13.keeps fun y hy => ⟨Rep.lt _ RA0_12.out y hy, fun hm => by have h1 := Tx0.out y hm; have h2 := TA0.out y hy; have q0 := Z1.out; have q1 := LP0.out; have q2 := Z2.out; have q3 := Z3.out; have q4 := Z4.out; have q5 := Z5.out; have q6 := Z6.out; have q7 := LX0.out; have q8 := Z7.out; have q9 := Z8.out; have q10 := Z10.out; have q11 := Z11.out; have q12 := Z12.out; omega⟩)); clear RA0_12
      have RA3_13 := Lib.hid (Rep.keep _ RA3_12.out (t13.keeps fun y hy => ⟨Rep.lt _ RA3_12.out y hy, fun hm => by have h1 := Tx0.out y hm; have h2 := TA3.out y hy; have q0 := Z1.out; have q1 := LP0.out; have q2 := Z2.out; have q3 := Z3.out; have q4 := Z4.out; have q5 := Z5.out; have q6 := Z6.out; have q7 := LX0.out; have q8 := Z7.out; have q9 := Z8.out; have q10 := Z10.out; have q11 := Z11.out; have q12 := Z12.out; omega⟩)); clear RA3_12
      have Rw0_13 := Lib.hid (Rep.keep _ Rw0_12.out (t13.keeps fun y hy => ⟨Rep.lt _ Rw0_12.out y hy, fun hm => by have h1 := Tx0.out y hm; have h2 := Tw0.out y hy; have q0 := Z1.out; have q1 := LP0.out; have q2 := Z2.out; have q3 := Z3.out; have q4 := Z4.out; have q5 := Z5.out; have q6 := Z6.out; have q7 := LX0.out; have q8 := Z7.out; have q9 := Z8.out; have q10 := Z10.out; have q11 := Z11.out; have q12 := Z12.out; omega⟩)); clear Rw0_12
      have Rx3_13 := Lib.hid (Rep.keep _ Rx3_12.out (t13.keeps fun y hy => ⟨Rep.lt _ Rx3_12.out y hy, fun hm => by have h1 := Tx0.out y hm; have h2 := Tx3.out y hy; have q0 := Z1.out; have q1 := LP0.out; have q2 := Z2.out; have q3 := Z3.out; have q4 := Z4.out; have q5 := Z5.out; have q6 := Z6.out; have q7 := LX0.out; have q8 := Z7.out; have q9 := Z8.out; have q10 := Z10.out; have q11 := Z11.out; have q12 := Z12.out; omega⟩)); clear Rx3_12
      have Rg0_13 := Lib.hid (Rep.keep _ Rg0_12.out (t13.keeps fun y hy => ⟨Rep.lt _ Rg0_12.out y hy, fun hm => by have h1 := Tx0.out y hm; have h2 := Tg0.out y hy; have q0 := Z1.out; have q1 := LP0.out; have q2 := Z2.out; have q3 := Z3.out; have q4 := Z4.out; have q5 := Z5.out; have q6 := Z6.out; have q7 := LX0.out; have q8 := Z7.out; have q9 := Z8.out; have q10 := Z10.out; have q11 := Z11.out; have q12 := Z12.out; omega⟩)); clear Rg0_12
      have S13 : Below w.heap.size w w13 := S12.trans (t13.below S12.size (fun y hm => by have h1 := Tx0.out y hm; have q0 := Z1.out; have q1 := LP0.out; have q2 := Z2.out; have q3 := Z3.out; have q4 := Z4.out; have q5 := Z5.out; have q6 := Z6.out; have q7 := LX0.out; have q8 := Z7.out; have q9 := Z8.out; have q10 := Z10.out; have q11 := Z11.out; have q12 := Z12.out; omega))
      have Z13 := Lib.hid (show w12.heap.size ≤ w13.heap.size from t13.size)
      clear t13
      have hn3c : x3.length ≤ 10000000 := by have := HN3.out; omega
      go_wp2_with fail
      refine (markIntS_n Rx3_13.out nd6 (q := (1 + ((Pgm.cntM x0 : Nat) : Int))) (by omega) (by omega)).mono ?_
      rintro e w14 ⟨rfl, r14, t14⟩
      have m14h := Lib.hid r14; clear r14
      have P0_14 := t14.box2 P0_13 (fun hm => by have h1 := Tx3.out _ hm; have q0 := Z1.out; have q1 := LP0.out; have q2 := Z2.out; have q3 := Z3.out; have q4 := Z4.out; have q5 := Z5.out; have q6 := Z6.out; have q7 := LX0.out; have q8 := Z7.out; have q9 := Z8.out; have q10 := Z10.out; have q11 := Z11.out; have q12 := Z12.out; have q13 := Z13.out; omega); clear P0_13
      have X0_14 := t14.box2 X0_13 (fun hm => by have h1 := Tx3.out _ hm; have q0 := Z1.out; have q1 := LP0.out; have q2 := Z2.out; have q3 := Z3.out; have q4 := Z4.out; have q5 := Z5.out; have q6 := Z6.out; have q7 := LX0.out; have q8 := Z7.out; have q9 := Z8.out; have q10 := Z10.out; have q11 := Z11.out; have q12 := Z12.out; have q13 := Z13.out; omega); clear X0_13
      have RA0_14 := Lib.hid (Rep.keep _ RA0_13.out (t14.keeps fun y hy => ⟨Rep.lt _ RA0_13.out y hy, fun hm => by have h1 := Tx3.out y hm; have h2 := TA0.out y hy; have q0 := Z1.out; have q1 := LP0.out; have q2 := Z2.out; have q3 := Z3.out; have q4 := Z4.out; have q5 := Z5.out; have q6 := Z6.out; have q7 := LX0.out; have q8 := Z7.out; have q9 := Z8.out; have q10 := Z10.out; have q11 := Z11.out; have q12 := Z12.out; have q13 := Z13.out; omega⟩)); clear RA0_13
      have RA3_14 := Lib.hid (Rep.keep _ RA3_13.out (t14.keeps fun y hy => ⟨Rep.lt _ RA3_13.out y hy, fun hm => by have h1 := Tx3.out y hm; have h2 := TA3.out y hy; have q0 := Z1.out; have q1 := LP0.out; have q2 := Z2.out; have q3 := Z3.out; have q4 := Z4.out; have q5 := Z5.out; have q6 := Z6.out; have q7 := LX0.out; have q8 := Z7.out; have q9 := Z8.out; have q10 := Z10.out; have q11 := Z11.out; have q12 := Z12.out; have q13 := Z13.out; omega⟩)); clear RA3_13
      have Rw0_14 := Lib.hid (Rep.keep _ Rw0_13.out (t14.keeps fun y hy => ⟨Rep.lt _ Rw0_13.out y hy, fun hm => by have h1 := Tx3.out y hm; have h2 := Tw0.out y hy; have q0 := Z1.out; have q1 := LP0.out; have q2 := Z2.out; have q3 := Z3.out; have q4 := Z4.out; have q5 := Z5.out; have q6 := Z6.out; have q7 := LX0.out; have q8 := Z7.out; have q9 := Z8.out; have q10 := Z10.out; have q11 := Z11.out; have q12 := Z12.out; have q13 := Z13.out; omega⟩)); clear Rw0_13
      have Rg0_14 := Lib.hid (Rep.keep _ Rg0_13.out (t14.keeps fun y hy => ⟨Rep.lt _ Rg0_13.out y hy, fun hm => by have h1 := Tx3.out y hm; have h2 := Tg0.out y hy; have q0 := Z1.out; have q1 := LP0.out; have q2 := Z2.out; have q3 := Z3.out; have q4 := Z4.out; have q5 := Z5.out; have q6 := Z6.out; have q7 := LX0.out; have q8 := Z7.out; have q9 := Z8.out; have q10 := Z10.out; have q11 := Z11.out; have q12 := Z12.out; have q13 := Z13.out; omega⟩)); clear Rg0_13
      have S14 : Below w.heap.size w w14 := S13.trans (t14.below S13.size (fun y hm => by have h1 := Tx3.out y hm; have q0 := Z1.out; have q1 := LP0.out; have q2 := Z2.out; have q3 := Z3.out; have q4 := Z4.out; have q5 := Z5.out; have q6 := Z6.out; have q7 := LX0.out; have q8 := Z7.out; have q9 := Z8.out; have q10 := Z10.out; have q11 := Z11.out; have q12 := Z12.out; have q13 := Z13.out; omega))
      have Z14 := Lib.hid (show w13.heap.size ≤ w14.heap.size from t14.size)
      clear t14
      go_wp2_with fail
      refine (eqIntS_b (Rg0_14.out.below bel) (Rw0_14.out.below bel)).mono ?_
      rintro e w15 ⟨rfl, b15⟩
      have P0_15 := P0_14.to b15; clear P0_14
      have X0_15 := X0_14.to b15; clear X0_14
      have RA0_15 := Lib.hid (RA0_14.out.below b15); clear RA0_14
      have RA3_15 := Lib.hid (RA3_14.out.below b15); clear RA3_14
      have Rw0_15 := Lib.hid (Rw0_14.out.below b15); clear Rw0_14
      have Rg0_15 := Lib.hid (Rg0_14.out.below b15); clear Rg0_14
      have S15 : Below w.heap.size w w15 := below_tr S14 b15
      have Z15 := Lib.hid (b15.size)
      go_wp2_with fail
      refine (markIntS_n Rg0_15.out nd7 (q := 1) (by omega) (by omega)).mono ?_
      rintro e w16 ⟨rfl, r16, t16⟩
      have m16h := Lib.hid r16; clear r16
      have P0_16 := t16.box2 P0_15 (fun hm => by have h1 := Tg0.out _ hm; have q0 := Z1.out; have q1 := LP0.out; have q2 := Z2.out; have q3 := Z3.out; have q4 := Z4.out; have q5 := Z5.out; have q6 := Z6.out; have q7 := LX0.out; have q8 := Z7.out; have q9 := Z8.out; have q10 := Z10.out; have q11 := Z11.out; have q12 := Z12.out; have q13 := Z13.out; have q14 := Z14.out; have q15 := Z15.out; omega); clear P0_15
      have X0_16 := t16.box2 X0_15 (fun hm => by have h1 := Tg0.out _ hm; have q0 := Z1.out; have q1 := LP0.out; have q2 := Z2.out; have q3 := Z3.out; have q4 := Z4.out; have q5 := Z5.out; have q6 := Z6.out; have q7 := LX0.out; have q8 := Z7.out; have q9 := Z8.out; have q10 := Z10.out; have q11 := Z11.out; have q12 := Z12.out; have q13 := Z13.out; have q14 := Z14.out; have q15 := Z15.out; omega); clear X0_15
      have RA0_16 := Lib.hid (Rep.keep _ RA0_15.out (t16.keeps fun y hy => ⟨Rep.lt _ RA0_15.out y hy, fun hm => by have h1 := Tg0.out y hm; have h2 := TA0.out y hy; have q0 := Z1.out; have q1 := LP0.out; have q2 := Z2.out; have q3 := Z3.out; have q4 := Z4.out; have q5 := Z5.out; have q6 := Z6.out; have q7 := LX0.out; have q8 := Z7.out; have q9 := Z8.out; have q10 := Z10.out; have q11 := Z11.out; have q12 := Z12.out; have q13 := Z13.out; have q14 := Z14.out; have q15 := Z15.out; omega⟩)); clear RA0_15
      have RA3_16 := Lib.hid (Rep.keep _ RA3_15.out (t16.keeps fun y hy => ⟨Rep.lt _ RA3_15.out y hy, fun hm => by have h1 := Tg0.out y hm; have h2 := TA3.out y hy; have q0 := Z1.out; have q1 := LP0.out; have q2 := Z2.out; have q3 := Z3.out; have q4 := Z4.out; have q5 := Z5.out; have q6 := Z6.out; have q7 := LX0.out; have q8 := Z7.out; have q9 := Z8.out; have q10 := Z10.out; have q11 := Z11.out; have q12 := Z12.out; have q13 := Z13.out; have q14 := Z14.out; have q15 := Z15.out; omega⟩)); clear RA3_15
      have Rw0_16 := Lib.hid (Rep.keep _ Rw0_15.out (t16.keeps fun y hy => ⟨Rep.lt _ Rw0_15.out y hy, fun hm => by have h1 := Tg0.out y hm; have h2 := Tw0.out y hy; have q0 := Z1.out; have q1 := LP0.out; have q2 := Z2.out; have q3 := Z3.out; have q4 := Z4.out; have q5 := Z5.out; have q6 := Z6.out; have q7 := LX0.out; have q8 := Z7.out; have q9 := Z8.out; have q10 := Z10.out; have q11 := Z11.out; have q12 := Z12.out; have q13 := Z13.out; have q14 := Z14.out; have q15 := Z15.out; omega⟩)); clear Rw0_15
      have S16 : Below w.heap.size w w16 := S15.trans (t16.below S15.size (fun y hm => by have h1 := Tg0.out y hm; have q0 := Z1.out; have q1 := LP0.out; have q2 := Z2.out; have q3 := Z3.out; have q4 := Z4.out; have q5 := Z5.out; have q6 := Z6.out; have q7 := LX0.out; have q8 := Z7.out; have q9 := Z8.out; have q10 := Z10.out; have q11 := Z11.out; have q12 := Z12.out; have q13 := Z13.out; have q14 := Z14.out; have q15 := Z15.out; omega))
      have Z16 := Lib.hid (show w15.heap.size ≤ w16.heap.size from t16.size)
      clear t16
      have hmq : ((1 + (((ParallelOrderF x0 x1 x2 x3).1.length : Nat) : Int)) != (1 + (((ParallelOrderF x0 x1 x2 x3).1.length : Nat) : Int))) = false := by simp
      go_wp2_with fail
      refine (heldIntS_n m16h.out (q := 1) (by omega) (by omega)).mono ?_
      rintro e w17 ⟨rfl, b17⟩
      have P0_17 := P0_16.to b17; clear P0_16
      have X0_17 := X0_16.to b17; clear X0_16
      have RA0_17 := Lib.hid (RA0_16.out.below b17); clear RA0_16
      have RA3_17 := Lib.hid (RA3_16.out.below b17); clear RA3_16
      have Rw0_17 := Lib.hid (Rw0_16.out.below b17); clear Rw0_16
      have Rg0_17 := Lib.hid (m16h.out.below b17); clear m16h
      have S17 : Below w.heap.size w w17 := below_tr S16 b17
      have Z17 := Lib.hid (b17.size)
      go_wp2_with fail
      refine (toProgram_m (RA0_17.out.below bel) HN0.out).mono ?_
      rintro e w18 ⟨A1_18, c1_18, A2_18, c2_18, bs18, rfl, r18, nd18, hb18, b18⟩
      have Tz0 := Lib.hid (show ∀ y ∈ bs18, w17.heap.size + 0 ≤ y ∧ y < w18.heap.size from fun y hy => ⟨by have := hb18 y hy; (try simp at this); omega, Rep.lt _ r18 y hy⟩)
      have P0_18 := P0_17.to b18; clear P0_17
      have X0_18 := X0_17.to b18; clear X0_17
      have RA0_18 := Lib.hid (RA0_17.out.below b18); clear RA0_17
      have RA3_18 := Lib.hid (RA3_17.out.below b18); clear RA3_17
      have Rw0_18 := Lib.hid (Rw0_17.out.below b18); clear Rw0_17
      have Rg0_18 := Lib.hid (Rg0_17.out.below b18); clear Rg0_17
      have S18 : Below w.heap.size w w18 := below_tr S17 b18
      have Z18 := Lib.hid (b18.size)
      have r18h := Lib.hid r18; clear r18 hb18
      go_wp2_with fail
      refine (toIntS_m (RA3_18.out.below bel) HN3.out).mono ?_
      rintro e w19 ⟨A19, n19, c19, bs19, rfl, r19, nd19, hb19, b19⟩
      have Tz3 := Lib.hid (show ∀ y ∈ bs19, w18.heap.size + 0 ≤ y ∧ y < w19.heap.size from fun y hy => ⟨by have := hb19 y hy; (try simp at this); omega, Rep.lt _ r19 y hy⟩)
      have P0_19 := P0_18.to b19; clear P0_18
      have X0_19 := X0_18.to b19; clear X0_18
      have RA0_19 := Lib.hid (RA0_18.out.below b19); clear RA0_18
      have RA3_19 := Lib.hid (RA3_18.out.below b19); clear RA3_18
      have Rw0_19 := Lib.hid (Rw0_18.out.below b19); clear Rw0_18
      have Rg0_19 := Lib.hid (Rg0_18.out.below b19); clear Rg0_18
      have Rz0_19 := Lib.hid (r18h.out.below b19); clear r18h
      have S19 : Below w.heap.size w w19 := below_tr S18 b19
      have Z19 := Lib.hid (b19.size)
      have r19h := Lib.hid r19; clear r19 hb19
      go_wp2_with fail
      refine (implParallelOrder_c (Rz0_19.out.below bel) (r19h.out.below bel)).mono ?_
      rintro e w20 ⟨A20, n20, c20, bs20, rfl, r20, nd20, hb20, b20⟩
      have P0_20 := P0_19.to b20; clear P0_19
      have X0_20 := X0_19.to b20; clear X0_19
      have RA0_20 := Lib.hid (RA0_19.out.below b20); clear RA0_19
      have RA3_20 := Lib.hid (RA3_19.out.below b20); clear RA3_19
      have Rw0_20 := Lib.hid (Rw0_19.out.below b20); clear Rw0_19
      have Rg0_20 := Lib.hid (Rg0_19.out.below b20); clear Rg0_19
      have Rz0_20 := Lib.hid (Rz0_19.out.below b20); clear Rz0_19
      have Rz3_20 := Lib.hid (r19h.out.below b20); clear r19h
      have S20 : Below w.heap.size w w20 := below_tr S19 b20
      have Z20 := Lib.hid (b20.size)
      have r20h := Lib.hid r20; clear r20 hb20 nd20
      go_wp2_with fail
      refine (eqIntS_b (r20h.out.below bel) (Rw0_20.out.below bel)).mono ?_
      rintro e w21 ⟨rfl, b21⟩
      have P0_21 := P0_20.to b21; clear P0_20
      have X0_21 := X0_20.to b21; clear X0_20
      have RA0_21 := Lib.hid (RA0_20.out.below b21); clear RA0_20
      have RA3_21 := Lib.hid (RA3_20.out.below b21); clear RA3_20
      have Rw0_21 := Lib.hid (Rw0_20.out.below b21); clear Rw0_20
      have Rg0_21 := Lib.hid (Rg0_20.out.below b21); clear Rg0_20
      have Rh0_21 := Lib.hid (r20h.out.below b21); clear r20h
      have S21 : Below w.heap.size w w21 := below_tr S20 b21
      have Z21 := Lib.hid (b21.size)
      go_wp2_with fail
      refine (heldIntS_n Rg0_21.out (q := 1) (by omega) (by omega)).mono ?_
      rintro e w22 ⟨rfl, b22⟩
      have P0_22 := P0_21.to b22; clear P0_21
      have X0_22 := X0_21.to b22; clear X0_21
      have RA0_22 := Lib.hid (RA0_21.out.below b22); clear RA0_21
      have RA3_22 := Lib.hid (RA3_21.out.below b22); clear RA3_21
      have Rw0_22 := Lib.hid (Rw0_21.out.below b22); clear Rw0_21
      have Rg0_22 := Lib.hid (Rg0_21.out.below b22); clear Rg0_21
      have Rh0_22 := Lib.hid (Rh0_21.out.below b22); clear Rh0_21
      have S22 : Below w.heap.size w w22 := below_tr S21 b22
      have Z22 := Lib.hid (b22.size)
      go_wp2
      go_ret
      exact ⟨rfl, S22⟩
end Go.Proofs.YtgogjbnneoadkaaGreat
