/- The law FnExactOrderBroken: its walk. Printed by lawgen.py. -/
import Derived.Test.YtgimggpmnemkbaaGreatZLaw
import Derived.Test.YtgimggpmnemkbaaGreatZBasic
import Derived.Test.YtgimggpmnemkbaaGreatZOrds1
import Derived.Test.YtgimggpmnemkbaaGreatZTyProgram
import Derived.Test.YtgimggpmnemkbaaGreatZOps
import Derived.Test.YtgimggpmnemkbaaGreatZActs
set_option linter.all false
set_option linter.unusedSimpArgs false
set_option linter.unusedVariables false
namespace Go.Proofs.YtgimggpmnemkbaaGreat
open Go.ChangeShapes Go.WideShapes Go.ChangeAt Go.RowKit Go.Deep

set_option maxRecDepth 100000 in
set_option maxHeartbeats 2000000 in
theorem FnExactOrderBroken_walk {w : World} {x0 : Pgm} {A1_0 : Option Addr} {c1_0 : Nat} {A2_0 : Option Addr} {c2_0 : Nat} {bs0 : List Nat} {x1 : List Int} {A1 : Option Addr} {n1 : Nat} {c1 : Nat} {bs1 : List Nat} (h0 : Rep w x0.d [.slice A1_0 x0.arrays.length c1_0, .slice A2_0 x0.parts.length c2_0] bs0) (h1 : Rep w (ints x1) [.slice A1 n1 c1] bs1) :
    Calls Tryz.prog 13 #[.agg #[.slice A1_0 x0.arrays.length c1_0, .slice A2_0 x0.parts.length c2_0], .slice A1 n1 c1] w fun e w' => e = .returned (.bool true) ∧ Below w.heap.size w w' := by
  have H0 := Lib.hid h0; clear h0
  have hm1 : n1 ≤ 9223372036854775807 := Nat.le_trans h1.ints_len.2.1 h1.ints_len.2.2
  have H1 := Lib.hid h1; clear h1
  have hnl1 := H1.out.ints_len.1
  have HNL1 := Lib.hid hnl1; clear hnl1
  by_cases hbig1 : 1048576 < n1
  · skip
    go_enter Tryz.func13, Tryz.ntmps13
    go_wp2
    go_ret
    exact ⟨rfl, bel⟩
  · have HN1 := Lib.hid (show x1.length ≤ 1048576 by have := HNL1.out; omega)
    by_cases hs0 : (1048576 : Int) - ((szD x0.d : Nat) : Int) < 0
    · have HS0 := Lib.hid (szR_neg hs0)
      go_enter Tryz.func13, Tryz.ntmps13
      go_wp2_with fail
      refine (szProgram_t (H0.out.below bel) (by omega) (by omega)).mono ?_
      rintro e v1 ⟨rfl, bv1⟩
      rw [HS0.out]
      go_wp2
      go_ret
      exact ⟨rfl, bel⟩
    · have HS0 := Lib.hid (szR_pos (left := 1048576) (tot := szD x0.d) (by omega))
      have HN0 := Lib.hid (show szD x0.d ≤ 1048576 by omega)
      have hl0 : 0 ≤ (1048576 : Int) - ((szD x0.d : Nat) : Int) := by omega
      clear hs0
      have hq1 : ((OrderBrokenF x0 x1).2 != (OrderBrokenF x0 x1).2) = false := by simp
      go_enter Tryz.func13, Tryz.ntmps13
      have TA0 := Lib.hid (Rep.lt _ H0.out)
      have TA1 := Lib.hid (Rep.lt _ H1.out)
      go_wp2_with fail
      refine (szProgram_t (H0.out.below bel) (by omega) (by omega)).mono ?_
      rintro e w1 ⟨rfl, b1⟩
      rw [HS0.out]
      have P0_1n := (Box2.new w _ _ _).to b1
      have s1 : Below w.heap.size w w1 := bel
      have RA0_1 := Lib.hid (H0.out.below s1); clear H0
      have RA1_1 := Lib.hid (H1.out.below s1); clear H1
      have S1 : Below w.heap.size w w1 := s1
      have Z1 := Lib.hid (s1.size)
      have LP0 := Lib.hid (lt_of_cell P0_1n.1)
      go_wp2_with fail
      refine (toProgram_m (RA0_1.out.below bel) HN0.out).mono ?_
      rintro e w2 ⟨A1_2, c1_2, A2_2, c2_2, bs2, rfl, r2, nd2, hb2, b2⟩
      have Tc0 := Lib.hid (show ∀ y ∈ bs2, w1.heap.size + 0 ≤ y ∧ y < w2.heap.size from fun y hy => ⟨by have := hb2 y hy; (try simp at this); omega, Rep.lt _ r2 y hy⟩)
      have P0_2 := P0_1n.to b2; clear P0_1n
      have RA0_2 := Lib.hid (RA0_1.out.below b2); clear RA0_1
      have RA1_2 := Lib.hid (RA1_1.out.below b2); clear RA1_1
      have S2 : Below w.heap.size w w2 := below_tr S1 b2
      have Z2 := Lib.hid (b2.size)
      have r2h := Lib.hid r2; clear r2 hb2
      clear nd2
      go_wp2_with fail
      refine (toIntS_m (RA1_2.out.below bel) HN1.out).mono ?_
      rintro e w3 ⟨A3, n3, c3, bs3, rfl, r3, nd3, hb3, b3⟩
      have Tc1 := Lib.hid (show ∀ y ∈ bs3, w2.heap.size + 0 ≤ y ∧ y < w3.heap.size from fun y hy => ⟨by have := hb3 y hy; (try simp at this); omega, Rep.lt _ r3 y hy⟩)
      have P0_3 := P0_2.to b3; clear P0_2
      have RA0_3 := Lib.hid (RA0_2.out.below b3); clear RA0_2
      have RA1_3 := Lib.hid (RA1_2.out.below b3); clear RA1_2
      have Rc0_3 := Lib.hid (r2h.out.below b3); clear r2h
      have S3 : Below w.heap.size w w3 := below_tr S2 b3
      have Z3 := Lib.hid (b3.size)
      have r3h := Lib.hid r3; clear r3 hb3
      clear nd3
      go_wp2_with fail
      refine (specOrderBroken_k (Rc0_3.out.below bel) (r3h.out.below bel)).mono ?_
      rintro e w4 ⟨bs4, rfl, r4, nd4, hb4, b4⟩
      have Tw0 := Lib.hid (show ∀ y ∈ bs4, y < w4.heap.size from Rep.lt _ r4)
      have P0_4 := P0_3.to b4; clear P0_3
      have RA0_4 := Lib.hid (RA0_3.out.below b4); clear RA0_3
      have RA1_4 := Lib.hid (RA1_3.out.below b4); clear RA1_3
      have Rc0_4 := Lib.hid (Rc0_3.out.below b4); clear Rc0_3
      have Rc1_4 := Lib.hid (r3h.out.below b4); clear r3h
      have S4 : Below w.heap.size w w4 := below_tr S3 b4
      have Z4 := Lib.hid (b4.size)
      have r4h := Lib.hid r4; clear r4 hb4 nd4
      have ltP0_4 := lt_of_cell P0_4.1
      go_wp2_with fail
      refine (toProgram_m (RA0_4.out.below bel) HN0.out).mono ?_
      rintro e w5 ⟨A1_5, c1_5, A2_5, c2_5, bs5, rfl, r5, nd5, hb5, b5⟩
      have Tx0 := Lib.hid (show ∀ y ∈ bs5, w4.heap.size + 1 ≤ y ∧ y < w5.heap.size from fun y hy => ⟨by have := hb5 y hy; (try simp at this); omega, Rep.lt _ r5 y hy⟩)
      have W0_5n : Box3 w5 w4.heap.size (.int .i64 (OrderBrokenF x0 x1).1.from_) (.int .i64 (OrderBrokenF x0 x1).1.to_) (.int .i64 (OrderBrokenF x0 x1).1.kinds) := by
        refine ⟨?_, ?_, ?_⟩ <;> (rw [(b5).cell (by simp; try omega)]; go_simp)
      have s5 : Below w4.heap.size w4 w5 := bel
      have P0_5 := P0_4.to s5; clear P0_4
      have RA0_5 := Lib.hid (RA0_4.out.below s5); clear RA0_4
      have RA1_5 := Lib.hid (RA1_4.out.below s5); clear RA1_4
      have Rw0_5 := Lib.hid (r4h.out.below s5); clear r4h
      have S5 : Below w.heap.size w w5 := below_tr S4 s5
      have Z5 := Lib.hid (s5.size)
      have LW0 := Lib.hid (lt_of_cell W0_5n.1)
      have r5h := Lib.hid r5; clear r5 hb5
      have ltP0_5 := lt_of_cell P0_5.1
      have ltW0_5n := lt_of_cell W0_5n.1
      go_wp2_with fail
      refine (toIntS_m (RA1_5.out.below bel) HN1.out).mono ?_
      rintro e w6 ⟨A6, n6, c6, bs6, rfl, r6, nd6, hb6, b6⟩
      have Tx1 := Lib.hid (show ∀ y ∈ bs6, w5.heap.size + 1 ≤ y ∧ y < w6.heap.size from fun y hy => ⟨by have := hb6 y hy; (try simp at this); omega, Rep.lt _ r6 y hy⟩)
      have X0_6n := (Box2.new w5 _ _ _).to b6
      have s6 : Below w5.heap.size w5 w6 := bel
      have P0_6 := P0_5.to s6; clear P0_5
      have W0_6 := W0_5n.to s6; clear W0_5n
      have RA0_6 := Lib.hid (RA0_5.out.below s6); clear RA0_5
      have RA1_6 := Lib.hid (RA1_5.out.below s6); clear RA1_5
      have Rw0_6 := Lib.hid (Rw0_5.out.below s6); clear Rw0_5
      have Rx0_6 := Lib.hid (r5h.out.below s6); clear r5h
      have S6 : Below w.heap.size w w6 := below_tr S5 s6
      have Z6 := Lib.hid (s6.size)
      have LX0 := Lib.hid (lt_of_cell X0_6n.1)
      have r6h := Lib.hid r6; clear r6 hb6
      go_wp2_with fail
      refine (implOrderBroken_k (Rx0_6.out.below bel) (r6h.out.below bel)).mono ?_
      rintro e w7 ⟨bs7, rfl, r7, nd7, hb7, b7⟩
      have Tg0 := Lib.hid (show ∀ y ∈ bs7, w6.heap.size + 0 ≤ y ∧ y < w7.heap.size from fun y hy => ⟨by have := hb7 y hy; (try simp at this); omega, Rep.lt _ r7 y hy⟩)
      have P0_7 := P0_6.to b7; clear P0_6
      have W0_7 := W0_6.to b7; clear W0_6
      have X0_7 := X0_6n.to b7; clear X0_6n
      have RA0_7 := Lib.hid (RA0_6.out.below b7); clear RA0_6
      have RA1_7 := Lib.hid (RA1_6.out.below b7); clear RA1_6
      have Rw0_7 := Lib.hid (Rw0_6.out.below b7); clear Rw0_6
      have Rx0_7 := Lib.hid (Rx0_6.out.below b7); clear Rx0_6
      have Rx1_7 := Lib.hid (r6h.out.below b7); clear r6h
      have S7 : Below w.heap.size w w7 := below_tr S6 b7
      have Z7 := Lib.hid (b7.size)
      have r7h := Lib.hid r7; clear r7 hb7
      have ltP0_7 := lt_of_cell P0_7.1
      have ltW0_7 := lt_of_cell W0_7.1
      have ltX0_7 := lt_of_cell X0_7.1
      go_wp2_with fail
      refine (eqDep_c (r7h.out.below bel) (Rw0_7.out.below bel)).mono ?_
      rintro e w8 ⟨rfl, b8⟩
      have G0_8n : Box3 w8 w7.heap.size (.int .i64 (OrderBrokenF x0 x1).1.from_) (.int .i64 (OrderBrokenF x0 x1).1.to_) (.int .i64 (OrderBrokenF x0 x1).1.kinds) := by
        refine ⟨?_, ?_, ?_⟩ <;> (rw [(b8).cell (by simp; try omega)]; go_simp)
      have s8 : Below w7.heap.size w7 w8 := bel
      have P0_8 := P0_7.to s8; clear P0_7
      have W0_8 := W0_7.to s8; clear W0_7
      have X0_8 := X0_7.to s8; clear X0_7
      have RA0_8 := Lib.hid (RA0_7.out.below s8); clear RA0_7
      have RA1_8 := Lib.hid (RA1_7.out.below s8); clear RA1_7
      have Rw0_8 := Lib.hid (Rw0_7.out.below s8); clear Rw0_7
      have Rx0_8 := Lib.hid (Rx0_7.out.below s8); clear Rx0_7
      have Rx1_8 := Lib.hid (Rx1_7.out.below s8); clear Rx1_7
      have Rg0_8 := Lib.hid (r7h.out.below s8); clear r7h
      have S8 : Below w.heap.size w w8 := below_tr S7 s8
      have Z8 := Lib.hid (s8.size)
      have LG0 := Lib.hid (lt_of_cell G0_8n.1)
      go_wp2_with fail
      go_region_held3 (fun w' => Box2 w' w.heap.size (.slice A1_0 x0.arrays.length c1_0) (.slice A2_0 x0.parts.length c2_0) ∧ Box2 w' w5.heap.size (.slice A1_5 x0.arrays.length c1_5) (.slice A2_5 x0.parts.length c2_5)) (first | exact ⟨P0_8, X0_8⟩ | exact ⟨P0_8.to (of_drew b9), X0_8.to (of_drew b9)⟩ | exact ⟨(P0_8.to (of_drew b9)).to b10, (X0_8.to (of_drew b9)).to b10⟩ | skip)
        (first | (go_at_call 18; refine (toProgram_m (RA0_8.out.below (Below.refl _ _).drew) HN0.out).mono ?_; rintro e w9 ⟨A1_9, c1_9, A2_9, c2_9, bs9, rfl, r9, nd9, hb9, b9⟩) | (go_at_call 22; refine (eqProgram_c (Rx0_8.out.below (of_drew b9)) r9).mono ?_; rintro e w10 ⟨rfl, b10⟩))
      have t10 : Below w8.heap.size w8 w10 := below_tr (of_drew b9) b10
      clear b9 b10 r9 hb9 nd9
      have P0_10 := P0_8.to t10; clear P0_8
      have W0_10 := W0_8.to t10; clear W0_8
      have X0_10 := X0_8.to t10; clear X0_8
      have G0_10 := G0_8n.to t10; clear G0_8n
      have RA0_10 := Lib.hid (RA0_8.out.below t10); clear RA0_8
      have RA1_10 := Lib.hid (RA1_8.out.below t10); clear RA1_8
      have Rw0_10 := Lib.hid (Rw0_8.out.below t10); clear Rw0_8
      have Rx0_10 := Lib.hid (Rx0_8.out.below t10); clear Rx0_8
      have Rx1_10 := Lib.hid (Rx1_8.out.below t10); clear Rx1_8
      have Rg0_10 := Lib.hid (Rg0_8.out.below t10); clear Rg0_8
      have S10 : Below w.heap.size w w10 := below_tr S8 t10
      have Z10 := Lib.hid (t10.size)
      go_wp2_with fail
      refine (toIntS_m (RA1_10.out.below bel) HN1.out).mono ?_
      rintro e w11 ⟨A11, n11, c11, bs11, rfl, r11, nd11, hb11, b11⟩
      have Ty1 := Lib.hid (show ∀ y ∈ bs11, w10.heap.size + 0 ≤ y ∧ y < w11.heap.size from fun y hy => ⟨by have := hb11 y hy; (try simp at this); omega, Rep.lt _ r11 y hy⟩)
      have P0_11 := P0_10.to b11; clear P0_10
      have W0_11 := W0_10.to b11; clear W0_10
      have X0_11 := X0_10.to b11; clear X0_10
      have G0_11 := G0_10.to b11; clear G0_10
      have RA0_11 := Lib.hid (RA0_10.out.below b11); clear RA0_10
      have RA1_11 := Lib.hid (RA1_10.out.below b11); clear RA1_10
      have Rw0_11 := Lib.hid (Rw0_10.out.below b11); clear Rw0_10
      have Rx0_11 := Lib.hid (Rx0_10.out.below b11); clear Rx0_10
      have Rx1_11 := Lib.hid (Rx1_10.out.below b11); clear Rx1_10
      have Rg0_11 := Lib.hid (Rg0_10.out.below b11); clear Rg0_10
      have S11 : Below w.heap.size w w11 := below_tr S10 b11
      have Z11 := Lib.hid (b11.size)
      have r11h := Lib.hid r11; clear r11 hb11
      go_wp2_with fail
      refine (eqIntS_b (Rx1_11.out.below bel) (r11h.out.below bel)).mono ?_
      rintro e w12 ⟨rfl, b12⟩
      have P0_12 := P0_11.to b12; clear P0_11
      have W0_12 := W0_11.to b12; clear W0_11
      have X0_12 := X0_11.to b12; clear X0_11
      have G0_12 := G0_11.to b12; clear G0_11
      have RA0_12 := Lib.hid (RA0_11.out.below b12); clear RA0_11
      have RA1_12 := Lib.hid (RA1_11.out.below b12); clear RA1_11
      have Rw0_12 := Lib.hid (Rw0_11.out.below b12); clear Rw0_11
      have Rx0_12 := Lib.hid (Rx0_11.out.below b12); clear Rx0_11
      have Rx1_12 := Lib.hid (Rx1_11.out.below b12); clear Rx1_11
      have Rg0_12 := Lib.hid (Rg0_11.out.below b12); clear Rg0_11
      have Ry1_12 := Lib.hid (r11h.out.below b12); clear r11h
      have S12 : Below w.heap.size w w12 := below_tr S11 b12
      have Z12 := Lib.hid (b12.size)
      go_wp2
      go_ret
      exact ⟨rfl, S12⟩
end Go.Proofs.YtgimggpmnemkbaaGreat
