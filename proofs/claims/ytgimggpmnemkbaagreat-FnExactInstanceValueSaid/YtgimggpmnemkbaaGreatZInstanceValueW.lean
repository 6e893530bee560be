/- The law FnExactInstanceValue: its walk. Printed by lawgen.py. -/
import Derived.Test.YtgimggpmnemkbaaGreatZLaw
import Derived.Test.YtgimggpmnemkbaaGreatZBasic
import Derived.Test.YtgimggpmnemkbaaGreatZIVal
import Derived.Test.YtgimggpmnemkbaaGreatZOps
set_option linter.all false
set_option linter.unusedSimpArgs false
set_option linter.unusedVariables false
namespace Go.Proofs.YtgimggpmnemkbaaGreat
open Go.ChangeShapes Go.WideShapes Go.ChangeAt Go.RowKit Go.Deep

set_option maxRecDepth 100000 in
set_option maxHeartbeats 2000000 in
theorem FnExactInstanceValue_walk {w : World} {x0 : Pgm} {A1_0 : Option Addr} {c1_0 : Nat} {A2_0 : Option Addr} {c2_0 : Nat} {bs0 : List Nat} {x1 : List Int} {A1 : Option Addr} {n1 : Nat} {c1 : Nat} {bs1 : List Nat} {x2 : In} {A3_2 : Option Addr} {c3_2 : Nat} {bs2 : List Nat} (h0 : Rep w x0.d [.slice A1_0 x0.arrays.length c1_0, .slice A2_0 x0.parts.length c2_0] bs0) (h1 : Rep w (ints x1) [.slice A1 n1 c1] bs1) (h2 : Rep w x2.d [.int .i64 x2.part, .int .i64 x2.stmt, .slice A3_2 x2.point.length c3_2] bs2) :
    Calls Tryz.prog 3 #[.agg #[.slice A1_0 x0.arrays.length c1_0, .slice A2_0 x0.parts.length c2_0], .slice A1 n1 c1, .agg #[.int .i64 x2.part, .int .i64 x2.stmt, .slice A3_2 x2.point.length c3_2]] w fun e w' => e = .returned (.bool true) ∧ Below w.heap.size w w' := by
  have H0 := Lib.hid h0; clear h0
  have hm1 : n1 ≤ 9223372036854775807 := Nat.le_trans h1.ints_len.2.1 h1.ints_len.2.2
  have H1 := Lib.hid h1; clear h1
  have H2 := Lib.hid h2; clear h2
  have hnl1 := H1.out.ints_len.1
  have HNL1 := Lib.hid hnl1; clear hnl1
  by_cases hbig1 : 1048576 < n1
  · skip
    go_enter Tryz.func3, Tryz.ntmps3
    go_wp2
    go_ret
    exact ⟨rfl, bel⟩
  · have HN1 := Lib.hid (show x1.length ≤ 1048576 by have := HNL1.out; omega)
    by_cases hs0 : (1048576 : Int) - ((szD x0.d : Nat) : Int) < 0
    · have HS0 := Lib.hid (szR_neg hs0)
      go_enter Tryz.func3, Tryz.ntmps3
      go_wp2_with fail
      refine (szProgram_t (H0.out.below bel) (by omega) (by omega)).mono ?_
      rintro e v1 ⟨rfl, bv1⟩
      rw [HS0.out]
      go_wp2
      go_ret
      exact ⟨rfl, bel⟩
    · have HS0 := Lib.hid (szR_pos (left := 1048576) (tot := szD x0.d) (by omega))
      have HN0 := Lib.hid (show szD x0.d ≤ 1048576 by omega)
      have hl0 : 0 ≤ (1048576 : Int) - ((szD x0.d : Nat) : Int) := by omega
      clear hs0
      by_cases hs2 : ((1048576 - ((szD x0.d : Nat) : Int)) : Int) - ((szD x2.d : Nat) : Int) < 0
      · have HS2 := Lib.hid (szR_neg hs2)
        go_enter Tryz.func3, Tryz.ntmps3
        go_wp2_with fail
        refine (szProgram_t (H0.out.below bel) (by omega) (by omega)).mono ?_
        rintro e v1 ⟨rfl, bv1⟩
        rw [HS0.out]
        have Pv0 : Box2 v1 w.heap.size (.slice A1_0 x0.arrays.length c1_0) (.slice A2_0 x0.parts.length c2_0) := by
          refine ⟨?_, ?_⟩ <;> (rw [bv1.cell (by simp; try omega)]; go_simp)
        have Pv2 : Box3 v1 (w.heap.size + 1) (.int .i64 x2.part) (.int .i64 x2.stmt) (.slice A3_2 x2.point.length c3_2) := by
          refine ⟨?_, ?_, ?_⟩ <;> (rw [bv1.cell (by simp; try omega)]; go_simp)
        have Sv1 : Below w.heap.size w v1 := bel
        go_wp2_with fail
        refine (szInstance_t (H2.out.below bel) (by omega) (by omega)).mono ?_
        rintro e v2 ⟨rfl, bv2⟩
        rw [HS2.out]
        go_wp2
        go_ret
        exact ⟨rfl, bel⟩
      · have HS2 := Lib.hid (szR_pos (left := (1048576 - ((szD x0.d : Nat) : Int))) (tot := szD x2.d) (by omega))
        have HN2 := Lib.hid (show szD x2.d ≤ 1048576 by omega)
        have hl2 : 0 ≤ ((1048576 - ((szD x0.d : Nat) : Int)) : Int) - ((szD x2.d : Nat) : Int) := by omega
        clear hs2
        have hq0 : ((InstanceValueF x0 x1 x2).1 != (InstanceValueF x0 x1 x2).1) = false := by simp
        have hq1 : ((InstanceValueF x0 x1 x2).2 != (InstanceValueF x0 x1 x2).2) = false := by simp
        go_enter Tryz.func3, Tryz.ntmps3
        have TA0 := Lib.hid (Rep.lt _ H0.out)
        have TA1 := Lib.hid (Rep.lt _ H1.out)
        have TA2 := Lib.hid (Rep.lt _ H2.out)
        go_wp2_with fail
        refine (szProgram_t (H0.out.below bel) (by omega) (by omega)).mono ?_
        rintro e w1 ⟨rfl, b1⟩
        rw [HS0.out]
        have P0_1n : Box2 w1 w.heap.size (.slice A1_0 x0.arrays.length c1_0) (.slice A2_0 x0.parts.length c2_0) := by
          refine ⟨?_, ?_⟩ <;> (rw [(b1).cell (by simp; try omega)]; go_simp)
        have P2_1n : Box3 w1 (w.heap.size + 1) (.int .i64 x2.part) (.int .i64 x2.stmt) (.slice A3_2 x2.point.length c3_2) := by
          refine ⟨?_, ?_, ?_⟩ <;> (rw [(b1).cell (by simp; try omega)]; go_simp)
        have s1 : Below w.heap.size w w1 := bel
        have RA0_1 := Lib.hid (H0.out.below s1); clear H0
        have RA1_1 := Lib.hid (H1.out.below s1); clear H1
        have RA2_1 := Lib.hid (H2.out.below s1); clear H2
        have S1 : Below w.heap.size w w1 := s1
        have Z1 := Lib.hid (s1.size)
        have LP0 := Lib.hid (lt_of_cell P0_1n.1)
        have LP2 := Lib.hid (lt_of_cell P2_1n.1)
        go_wp2_with fail
        refine (szInstance_t (RA2_1.out.below bel) (by omega) (by omega)).mono ?_
        rintro e w2 ⟨rfl, b2⟩
        rw [HS2.out]
        have P0_2 := P0_1n.to b2; clear P0_1n
        have P2_2 := P2_1n.to b2; clear P2_1n
        have RA0_2 := Lib.hid (RA0_1.out.below b2); clear RA0_1
        have RA1_2 := Lib.hid (RA1_1.out.below b2); clear RA1_1
        have RA2_2 := Lib.hid (RA2_1.out.below b2); clear RA2_1
        have S2 : Below w.heap.size w w2 := below_tr S1 b2
        have Z2 := Lib.hid (b2.size)
        go_wp2_with fail
        go_region_held3 (fun w' => Box2 w' w.heap.size (.slice A1_0 x0.arrays.length c1_0) (.slice A2_0 x0.parts.length c2_0) ∧ Box3 w' (w.heap.size + 1) (.int .i64 x2.part) (.int .i64 x2.stmt) (.slice A3_2 x2.point.length c3_2)) (first | exact ⟨P0_2, P2_2⟩ | exact ⟨(P0_2.to (of_drew b3)), (P2_2.to (of_drew b3))⟩ | exact ⟨((P0_2.to (of_drew b3)).to b4), ((P2_2.to (of_drew b3)).to b4)⟩ | exact ⟨(((P0_2.to (of_drew b3)).to b4).to b5), (((P2_2.to (of_drew b3)).to b4).to b5)⟩ | exact ⟨((((P0_2.to (of_drew b3)).to b4).to b5).to b6), ((((P2_2.to (of_drew b3)).to b4).to b5).to b6)⟩ | skip)
          (first | (go_at_call_of 18 (Value.agg #[.slice A1_0 x0.arrays.length c1_0, .slice A2_0 x0.parts.length c2_0]); refine (toProgram_m (RA0_2.out.below (Below.refl _ _).drew) HN0.out).mono ?_; rintro e w3 ⟨A1_3, c1_3, A2_3, c2_3, bs3, rfl, r3, nd3, hb3, b3⟩) | (go_at_call_of 19 (Value.slice A1 n1 c1); refine (toIntS_m (RA1_2.out.below (of_drew b3)) HN1.out).mono ?_; rintro e w4 ⟨A4, n4, c4, bs4, rfl, r4, nd4, hb4, b4⟩) | (go_at_call_of 20 (Value.agg #[.int .i64 x2.part, .int .i64 x2.stmt, .slice A3_2 x2.point.length c3_2]); refine (toInstance_m ((RA2_2.out.below (of_drew b3)).below b4) HN2.out).mono ?_; rintro e w5 ⟨A3_5, c3_5, bs5, rfl, r5, nd5, hb5, b5⟩) | (go_at_call 17; refine (specInstanceValue_c ((r3.below b4).below b5) (r4.below b5) r5).mono ?_; rintro e w6 ⟨rfl, b6⟩))
        have t6 : Below w2.heap.size w2 w6 := (below_tr (below_tr (below_tr (of_drew b3) b4) b5) b6)
        clear b3 b4 b5 b6 r3 hb3 nd3 r4 hb4 nd4 r5 hb5 nd5
        have P0_6 := P0_2.to t6; clear P0_2
        have P2_6 := P2_2.to t6; clear P2_2
        have RA0_6 := Lib.hid (RA0_2.out.below t6); clear RA0_2
        have RA1_6 := Lib.hid (RA1_2.out.below t6); clear RA1_2
        have RA2_6 := Lib.hid (RA2_2.out.below t6); clear RA2_2
        have S6 : Below w.heap.size w w6 := below_tr S2 t6
        have Z6 := Lib.hid (t6.size)
        go_wp2_with fail
        refine (toProgram_m (RA0_6.out.below bel) HN0.out).mono ?_
        rintro e w7 ⟨A1_7, c1_7, A2_7, c2_7, bs7, rfl, r7, nd7, hb7, b7⟩
        have Tx0 := Lib.hid (show ∀ y ∈ bs7, w6.heap.size + 0 ≤ y ∧ y < w7.heap.size from fun y hy => ⟨by have := hb7 y hy; (try simp at this); omega, Rep.lt _ r7 y hy⟩)
        have P0_7 := P0_6.to b7; clear P0_6
        have P2_7 := P2_6.to b7; clear P2_6
        have RA0_7 := Lib.hid (RA0_6.out.below b7); clear RA0_6
        have RA1_7 := Lib.hid (RA1_6.out.below b7); clear RA1_6
        have RA2_7 := Lib.hid (RA2_6.out.below b7); clear RA2_6
        have S7 : Below w.heap.size w w7 := below_tr S6 b7
        have Z7 := Lib.hid (b7.size)
        have r7h := Lib.hid r7; clear r7 hb7
        have ltP0_7 := lt_of_cell P0_7.1
        have ltP2_7 := lt_of_cell P2_7.1
        go_wp2_with fail
        refine (toIntS_m (RA1_7.out.below bel) HN1.out).mono ?_
        rintro e w8 ⟨A8, n8, c8, bs8, rfl, r8, nd8, hb8, b8⟩
        have Tx1 := Lib.hid (show ∀ y ∈ bs8, w7.heap.size + 1 ≤ y ∧ y < w8.heap.size from fun y hy => ⟨by have := hb8 y hy; (try simp at this); omega, Rep.lt _ r8 y hy⟩)
        have X0_8n := (Box2.new w7 _ _ _).to b8
        have s8 : Below w7.heap.size w7 w8 := bel
        have P0_8 := P0_7.to s8; clear P0_7
        have P2_8 := P2_7.to s8; clear P2_7
        have RA0_8 := Lib.hid (RA0_7.out.below s8); clear RA0_7
        have RA1_8 := Lib.hid (RA1_7.out.below s8); clear RA1_7
        have RA2_8 := Lib.hid (RA2_7.out.below s8); clear RA2_7
        have Rx0_8 := Lib.hid (r7h.out.below s8); clear r7h
        have S8 : Below w.heap.size w w8 := below_tr S7 s8
        have Z8 := Lib.hid (s8.size)
        have LX0 := Lib.hid (lt_of_cell X0_8n.1)
        have r8h := Lib.hid r8; clear r8 hb8
        go_wp2_with fail
        refine (toInstance_m (RA2_8.out.below bel) HN2.out).mono ?_
        rintro e w9 ⟨A3_9, c3_9, bs9, rfl, r9, nd9, hb9, b9⟩
        have Tx2 := Lib.hid (show ∀ y ∈ bs9, w8.heap.size + 0 ≤ y ∧ y < w9.heap.size from fun y hy => ⟨by have := hb9 y hy; (try simp at this); omega, Rep.lt _ r9 y hy⟩)
        have P0_9 := P0_8.to b9; clear P0_8
        have P2_9 := P2_8.to b9; clear P2_8
        have X0_9 := X0_8n.to b9; clear X0_8n
        have RA0_9 := Lib.hid (RA0_8.out.below b9); clear RA0_8
        have RA1_9 := Lib.hid (RA1_8.out.below b9); clear RA1_8
        have RA2_9 := Lib.hid (RA2_8.out.below b9); clear RA2_8
        have Rx0_9 := Lib.hid (Rx0_8.out.below b9); clear Rx0_8
        have Rx1_9 := Lib.hid (r8h.out.below b9); clear r8h
        have S9 : Below w.heap.size w w9 := below_tr S8 b9
        have Z9 := Lib.hid (b9.size)
        have r9h := Lib.hid r9; clear r9 hb9
        have ltP0_9 := lt_of_cell P0_9.1
        have ltP2_9 := lt_of_cell P2_9.1
        have ltX0_9 := lt_of_cell X0_9.1
        go_wp2_with fail
        refine (implInstanceValue_c (Rx0_9.out.below bel) (Rx1_9.out.below bel) (r9h.out.below bel)).mono ?_
        rintro e w10 ⟨rfl, b10⟩
        have X2_10n : Box3 w10 w9.heap.size (.int .i64 x2.part) (.int .i64 x2.stmt) (.slice A3_9 x2.point.length c3_9) := by
          refine ⟨?_, ?_, ?_⟩ <;> (rw [(b10).cell (by simp; try omega)]; go_simp)
        have s10 : Below w9.heap.size w9 w10 := bel
        have P0_10 := P0_9.to s10; clear P0_9
        have P2_10 := P2_9.to s10; clear P2_9
        have X0_10 := X0_9.to s10; clear X0_9
        have RA0_10 := Lib.hid (RA0_9.out.below s10); clear RA0_9
        have RA1_10 := Lib.hid (RA1_9.out.below s10); clear RA1_9
        have RA2_10 := Lib.hid (RA2_9.out.below s10); clear RA2_9
        have Rx0_10 := Lib.hid (Rx0_9.out.below s10); clear Rx0_9
        have Rx1_10 := Lib.hid (Rx1_9.out.below s10); clear Rx1_9
        have Rx2_10 := Lib.hid (r9h.out.below s10); clear r9h
        have S10 : Below w.heap.size w w10 := below_tr S9 s10
        have Z10 := Lib.hid (s10.size)
        have LX2 := Lib.hid (lt_of_cell X2_10n.1)
        go_wp2_with fail
        go_region_held3 (fun w' => Box2 w' w.heap.size (.slice A1_0 x0.arrays.length c1_0) (.slice A2_0 x0.parts.length c2_0) ∧ Box2 w' w7.heap.size (.slice A1_7 x0.arrays.length c1_7) (.slice A2_7 x0.parts.length c2_7)) (first | exact ⟨P0_10, X0_10⟩ | exact ⟨P0_10.to (of_drew b11), X0_10.to (of_drew b11)⟩ | exact ⟨(P0_10.to (of_drew b11)).to b12, (X0_10.to (of_drew b11)).to b12⟩ | skip)
          (first | (go_at_call 18; refine (toProgram_m (RA0_10.out.below (Below.refl _ _).drew) HN0.out).mono ?_; rintro e w11 ⟨A1_11, c1_11, A2_11, c2_11, bs11, rfl, r11, nd11, hb11, b11⟩) | (go_at_call 22; refine (eqProgram_c (Rx0_10.out.below (of_drew b11)) r11).mono ?_; rintro e w12 ⟨rfl, b12⟩))
        have t12 : Below w10.heap.size w10 w12 := below_tr (of_drew b11) b12
        clear b11 b12 r11 hb11 nd11
        have P0_12 := P0_10.to t12; clear P0_10
        have P2_12 := P2_10.to t12; clear P2_10
        have X0_12 := X0_10.to t12; clear X0_10
        have X2_12 := X2_10n.to t12; clear X2_10n
        have RA0_12 := Lib.hid (RA0_10.out.below t12); clear RA0_10
        have RA1_12 := Lib.hid (RA1_10.out.below t12); clear RA1_10
        have RA2_12 := Lib.hid (RA2_10.out.below t12); clear RA2_10
        have Rx0_12 := Lib.hid (Rx0_10.out.below t12); clear Rx0_10
        have Rx1_12 := Lib.hid (Rx1_10.out.below t12); clear Rx1_10
        have Rx2_12 := Lib.hid (Rx2_10.out.below t12); clear Rx2_10
        have S12 : Below w.heap.size w w12 := below_tr S10 t12
        have Z12 := Lib.hid (t12.size)
        go_wp2_with fail
        refine (toIntS_m (RA1_12.out.below bel) HN1.out).mono ?_
        rintro e w13 ⟨A13, n13, c13, bs13, rfl, r13, nd13, hb13, b13⟩
        have Ty1 := Lib.hid (show ∀ y ∈ bs13, w12.heap.size + 0 ≤ y ∧ y < w13.heap.size from fun y hy => ⟨by have := hb13 y hy; (try simp at this); omega, Rep.lt _ r13 y hy⟩)
        have P0_13 := P0_12.to b13; clear P0_12
        have P2_13 := P2_12.to b13; clear P2_12
        have X0_13 := X0_12.to b13; clear X0_12
        have X2_13 := X2_12.to b13; clear X2_12
        have RA0_13 := Lib.hid (RA0_12.out.below b13); clear RA0_12
        have RA1_13 := Lib.hid (RA1_12.out.below b13); clear RA1_12
        have RA2_13 := Lib.hid (RA2_12.out.below b13); clear RA2_12
        have Rx0_13 := Lib.hid (Rx0_12.out.below b13); clear Rx0_12
        have Rx1_13 := Lib.hid (Rx1_12.out.below b13); clear Rx1_12
        have Rx2_13 := Lib.hid (Rx2_12.out.below b13); clear Rx2_12
        have S13 : Below w.heap.size w w13 := below_tr S12 b13
        have Z13 := Lib.hid (b13.size)
        have r13h := Lib.hid r13; clear r13 hb13
        go_wp2_with fail
        refine (eqIntS_b (Rx1_13.out.below bel) (r13h.out.below bel)).mono ?_
        rintro e w14 ⟨rfl, b14⟩
        have P0_14 := P0_13.to b14; clear P0_13
        have P2_14 := P2_13.to b14; clear P2_13
        have X0_14 := X0_13.to b14; clear X0_13
        have X2_14 := X2_13.to b14; clear X2_13
        have RA0_14 := Lib.hid (RA0_13.out.below b14); clear RA0_13
        have RA1_14 := Lib.hid (RA1_13.out.below b14); clear RA1_13
        have RA2_14 := Lib.hid (RA2_13.out.below b14); clear RA2_13
        have Rx0_14 := Lib.hid (Rx0_13.out.below b14); clear Rx0_13
        have Rx1_14 := Lib.hid (Rx1_13.out.below b14); clear Rx1_13
        have Rx2_14 := Lib.hid (Rx2_13.out.below b14); clear Rx2_13
        have Ry1_14 := Lib.hid (r13h.out.below b14); clear r13h
        have S14 : Below w.heap.size w w14 := below_tr S13 b14
        have Z14 := Lib.hid (b14.size)
        go_wp2_with fail
        go_region_held3 (fun w' => Box3 w' (w.heap.size + 1) (.int .i64 x2.part) (.int .i64 x2.stmt) (.slice A3_2 x2.point.length c3_2) ∧ Box3 w' w9.heap.size (.int .i64 x2.part) (.int .i64 x2.stmt) (.slice A3_9 x2.point.length c3_9)) (first | exact ⟨P2_14, X2_14⟩ | exact ⟨P2_14.to (of_drew b15), X2_14.to (of_drew b15)⟩ | exact ⟨(P2_14.to (of_drew b15)).to b16, (X2_14.to (of_drew b15)).to b16⟩ | skip)
          (first | (go_at_call 20; refine (toInstance_m (RA2_14.out.below (Below.refl _ _).drew) HN2.out).mono ?_; rintro e w15 ⟨A3_15, c3_15, bs15, rfl, r15, nd15, hb15, b15⟩) | (go_at_call 24; refine (eqInstance_c (Rx2_14.out.below (of_drew b15)) r15).mono ?_; rintro e w16 ⟨rfl, b16⟩))
        have t16 : Below w14.heap.size w14 w16 := below_tr (of_drew b15) b16
        clear b15 b16 r15 hb15 nd15
        have P0_16 := P0_14.to t16; clear P0_14
        have P2_16 := P2_14.to t16; clear P2_14
        have X0_16 := X0_14.to t16; clear X0_14
        have X2_16 := X2_14.to t16; clear X2_14
        have RA0_16 := Lib.hid (RA0_14.out.below t16); clear RA0_14
        have RA1_16 := Lib.hid (RA1_14.out.below t16); clear RA1_14
        have RA2_16 := Lib.hid (RA2_14.out.below t16); clear RA2_14
        have Rx0_16 := Lib.hid (Rx0_14.out.below t16); clear Rx0_14
        have Rx1_16 := Lib.hid (Rx1_14.out.below t16); clear Rx1_14
        have Rx2_16 := Lib.hid (Rx2_14.out.below t16); clear Rx2_14
        have S16 : Below w.heap.size w w16 := below_tr S14 t16
        have Z16 := Lib.hid (t16.size)
        go_wp2
        go_ret
        exact ⟨rfl, S16⟩
end Go.Proofs.YtgimggpmnemkbaaGreat
