/- The law FnExactInstanceCells: its walk. Printed by lawgen.py. -/
import Derived.Test.YtgimggpmnemkbaaGreatZLaw
import Derived.Test.YtgimggpmnemkbaaGreatZBasic
import Derived.Test.YtgimggpmnemkbaaGreatZICell
import Derived.Test.YtgimggpmnemkbaaGreatZMark
import Derived.Test.YtgimggpmnemkbaaGreatZOps
set_option linter.all false
set_option linter.unusedSimpArgs false
set_option linter.unusedVariables false
namespace Go.Proofs.YtgimggpmnemkbaaGreat
open Go.ChangeShapes Go.WideShapes Go.ChangeAt Go.RowKit Go.Deep

set_option maxRecDepth 100000 in
set_option maxHeartbeats 2000000 in
theorem FnExactInstanceCells_walk {w : World} {x0 : Pgm} {A1_0 : Option Addr} {c1_0 : Nat} {A2_0 : Option Addr} {c2_0 : Nat} {bs0 : List Nat} {x1 : In} {A3_1 : Option Addr} {c3_1 : Nat} {bs1 : List Nat} (h0 : Rep w x0.d [.slice A1_0 x0.arrays.length c1_0, .slice A2_0 x0.parts.length c2_0] bs0) (h1 : Rep w x1.d [.int .i64 x1.part, .int .i64 x1.stmt, .slice A3_1 x1.point.length c3_1] bs1) :
    Calls Tryz.prog 12 #[.agg #[.slice A1_0 x0.arrays.length c1_0, .slice A2_0 x0.parts.length c2_0], .agg #[.int .i64 x1.part, .int .i64 x1.stmt, .slice A3_1 x1.point.length c3_1]] w fun e w' => e = .returned (.bool true) ∧ Below w.heap.size w w' := by
  have H0 := Lib.hid h0; clear h0
  have H1 := Lib.hid h1; clear h1
  by_cases hs0 : (1048576 : Int) - ((szD x0.d : Nat) : Int) < 0
  · have HS0 := Lib.hid (szR_neg hs0)
    go_enter Tryz.func12, Tryz.ntmps12
    go_wp2_with fail
    refine (szProgram_t (H0.out.below bel) (by omega) (by omega)).mono ?_
    rintro e v1 ⟨rfl, bv1⟩
    rw [HS0.out]
    go_wp2
    go_ret
    exact ⟨rfl, bel⟩
  · have HS0 := Lib.hid (szR_pos (left := 1048576) (tot := szD x0.d) (by omega))
    have HN0 := Lib.hid (show szD x0.d ≤ 1048576 by omega)
    have hl0 : 0 ≤ (1048576 : Int) - ((szD x0.d : Nat) : Int) := by omega
    clear hs0
    by_cases hs1 : ((1048576 - ((szD x0.d : Nat) : Int)) : Int) - ((szD x1.d : Nat) : Int) < 0
    · have HS1 := Lib.hid (szR_neg hs1)
      go_enter Tryz.func12, Tryz.ntmps12
      go_wp2_with fail
      refine (szProgram_t (H0.out.below bel) (by omega) (by omega)).mono ?_
      rintro e v1 ⟨rfl, bv1⟩
      rw [HS0.out]
      have Pv0 : Box2 v1 w.heap.size (.slice A1_0 x0.arrays.length c1_0) (.slice A2_0 x0.parts.length c2_0) := by
        refine ⟨?_, ?_⟩ <;> (rw [bv1.cell (by simp; try omega)]; go_simp)
      have Pv1 : Box3 v1 (w.heap.size + 1) (.int .i64 x1.part) (.int .i64 x1.stmt) (.slice A3_1 x1.point.length c3_1) := by
        refine ⟨?_, ?_, ?_⟩ <;> (rw [bv1.cell (by simp; try omega)]; go_simp)
      have Sv1 : Below w.heap.size w v1 := bel
      go_wp2_with fail
      refine (szInstance_t (H1.out.below bel) (by omega) (by omega)).mono ?_
      rintro e v2 ⟨rfl, bv2⟩
      rw [HS1.out]
      go_wp2
      go_ret
      exact ⟨rfl, bel⟩
    · have HS1 := Lib.hid (szR_pos (left := (1048576 - ((szD x0.d : Nat) : Int))) (tot := szD x1.d) (by omega))
      have HN1 := Lib.hid (show szD x1.d ≤ 1048576 by omega)
      have hl1 : 0 ≤ ((1048576 - ((szD x0.d : Nat) : Int)) : Int) - ((szD x1.d : Nat) : Int) := by omega
      clear hs1
      have hq1 : ((InstanceCellsF x0 x1).2.1 != (InstanceCellsF x0 x1).2.1) = false := by simp
      have hq2 : ((InstanceCellsF x0 x1).2.2 != (InstanceCellsF x0 x1).2.2) = false := by simp
      have HL := Lib.hid (InstanceCellsF_len x0 x1)
      go_enter Tryz.func12, Tryz.ntmps12
      have TA0 := Lib.hid (Rep.lt _ H0.out)
      have TA1 := Lib.hid (Rep.lt _ H1.out)
      go_wp2_with fail
      refine (szProgram_t (H0.out.below bel) (by omega) (by omega)).mono ?_
      rintro e w1 ⟨rfl, b1⟩
      rw [HS0.out]
      have P0_1n : Box2 w1 w.heap.size (.slice A1_0 x0.arrays.length c1_0) (.slice A2_0 x0.parts.length c2_0) := by
        refine ⟨?_, ?_⟩ <;> (rw [(b1).cell (by simp; try omega)]; go_simp)
      have P1_1n : Box3 w1 (w.heap.size + 1) (.int .i64 x1.part) (.int .i64 x1.stmt) (.slice A3_1 x1.point.length c3_1) := by
        refine ⟨?_, ?_, ?_⟩ <;> (rw [(b1).cell (by simp; try omega)]; go_simp)
      have s1 : Below w.heap.size w w1 := bel
      have RA0_1 := Lib.hid (H0.out.below s1); clear H0
      have RA1_1 := Lib.hid (H1.out.below s1); clear H1
      have S1 : Below w.heap.size w w1 := s1
      have Z1 := Lib.hid (s1.size)
      have LP0 := Lib.hid (lt_of_cell P0_1n.1)
      have LP1 := Lib.hid (lt_of_cell P1_1n.1)
      go_wp2_with fail
      refine (szInstance_t (RA1_1.out.below bel) (by omega) (by omega)).mono ?_
      rintro e w2 ⟨rfl, b2⟩
      rw [HS1.out]
      have P0_2 := P0_1n.to b2; clear P0_1n
      have P1_2 := P1_1n.to b2; clear P1_1n
      have RA0_2 := Lib.hid (RA0_1.out.below b2); clear RA0_1
      have RA1_2 := Lib.hid (RA1_1.out.below b2); clear RA1_1
      have S2 : Below w.heap.size w w2 := below_tr S1 b2
      have Z2 := Lib.hid (b2.size)
      go_wp2_with fail
      go_region_held3 (fun w' => Box2 w' w.heap.size (.slice A1_0 x0.arrays.length c1_0) (.slice A2_0 x0.parts.length c2_0) ∧ Box3 w' (w.heap.size + 1) (.int .i64 x1.part) (.int .i64 x1.stmt) (.slice A3_1 x1.point.length c3_1)) (first | exact ⟨P0_2, P1_2⟩ | exact ⟨(P0_2.to (of_drew b3)), (P1_2.to (of_drew b3))⟩ | exact ⟨((P0_2.to (of_drew b3)).to b4), ((P1_2.to (of_drew b3)).to b4)⟩ | exact ⟨(((P0_2.to (of_drew b3)).to b4).to b5), (((P1_2.to (of_drew b3)).to b4).to b5)⟩ | skip)
        (first | (go_at_call_of 18 (Value.agg #[.slice A1_0 x0.arrays.length c1_0, .slice A2_0 x0.parts.length c2_0]); refine (toProgram_m (RA0_2.out.below (Below.refl _ _).drew) HN0.out).mono ?_; rintro e w3 ⟨A1_3, c1_3, A2_3, c2_3, bs3, rfl, r3, nd3, hb3, b3⟩) | (go_at_call_of 20 (Value.agg #[.int .i64 x1.part, .int .i64 x1.stmt, .slice A3_1 x1.point.length c3_1]); refine (toInstance_m (RA1_2.out.below (of_drew b3)) HN1.out).mono ?_; rintro e w4 ⟨A3_4, c3_4, bs4, rfl, r4, nd4, hb4, b4⟩) | (go_at_call 50; refine (specInstanceCells_c (r3.below b4) r4).mono ?_; rintro e w5 ⟨A5, n5, c5, bs5, rfl, r5, nd5, hb5, b5⟩))
      have t5 : Below w2.heap.size w2 w5 := (below_tr (below_tr (of_drew b3) b4) b5)
      have Tw0 := Lib.hid (show ∀ y ∈ bs5, y < w5.heap.size from Rep.lt _ r5)
      clear b3 b4 b5 r3 hb3 nd3 r4 hb4 nd4
      have P0_5 := P0_2.to t5; clear P0_2
      have P1_5 := P1_2.to t5; clear P1_2
      have RA0_5 := Lib.hid (RA0_2.out.below t5); clear RA0_2
      have RA1_5 := Lib.hid (RA1_2.out.below t5); clear RA1_2
      have S5 : Below w.heap.size w w5 := below_tr S2 t5
      have Z5 := Lib.hid (t5.size)
      have r5h := Lib.hid r5; clear r5 hb5 nd5
      go_wp2_with fail
      refine (toProgram_m (RA0_5.out.below bel) HN0.out).mono ?_
      rintro e w6 ⟨A1_6, c1_6, A2_6, c2_6, bs6, rfl, r6, nd6, hb6, b6⟩
      have Tx0 := Lib.hid (show ∀ y ∈ bs6, w5.heap.size + 0 ≤ y ∧ y < w6.heap.size from fun y hy => ⟨by have := hb6 y hy; (try simp at this); omega, Rep.lt _ r6 y hy⟩)
      have P0_6 := P0_5.to b6; clear P0_5
      have P1_6 := P1_5.to b6; clear P1_5
      have RA0_6 := Lib.hid (RA0_5.out.below b6); clear RA0_5
      have RA1_6 := Lib.hid (RA1_5.out.below b6); clear RA1_5
      have Rw0_6 := Lib.hid (r5h.out.below b6); clear r5h
      have S6 : Below w.heap.size w w6 := below_tr S5 b6
      have Z6 := Lib.hid (b6.size)
      have r6h := Lib.hid r6; clear r6 hb6
      have ltP0_6 := lt_of_cell P0_6.1
      have ltP1_6 := lt_of_cell P1_6.1
      go_wp2_with fail
      refine (toInstance_m (RA1_6.out.below bel) HN1.out).mono ?_
      rintro e w7 ⟨A3_7, c3_7, bs7, rfl, r7, nd7, hb7, b7⟩
      have Tx1 := Lib.hid (show ∀ y ∈ bs7, w6.heap.size + 1 ≤ y ∧ y < w7.heap.size from fun y hy => ⟨by have := hb7 y hy; (try simp at this); omega, Rep.lt _ r7 y hy⟩)
      have X0_7n := (Box2.new w6 _ _ _).to b7
      have s7 : Below w6.heap.size w6 w7 := bel
      have P0_7 := P0_6.to s7; clear P0_6
      have P1_7 := P1_6.to s7; clear P1_6
      have RA0_7 := Lib.hid (RA0_6.out.below s7); clear RA0_6
      have RA1_7 := Lib.hid (RA1_6.out.below s7); clear RA1_6
      have Rw0_7 := Lib.hid (Rw0_6.out.below s7); clear Rw0_6
      have Rx0_7 := Lib.hid (r6h.out.below s7); clear r6h
      have S7 : Below w.heap.size w w7 := below_tr S6 s7
      have Z7 := Lib.hid (s7.size)
      have LX0 := Lib.hid (lt_of_cell X0_7n.1)
      have r7h := Lib.hid r7; clear r7 hb7
      have ltP0_7 := lt_of_cell P0_7.1
      have ltP1_7 := lt_of_cell P1_7.1
      have ltX0_7n := lt_of_cell X0_7n.1
      go_wp2_with fail
      refine (implInstanceCells_c (Rx0_7.out.below bel) (r7h.out.below bel)).mono ?_
      rintro e w8 ⟨A8, n8, c8, bs8, rfl, r8, nd8, hb8, b8⟩
      have Tg0 := Lib.hid (show ∀ y ∈ bs8, w7.heap.size + 1 ≤ y ∧ y < w8.heap.size from fun y hy => ⟨by have := hb8 y hy; (try simp at this); omega, Rep.lt _ r8 y hy⟩)
      have X1_8n : Box3 w8 w7.heap.size (.int .i64 x1.part) (.int .i64 x1.stmt) (.slice A3_7 x1.point.length c3_7) := by
        refine ⟨?_, ?_, ?_⟩ <;> (rw [(b8).cell (by simp; try omega)]; go_simp)
      have s8 : Below w7.heap.size w7 w8 := bel
      have P0_8 := P0_7.to s8; clear P0_7
      have P1_8 := P1_7.to s8; clear P1_7
      have X0_8 := X0_7n.to s8; clear X0_7n
      have RA0_8 := Lib.hid (RA0_7.out.below s8); clear RA0_7
      have RA1_8 := Lib.hid (RA1_7.out.below s8); clear RA1_7
      have Rw0_8 := Lib.hid (Rw0_7.out.below s8); clear Rw0_7
      have Rx0_8 := Lib.hid (Rx0_7.out.below s8); clear Rx0_7
      have Rx1_8 := Lib.hid (r7h.out.below s8); clear r7h
      have S8 : Below w.heap.size w w8 := below_tr S7 s8
      have Z8 := Lib.hid (s8.size)
      have LX1 := Lib.hid (lt_of_cell X1_8n.1)
      have r8h := Lib.hid r8; clear r8 hb8
      go_wp2_with fail
      refine (eqIntS_b (r8h.out.below bel) (Rw0_8.out.below bel)).mono ?_
      rintro e w9 ⟨rfl, b9⟩
      have P0_9 := P0_8.to b9; clear P0_8
      have P1_9 := P1_8.to b9; clear P1_8
      have X0_9 := X0_8.to b9; clear X0_8
      have X1_9 := X1_8n.to b9; clear X1_8n
      have RA0_9 := Lib.hid (RA0_8.out.below b9); clear RA0_8
      have RA1_9 := Lib.hid (RA1_8.out.below b9); clear RA1_8
      have Rw0_9 := Lib.hid (Rw0_8.out.below b9); clear Rw0_8
      have Rx0_9 := Lib.hid (Rx0_8.out.below b9); clear Rx0_8
      have Rx1_9 := Lib.hid (Rx1_8.out.below b9); clear Rx1_8
      have Rg0_9 := Lib.hid (r8h.out.below b9); clear r8h
      have S9 : Below w.heap.size w w9 := below_tr S8 b9
      have Z9 := Lib.hid (b9.size)
      go_wp2_with fail
      go_region_held3 (fun w' => Box2 w' w.heap.size (.slice A1_0 x0.arrays.length c1_0) (.slice A2_0 x0.parts.length c2_0) ∧ Box2 w' w6.heap.size (.slice A1_6 x0.arrays.length c1_6) (.slice A2_6 x0.parts.length c2_6)) (first | exact ⟨P0_9, X0_9⟩ | exact ⟨P0_9.to (of_drew b10), X0_9.to (of_drew b10)⟩ | exact ⟨(P0_9.to (of_drew b10)).to b11, (X0_9.to (of_drew b10)).to b11⟩ | skip)
        (first | (go_at_call 18; refine (toProgram_m (RA0_9.out.below (Below.refl _ _).drew) HN0.out).mono ?_; rintro e w10 ⟨A1_10, c1_10, A2_10, c2_10, bs10, rfl, r10, nd10, hb10, b10⟩) | (go_at_call 22; refine (eqProgram_c (Rx0_9.out.below (of_drew b10)) r10).mono ?_; rintro e w11 ⟨rfl, b11⟩))
      have t11 : Below w9.heap.size w9 w11 := below_tr (of_drew b10) b11
      clear b10 b11 r10 hb10 nd10
      have P0_11 := P0_9.to t11; clear P0_9
      have P1_11 := P1_9.to t11; clear P1_9
      have X0_11 := X0_9.to t11; clear X0_9
      have X1_11 := X1_9.to t11; clear X1_9
      have RA0_11 := Lib.hid (RA0_9.out.below t11); clear RA0_9
      have RA1_11 := Lib.hid (RA1_9.out.below t11); clear RA1_9
      have Rw0_11 := Lib.hid (Rw0_9.out.below t11); clear Rw0_9
      have Rx0_11 := Lib.hid (Rx0_9.out.below t11); clear Rx0_9
      have Rx1_11 := Lib.hid (Rx1_9.out.below t11); clear Rx1_9
      have Rg0_11 := Lib.hid (Rg0_9.out.below t11); clear Rg0_9
      have S11 : Below w.heap.size w w11 := below_tr S9 t11
      have Z11 := Lib.hid (t11.size)
      go_wp2_with fail
      go_region_held3 (fun w' => Box3 w' (w.heap.size + 1) (.int .i64 x1.part) (.int .i64 x1.stmt) (.slice A3_1 x1.point.length c3_1) ∧ Box3 w' w7.heap.size (.int .i64 x1.part) (.int .i64 x1.stmt) (.slice A3_7 x1.point.length c3_7)) (first | exact ⟨P1_11, X1_11⟩ | exact ⟨P1_11.to (of_drew b12), X1_11.to (of_drew b12)⟩ | exact ⟨(P1_11.to (of_drew b12)).to b13, (X1_11.to (of_drew b12)).to b13⟩ | skip)
        (first | (go_at_call 20; refine (toInstance_m (RA1_11.out.below (Below.refl _ _).drew) HN1.out).mono ?_; rintro e w12 ⟨A3_12, c3_12, bs12, rfl, r12, nd12, hb12, b12⟩) | (go_at_call 24; refine (eqInstance_c (Rx1_11.out.below (of_drew b12)) r12).mono ?_; rintro e w13 ⟨rfl, b13⟩))
      have t13 : Below w11.heap.size w11 w13 := below_tr (of_drew b12) b13
      clear b12 b13 r12 hb12 nd12
      have P0_13 := P0_11.to t13; clear P0_11
      have P1_13 := P1_11.to t13; clear P1_11
      have X0_13 := X0_11.to t13; clear X0_11
      have X1_13 := X1_11.to t13; clear X1_11
      have RA0_13 := Lib.hid (RA0_11.out.below t13); clear RA0_11
      have RA1_13 := Lib.hid (RA1_11.out.below t13); clear RA1_11
      have Rw0_13 := Lib.hid (Rw0_11.out.below t13); clear Rw0_11
      have Rx0_13 := Lib.hid (Rx0_11.out.below t13); clear Rx0_11
      have Rx1_13 := Lib.hid (Rx1_11.out.below t13); clear Rx1_11
      have Rg0_13 := Lib.hid (Rg0_11.out.below t13); clear Rg0_11
      have S13 : Below w.heap.size w w13 := below_tr S11 t13
      have Z13 := Lib.hid (t13.size)
      have hcnt : (InstanceCellsF x0 x1).1.length ≤ 1000000 := HL.out
      have hn0c : Pgm.cntM x0 ≤ 10000000 := by have := HN0.out; have := Pgm.cntM_le x0; omega
      go_wp2_with fail
      refine (markProgram_n Rx0_13.out nd6 (q := 1) (by omega) (by omega)).mono ?_
      rintro e w14 ⟨rfl, r14, t14⟩
      have m14h := Lib.hid r14; clear r14
      have P0_14 := t14.box2 P0_13 (fun hm => by have h1 := Tx0.out _ hm; have q0 := Z1.out; have q1 := LP0.out; have q2 := LP1.out; have q3 := Z2.out; have q4 := Z5.out; have q5 := Z6.out; have q6 := Z7.out; have q7 := LX0.out; have q8 := Z8.out; have q9 := LX1.out; have q10 := Z9.out; have q11 := Z11.out; have q12 := Z13.out; omega); clear P0_13
      have P1_14 := t14.box3 P1_13 (fun hm => by have h1 := Tx0.out _ hm; have q0 := Z1.out; have q1 := LP0.out; have q2 := LP1.out; have q3 := Z2.out; have q4 := Z5.out; have q5 := Z6.out; have q6 := Z7.out; have q7 := LX0.out; have q8 := Z8.out; have q9 := LX1.out; have q10 := Z9.out; have q11 := Z11.out; have q12 := Z13.out; omega); clear P1_13
      have X0_14 := t14.box2 X0_13 (fun hm => by have h1 := Tx0.out _ hm; have q0 := Z1.out; have q1 := LP0.out; have q2 := LP1.out; have q3 := Z2.out; have q4 := Z5.out; have q5 := Z6.out; have q6 := Z7.out; have q7 := LX0.out; have q8 := Z8.out; have q9 := LX1.out; have q10 := Z9.out; have q11 := Z11.out; have q12 := Z13.out; omega); clear X0_13
      have X1_14 := t14.box3 X1_13 (fun hm => by have h1 := Tx0.out _ hm; have q0 := Z1.out; have q1 := LP0.out; have q2 := LP1.out; have q3 := Z2.out; have q4 := Z5.out; have q5 := Z6.out; have q6 := Z7.out; have q7 := LX0.out; have q8 := Z8.out; have q9 := LX1.out; have q10 := Z9.out; have q11 := Z11.out; have q12 := Z13.out; omega); clear X1_13
      have RA0_14 := Lib.hid (Rep.keep _ RA0_13.out (t14.keeps fun y hy => ⟨Rep.lt _ RA0_13.out y hy, fun hm => by have h1 := Tx0.out y hm; have h2 := TA0.out y hy; have q0 := Z1.out; have q1 := LP0.out; have q2 := LP1.out; have q3 := Z2.out; have q4 := Z5.out; have q5 := Z6.out; have q6 := Z7.out; have q7 := LX0.out; have q8 := Z8.out; have q9 := LX1.out; have q10 := Z9.out; have q11 := Z11.out; have q12 := Z13.out; omega⟩)); clear RA0_13
      have RA1_14 := Lib.hid (Rep.keep _ RA1_13.out (t14.keeps fun y hy => ⟨Rep.lt _ RA1_13.out y hy, fun hm => by have h1 := Tx0.out y hm; have h2 := TA1.out y hy; have q0 := Z1.out; have q1 := LP0.out; have q2 := LP1.out; have q3 := Z2.out; have q4 := Z5.out; have q5 := Z6.out; have q6 := Z7.out; have q7 := LX0.out; have q8 := Z8.out; have q9 := LX1.out; have q10 := Z9.out; have q11 := Z11.out; have q12 := Z13.out; omega⟩)); clear RA1_13
      have Rw0_14 := Lib.hid (Rep.keep _ Rw0_13.out (t14.keeps fun y hy => ⟨Rep.lt _ Rw0_13.out y hy, fun hm => by have h1 := Tx0.out y hm; have h2 := Tw0.out y hy; have q0 := Z1.out; have q1 := LP0.out; have q2 := LP1.out; have q3 := Z2.out; have q4 := Z5.out; have q5 := Z6.out; have q6 := Z7.out; have q7 := LX0.out; have q8 := Z8.out; have q9 := LX1.out; have q10 := Z9.out; have q11 := Z11.out; have q12 := Z13.out; omega⟩)); clear Rw0_13
      have Rx1_14 := Lib.hid (Rep.keep _ Rx1_13.out (t14.keeps fun y hy => ⟨Rep.lt _ Rx1_13.out y hy, fun hm => by have h1 := Tx0.out y hm; have h2 := Tx1.out y hy; have q0 := Z1.out; have q1 := LP0.out; have q2 := LP1.out; have q3 := Z2.out; have q4 := Z5.out; have q5 := Z6.out; have q6 := Z7.out; have q7 := LX0.out; have q8 := Z8.out; have q9 := LX1.out; have q10 := Z9.out; have q11 := Z11.out; have q12 := Z13.out; omega⟩)); clear Rx1_13
      have Rg0_14 := Lib.hid (Rep.keep _ Rg0_13.out (t14.keeps fun y hy => ⟨Rep.lt _ Rg0_13.out y hy, fun hm => by have h1 := Tx0.out y hm; have h2 := Tg0.out y hy; have q0 := Z1.out; have q1 := LP0.out; have q2 := LP1.out; have q3 := Z2.out; have q4 := Z5.out; have q5 := Z6.out; have q6 := Z7.out; have q7 := LX0.out; have q8 := Z8.out; have q9 := LX1.out; have q10 := Z9.out; have q11 := Z11.out; have q12 := Z13.out; omega⟩)); clear Rg0_13
      have S14 : Below w.heap.size w w14 := S13.trans (t14.below S13.size (fun y hm => by have h1 := Tx0.out y hm; have q0 := Z1.out; have q1 := LP0.out; have q2 := LP1.out; have q3 := Z2.out; have q4 := Z5.out; have q5 := Z6.out; have q6 := Z7.out; have q7 := LX0.out; have q8 := Z8.out; have q9 := LX1.out; have q10 := Z9.out; have q11 := Z11.out; have q12 := Z13.out; omega))
      have Z14 := Lib.hid (show w13.heap.size ≤ w14.heap.size from t14.size)
      clear t14
      have hn1c : In.cntM x1 ≤ 10000000 := by have := HN1.out; have := In.cntM_le x1; omega
      go_wp2_with fail
      refine (markInstance_n Rx1_14.out nd7 (q := (1 + ((Pgm.cntM x0 : Nat) : Int))) (by omega) (by omega)).mono ?_
      rintro e w15 ⟨rfl, r15, t15⟩
      have m15h := Lib.hid r15; clear r15
      have P0_15 := t15.box2 P0_14 (fun hm => by have h1 := Tx1.out _ hm; have q0 := Z1.out; have q1 := LP0.out; have q2 := LP1.out; have q3 := Z2.out; have q4 := Z5.out; have q5 := Z6.out; have q6 := Z7.out; have q7 := LX0.out; have q8 := Z8.out; have q9 := LX1.out; have q10 := Z9.out; have q11 := Z11.out; have q12 := Z13.out; have q13 := Z14.out; omega); clear P0_14
      have P1_15 := t15.box3 P1_14 (fun hm => by have h1 := Tx1.out _ hm; have q0 := Z1.out; have q1 := LP0.out; have q2 := LP1.out; have q3 := Z2.out; have q4 := Z5.out; have q5 := Z6.out; have q6 := Z7.out; have q7 := LX0.out; have q8 := Z8.out; have q9 := LX1.out; have q10 := Z9.out; have q11 := Z11.out; have q12 := Z13.out; have q13 := Z14.out; omega); clear P1_14
      have X0_15 := t15.box2 X0_14 (fun hm => by have h1 := Tx1.out _ hm; have q0 := Z1.out; have q1 := LP0.out; have q2 := LP1.out; have q3 := Z2.out; have q4 := Z5.out; have q5 := Z6.out; have q6 := Z7.out; have q7 := LX0.out; have q8 := Z8.out; have q9 := LX1.out; have q10 := Z9.out; have q11 := Z11.out; have q12 := Z13.out; have q13 := Z14.out; omega); clear X0_14
      have X1_15 := t15.box3 X1_14 (fun hm => by have h1 := Tx1.out _ hm; have q0 := Z1.out; have q1 := LP0.out; have q2 := LP1.out; have q3 := Z2.out; have q4 := Z5.out; have q5 := Z6.out; have q6 := Z7.out; have q7 := LX0.out; have q8 := Z8.out; have q9 := LX1.out; have q10 := Z9.out; have q11 := Z11.out; have q12 := Z13.out; have q13 := Z14.out; omega); clear X1_14
      have RA0_15 := Lib.hid (Rep.keep _ RA0_14.out (t15.keeps fun y hy => ⟨Rep.lt _ RA0_14.out y hy, fun hm => by have h1 := Tx1.out y hm; have h2 := TA0.out y hy; have q0 := Z1.out; have q1 := LP0.out; have q2 := LP1.out; have q3 := Z2.out; have q4 := Z5.out; have q5 := Z6.out; have q6 := Z7.out; have q7 := LX0.out; have q8 := Z8.out; have q9 := LX1.out; have q10 := Z9.out; have q11 := Z11.out; have q12 := Z13.out; have q13 := Z14.out; omega⟩)); clear RA0_14
      have RA1_15 := Lib.hid (Rep.keep _ RA1_14.out (t15.keeps fun y hy => ⟨Rep.lt _ RA1_14.out y hy, fun hm => by have h1 := Tx1.out y hm; have h2 := TA1.out y hy; have q0 := Z1.out; have q1 := LP0.out; have q2 := LP1.out; have q3 := Z2.out; have q4 := Z5.out; have q5 := Z6.out; have q6 := Z7.out; have q7 := LX0.out; have q8 := Z8.out; have q9 := LX1.out; have q10 := Z9.out; have q11 := Z11.out; have q12 := Z13.out; have q13 := Z14.out; omega⟩)); clear RA1_14
      have Rw0_15 := Lib.hid (Rep.keep _ Rw0_14.out (t15.keeps fun y hy => ⟨Rep.lt _ Rw0_14.out y hy, fun hm => by have h1 := Tx1.out y hm; have h2 := Tw0.out y hy; have q0 := Z1.out; have q1 := LP0.out; have q2 := LP1.out; have q3 := Z2.out; have q4 := Z5.out; have q5 := Z6.out; have q6 := Z7.out; have q7 := LX0.out; have q8 := Z8.out; have q9 := LX1.out; have q10 := Z9.out; have q11 := Z11.out; have q12 := Z13.out; have q13 := Z14.out; omega⟩)); clear Rw0_14
      have Rg0_15 := Lib.hid (Rep.keep _ Rg0_14.out (t15.keeps fun y hy => ⟨Rep.lt _ Rg0_14.out y hy, fun hm => by have h1 := Tx1.out y hm; have h2 := Tg0.out y hy; have q0 := Z1.out; have q1 := LP0.out; have q2 := LP1.out; have q3 := Z2.out; have q4 := Z5.out; have q5 := Z6.out; have q6 := Z7.out; have q7 := LX0.out; have q8 := Z8.out; have q9 := LX1.out; have q10 := Z9.out; have q11 := Z11.out; have q12 := Z13.out; have q13 := Z14.out; omega⟩)); clear Rg0_14
      have S15 : Below w.heap.size w w15 := S14.trans (t15.below S14.size (fun y hm => by have h1 := Tx1.out y hm; have q0 := Z1.out; have q1 := LP0.out; have q2 := LP1.out; have q3 := Z2.out; have q4 := Z5.out; have q5 := Z6.out; have q6 := Z7.out; have q7 := LX0.out; have q8 := Z8.out; have q9 := LX1.out; have q10 := Z9.out; have q11 := Z11.out; have q12 := Z13.out; have q13 := Z14.out; omega))
      have Z15 := Lib.hid (show w14.heap.size ≤ w15.heap.size from t15.size)
      clear t15
      go_wp2_with fail
      refine (eqIntS_b (Rg0_15.out.below bel) (Rw0_15.out.below bel)).mono ?_
      rintro e w16 ⟨rfl, b16⟩
      have P0_16 := P0_15.to b16; clear P0_15
      have P1_16 := P1_15.to b16; clear P1_15
      have X0_16 := X0_15.to b16; clear X0_15
      have X1_16 := X1_15.to b16; clear X1_15
      have RA0_16 := Lib.hid (RA0_15.out.below b16); clear RA0_15
      have RA1_16 := Lib.hid (RA1_15.out.below b16); clear RA1_15
      have Rw0_16 := Lib.hid (Rw0_15.out.below b16); clear Rw0_15
      have Rg0_16 := Lib.hid (Rg0_15.out.below b16); clear Rg0_15
      have S16 : Below w.heap.size w w16 := below_tr S15 b16
      have Z16 := Lib.hid (b16.size)
      go_wp2_with fail
      refine (markIntS_n Rg0_16.out nd8 (q := 1) (by omega) (by omega)).mono ?_
      rintro e w17 ⟨rfl, r17, t17⟩
      have m17h := Lib.hid r17; clear r17
      have P0_17 := t17.box2 P0_16 (fun hm => by have h1 := Tg0.out _ hm; have q0 := Z1.out; have q1 := LP0.out; have q2 := LP1.out; have q3 := Z2.out; have q4 := Z5.out; have q5 := Z6.out; have q6 := Z7.out; have q7 := LX0.out; have q8 := Z8.out; have q9 := LX1.out; have q10 := Z9.out; have q11 := Z11.out; have q12 := Z13.out; have q13 := Z14.out; have q14 := Z15.out; have q15 := Z16.out; omega); clear P0_16
      have P1_17 := t17.box3 P1_16 (fun hm => by have h1 := Tg0.out _ hm; have q0 := Z1.out; have q1 := LP0.out; have q2 := LP1.out; have q3 := Z2.out; have q4 := Z5.out; have q5 := Z6.out; have q6 := Z7.out; have q7 := LX0.out; have q8 := Z8.out; have q9 := LX1.out; have q10 := Z9.out; have q11 := Z11.out; have q12 := Z13.out; have q13 := Z14.out; have q14 := Z15.out; have q15 := Z16.out; omega); clear P1_16
      have X0_17 := t17.box2 X0_16 (fun hm => by have h1 := Tg0.out _ hm; have q0 := Z1.out; have q1 := LP0.out; have q2 := LP1.out; have q3 := Z2.out; have q4 := Z5.out; have q5 := Z6.out; have q6 := Z7.out; have q7 := LX0.out; have q8 := Z8.out; have q9 := LX1.out; have q10 := Z9.out; have q11 := Z11.out; have q12 := Z13.out; have q13 := Z14.out; have q14 := Z15.out; have q15 := Z16.out; omega); clear X0_16
      have X1_17 := t17.box3 X1_16 (fun hm => by have h1 := Tg0.out _ hm; have q0 := Z1.out; have q1 := LP0.out; have q2 := LP1.out; have q3 := Z2.out; have q4 := Z5.out; have q5 := Z6.out; have q6 := Z7.out; have q7 := LX0.out; have q8 := Z8.out; have q9 := LX1.out; have q10 := Z9.out; have q11 := Z11.out; have q12 := Z13.out; have q13 := Z14.out; have q14 := Z15.out; have q15 := Z16.out; omega); clear X1_16
      have RA0_17 := Lib.hid (Rep.keep _ RA0_16.out (t17.keeps fun y hy => ⟨Rep.lt _ RA0_16.out y hy, fun hm => by have h1 := Tg0.out y hm; have h2 := TA0.out y hy; have q0 := Z1.out; have q1 := LP0.out; have q2 := LP1.out; have q3 := Z2.out; have q4 := Z5.out; have q5 := Z6.out; have q6 := Z7.out; have q7 := LX0.out; have q8 := Z8.out; have q9 := LX1.out; have q10 := Z9.out; have q11 := Z11.out; have q12 := Z13.out; have q13 := Z14.out; have q14 := Z15.out; have q15 := Z16.out; omega⟩)); clear RA0_16
      have RA1_17 := Lib.hid (Rep.keep _ RA1_16.out (t17.keeps fun y hy => ⟨Rep.lt _ RA1_16.out y hy, fun hm => by have h1 := Tg0.out y hm; have h2 := TA1.out y hy; have q0 := Z1.out; have q1 := LP0.out; have q2 := LP1.out; have q3 := Z2.out; have q4 := Z5.out; have q5 := Z6.out; have q6 := Z7.out; have q7 := LX0.out; have q8 := Z8.out; have q9 := LX1.out; have q10 := Z9.out; have q11 := Z11.out; have q12 := Z13.out; have q13 := Z14.out; have q14 := Z15.out; have q15 := Z16.out; omega⟩)); clear RA1_16
      have Rw0_17 := Lib.hid (Rep.keep _ Rw0_16.out (t17.keeps fun y hy => ⟨Rep.lt _ Rw0_16.out y hy, fun hm => by have h1 := Tg0.out y hm; have h2 := Tw0.out y hy; have q0 := Z1.out; have q1 := LP0.out; have q2 := LP1.out; have q3 := Z2.out; have q4 := Z5.out; have q5 := Z6.out; have q6 := Z7.out; have q7 := LX0.out; have q8 := Z8.out; have q9 := LX1.out; have q10 := Z9.out; have q11 := Z11.out; have q12 := Z13.out; have q13 := Z14.out; have q14 := Z15.out; have q15 := Z16.out; omega⟩)); clear Rw0_16
      have S17 : Below w.heap.size w w17 := S16.trans (t17.below S16.size (fun y hm => by have h1 := Tg0.out y hm; have q0 := Z1.out; have q1 := LP0.out; have q2 := LP1.out; have q3 := Z2.out; have q4 := Z5.out; have q5 := Z6.out; have q6 := Z7.out; have q7 := LX0.out; have q8 := Z8.out; have q9 := LX1.out; have q10 := Z9.out; have q11 := Z11.out; have q12 := Z13.out; have q13 := Z14.out; have q14 := Z15.out; have q15 := Z16.out; omega))
      have Z17 := Lib.hid (show w16.heap.size ≤ w17.heap.size from t17.size)
      clear t17
      have hmq : ((1 + (((InstanceCellsF x0 x1).1.length : Nat) : Int)) != (1 + (((InstanceCellsF x0 x1).1.length : Nat) : Int))) = false := by simp
      go_wp2_with fail
      refine (heldIntS_n m17h.out (q := 1) (by omega) (by omega)).mono ?_
      rintro e w18 ⟨rfl, b18⟩
      have P0_18 := P0_17.to b18; clear P0_17
      have P1_18 := P1_17.to b18; clear P1_17
      have X0_18 := X0_17.to b18; clear X0_17
      have X1_18 := X1_17.to b18; clear X1_17
      have RA0_18 := Lib.hid (RA0_17.out.below b18); clear RA0_17
      have RA1_18 := Lib.hid (RA1_17.out.below b18); clear RA1_17
      have Rw0_18 := Lib.hid (Rw0_17.out.below b18); clear Rw0_17
      have Rg0_18 := Lib.hid (m17h.out.below b18); clear m17h
      have S18 : Below w.heap.size w w18 := below_tr S17 b18
      have Z18 := Lib.hid (b18.size)
      go_wp2_with fail
      go_region_held3 (fun w' => Box2 w' w.heap.size (.slice A1_0 x0.arrays.length c1_0) (.slice A2_0 x0.parts.length c2_0) ∧ Box3 w' (w.heap.size + 1) (.int .i64 x1.part) (.int .i64 x1.stmt) (.slice A3_1 x1.point.length c3_1)) (first | exact ⟨P0_18, P1_18⟩ | exact ⟨(P0_18.to (of_drew b19)), (P1_18.to (of_drew b19))⟩ | exact ⟨((P0_18.to (of_drew b19)).to b20), ((P1_18.to (of_drew b19)).to b20)⟩ | exact ⟨(((P0_18.to (of_drew b19)).to b20).to b21), (((P1_18.to (of_drew b19)).to b20).to b21)⟩ | skip)
        (first | (go_at_call_of 18 (Value.agg #[.slice A1_0 x0.arrays.length c1_0, .slice A2_0 x0.parts.length c2_0]); refine (toProgram_m (RA0_18.out.below (Below.refl _ _).drew) HN0.out).mono ?_; rintro e w19 ⟨A1_19, c1_19, A2_19, c2_19, bs19, rfl, r19, nd19, hb19, b19⟩) | (go_at_call_of 20 (Value.agg #[.int .i64 x1.part, .int .i64 x1.stmt, .slice A3_1 x1.point.length c3_1]); refine (toInstance_m (RA1_18.out.below (of_drew b19)) HN1.out).mono ?_; rintro e w20 ⟨A3_20, c3_20, bs20, rfl, r20, nd20, hb20, b20⟩) | (go_at_call 51; refine (implInstanceCells_c (r19.below b20) r20).mono ?_; rintro e w21 ⟨A21, n21, c21, bs21, rfl, r21, nd21, hb21, b21⟩))
      have t21 : Below w18.heap.size w18 w21 := (below_tr (below_tr (of_drew b19) b20) b21)
      clear b19 b20 b21 r19 hb19 nd19 r20 hb20 nd20
      have P0_21 := P0_18.to t21; clear P0_18
      have P1_21 := P1_18.to t21; clear P1_18
      have X0_21 := X0_18.to t21; clear X0_18
      have X1_21 := X1_18.to t21; clear X1_18
      have RA0_21 := Lib.hid (RA0_18.out.below t21); clear RA0_18
      have RA1_21 := Lib.hid (RA1_18.out.below t21); clear RA1_18
      have Rw0_21 := Lib.hid (Rw0_18.out.below t21); clear Rw0_18
      have Rg0_21 := Lib.hid (Rg0_18.out.below t21); clear Rg0_18
      have S21 : Below w.heap.size w w21 := below_tr S18 t21
      have Z21 := Lib.hid (t21.size)
      have r21h := Lib.hid r21; clear r21 hb21 nd21
      go_wp2_with fail
      refine (eqIntS_b (r21h.out.below bel) (Rw0_21.out.below bel)).mono ?_
      rintro e w22 ⟨rfl, b22⟩
      have P0_22 := P0_21.to b22; clear P0_21
      have P1_22 := P1_21.to b22; clear P1_21
      have X0_22 := X0_21.to b22; clear X0_21
      have X1_22 := X1_21.to b22; clear X1_21
      have RA0_22 := Lib.hid (RA0_21.out.below b22); clear RA0_21
      have RA1_22 := Lib.hid (RA1_21.out.below b22); clear RA1_21
      have Rw0_22 := Lib.hid (Rw0_21.out.below b22); clear Rw0_21
      have Rg0_22 := Lib.hid (Rg0_21.out.below b22); clear Rg0_21
      have Rh0_22 := Lib.hid (r21h.out.below b22); clear r21h
      have S22 : Below w.heap.size w w22 := below_tr S21 b22
      have Z22 := Lib.hid (b22.size)
      go_wp2_with fail
      refine (heldIntS_n Rg0_22.out (q := 1) (by omega) (by omega)).mono ?_
      rintro e w23 ⟨rfl, b23⟩
      have P0_23 := P0_22.to b23; clear P0_22
      have P1_23 := P1_22.to b23; clear P1_22
      have X0_23 := X0_22.to b23; clear X0_22
      have X1_23 := X1_22.to b23; clear X1_22
      have RA0_23 := Lib.hid (RA0_22.out.below b23); clear RA0_22
      have RA1_23 := Lib.hid (RA1_22.out.below b23); clear RA1_22
      have Rw0_23 := Lib.hid (Rw0_22.out.below b23); clear Rw0_22
      have Rg0_23 := Lib.hid (Rg0_22.out.below b23); clear Rg0_22
      have Rh0_23 := Lib.hid (Rh0_22.out.below b23); clear Rh0_22
      have S23 : Below w.heap.size w w23 := below_tr S22 b23
      have Z23 := Lib.hid (b23.size)
      go_wp2
      go_ret
      exact ⟨rfl, S23⟩
end Go.Proofs.YtgimggpmnemkbaaGreat
