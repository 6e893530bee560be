/- The law FnExactCellOf: its walk. Printed by lawgen.py. -/
import Derived.Test.YtaomlianiehkgaaGreatLaw
import Derived.Test.YtaomlianiehkgaaGreatBasic
import Derived.Test.YtaomlianiehkgaaGreatTotal
import Derived.Test.YtaomlianiehkgaaGreatTyProgram
import Derived.Test.YtaomlianiehkgaaGreatOps
set_option linter.all false
set_option linter.unusedSimpArgs false
set_option linter.unusedVariables false
namespace Go.Proofs.YtaomlianiehkgaaGreat
open Go.ChangeShapes Go.WideShapes Go.ChangeAt Go.RowKit Go.Deep

set_option maxRecDepth 100000 in
set_option maxHeartbeats 2000000 in
theorem FnExactCellOf_walk {w : World} {x0 : Pgm} {A1_0 : Option Addr} {c1_0 : Nat} {A2_0 : Option Addr} {c2_0 : Nat} {bs0 : List Nat} {x1 : Acc} {A2_1 : Option Addr} {c2_1 : Nat} {bs1 : List Nat} {x2 : List Int} {A2 : Option Addr} {n2 : Nat} {c2 : Nat} {bs2 : List Nat} (h0 : Rep w x0.d [.slice A1_0 x0.arrays.length c1_0, .slice A2_0 x0.parts.length c2_0] bs0) (h1 : Rep w x1.d [.string x1.arr, .slice A2_1 x1.subs.length c2_1] bs1) (h2 : Rep w (ints x2) [.slice A2 n2 c2] bs2) :
    Calls Tryz.prog 4 #[.agg #[.slice A1_0 x0.arrays.length c1_0, .slice A2_0 x0.parts.length c2_0], .agg #[.string x1.arr, .slice A2_1 x1.subs.length c2_1], .slice A2 n2 c2] w fun e w' => e = .returned (.bool true) ∧ Below w.heap.size w w' := by
  have H0 := Lib.hid h0; clear h0
  have H1 := Lib.hid h1; clear h1
  have hm2 : n2 ≤ 9223372036854775807 := Nat.le_trans h2.ints_len.2.1 h2.ints_len.2.2
  have H2 := Lib.hid h2; clear h2
  have hnl2 := H2.out.ints_len.1
  have HNL2 := Lib.hid hnl2; clear hnl2
  by_cases hbig2 : 1048576 < n2
  · skip
    go_enter Tryz.func4, Tryz.ntmps4
    go_wp2
    go_ret
    exact ⟨rfl, (by repeat (first | with_reducible exact Below.refl _ _ | refine Below.setCell ?_ (by simp; try omega) _ | refine below_al ?_ _ | refine Below.alloc ?_ (by simp [World.setCell]; try omega) _ | refine below_drewN ?_ _ | refine Below.drew ?_ | refine below_tr ?_ ‹Below _ _ _›))⟩
  · have HN2 := Lib.hid (show x2.length ≤ 1048576 by have := HNL2.out; omega)
    by_cases hs0 : (1048576 : Int) - ((szD x0.d : Nat) : Int) < 0
    · have HS0 := Lib.hid (szR_neg hs0)
      go_enter Tryz.func4, Tryz.ntmps4
      go_wp2_with fail
      refine (szProgram_t (H0.out.below (by repeat (first | with_reducible exact Below.refl _ _ | refine Below.setCell ?_ (by simp; try omega) _ | refine below_al ?_ _ | refine Below.alloc ?_ (by simp [World.setCell]; try omega) _ | refine below_drewN ?_ _ | refine Below.drew ?_ | refine below_tr ?_ ‹Below _ _ _›))) (by omega) (by omega)).mono ?_
      rintro e v1 ⟨rfl, bv1⟩
      rw [HS0.out]
      go_wp2
      go_ret
      exact ⟨rfl, (by repeat (first | with_reducible exact Below.refl _ _ | refine Below.setCell ?_ (by simp; try omega) _ | refine below_al ?_ _ | refine Below.alloc ?_ (by simp [World.setCell]; try omega) _ | refine below_drewN ?_ _ | refine Below.drew ?_ | refine below_tr ?_ ‹Below _ _ _›))⟩
    · have HS0 := Lib.hid (szR_pos (left := 1048576) (tot := szD x0.d) (by omega))
      have HN0 := Lib.hid (show szD x0.d ≤ 1048576 by omega)
      have hl0 : 0 ≤ (1048576 : Int) - ((szD x0.d : Nat) : Int) := by omega
      clear hs0
      by_cases hs1 : ((1048576 - ((szD x0.d : Nat) : Int)) : Int) - ((szD x1.d : Nat) : Int) < 0
      · have HS1 := Lib.hid (szR_neg hs1)
        go_enter Tryz.func4, Tryz.ntmps4
        go_wp2_with fail
        refine (szProgram_t (H0.out.below (by repeat (first | with_reducible exact Below.refl _ _ | refine Below.setCell ?_ (by simp; try omega) _ | refine below_al ?_ _ | refine Below.alloc ?_ (by simp [World.setCell]; try omega) _ | refine below_drewN ?_ _ | refine Below.drew ?_ | refine below_tr ?_ ‹Below _ _ _›))) (by omega) (by omega)).mono ?_
        rintro e v1 ⟨rfl, bv1⟩
        rw [HS0.out]
        have Pv0 : Box2 v1 w.heap.size (.slice A1_0 x0.arrays.length c1_0) (.slice A2_0 x0.parts.length c2_0) := by
          refine ⟨?_, ?_⟩ <;> (rw [bv1.cell (by simp; try omega)]; go_simp)
        have Pv1 : Box2 v1 (w.heap.size + 1) (.string x1.arr) (.slice A2_1 x1.subs.length c2_1) := by
          refine ⟨?_, ?_⟩ <;> (rw [bv1.cell (by simp; try omega)]; go_simp)
        have Sv1 : Below w.heap.size w v1 := (by repeat (first | with_reducible exact Below.refl _ _ | refine Below.setCell ?_ (by simp; try omega) _ | refine below_al ?_ _ | refine Below.alloc ?_ (by simp [World.setCell]; try omega) _ | refine below_drewN ?_ _ | refine Below.drew ?_ | refine below_tr ?_ ‹Below _ _ _›))
        go_wp2_with fail
        refine (szAccess_t (H1.out.below (by repeat (first | with_reducible exact Below.refl _ _ | refine Below.setCell ?_ (by simp; try omega) _ | refine below_al ?_ _ | refine Below.alloc ?_ (by simp [World.setCell]; try omega) _ | refine below_drewN ?_ _ | refine Below.drew ?_ | refine below_tr ?_ ‹Below _ _ _›))) (by omega) (by omega)).mono ?_
        rintro e v2 ⟨rfl, bv2⟩
        rw [HS1.out]
        go_wp2
        go_ret
        exact ⟨rfl, (by repeat (first | with_reducible exact Below.refl _ _ | refine Below.setCell ?_ (by simp; try omega) _ | refine below_al ?_ _ | refine Below.alloc ?_ (by simp [World.setCell]; try omega) _ | refine below_drewN ?_ _ | refine Below.drew ?_ | refine below_tr ?_ ‹Below _ _ _›))⟩
      · have HS1 := Lib.hid (szR_pos (left := (1048576 - ((szD x0.d : Nat) : Int))) (tot := szD x1.d) (by omega))
        have HN1 := Lib.hid (show szD x1.d ≤ 1048576 by omega)
        have hl1 : 0 ≤ ((1048576 - ((szD x0.d : Nat) : Int)) : Int) - ((szD x1.d : Nat) : Int) := by omega
        clear hs1
        have hq0 : ((CellOfF x0 x1 x2) != (CellOfF x0 x1 x2)) = false := by simp
        go_enter Tryz.func4, Tryz.ntmps4
        have TA0 := Lib.hid (Rep.lt _ H0.out)
        have TA1 := Lib.hid (Rep.lt _ H1.out)
        have TA2 := Lib.hid (Rep.lt _ H2.out)
        go_wp2_with fail
        refine (szProgram_t (H0.out.below (by repeat (first | with_reducible exact Below.refl _ _ | refine Below.setCell ?_ (by simp; try omega) _ | refine below_al ?_ _ | refine Below.alloc ?_ (by simp [World.setCell]; try omega) _ | refine below_drewN ?_ _ | refine Below.drew ?_ | refine below_tr ?_ ‹Below _ _ _›))) (by omega) (by omega)).mono ?_
        rintro e w1 ⟨rfl, b1⟩
        rw [HS0.out]
        have P0_1n : Box2 w1 w.heap.size (.slice A1_0 x0.arrays.length c1_0) (.slice A2_0 x0.parts.length c2_0) := by
          refine ⟨?_, ?_⟩ <;> (rw [(b1).cell (by simp; try omega)]; go_simp)
        have P1_1n : Box2 w1 (w.heap.size + 1) (.string x1.arr) (.slice A2_1 x1.subs.length c2_1) := by
          refine ⟨?_, ?_⟩ <;> (rw [(b1).cell (by simp; try omega)]; go_simp)
        have s1 : Below w.heap.size w w1 := (by repeat (first | with_reducible exact Below.refl _ _ | refine Below.setCell ?_ (by simp; try omega) _ | refine below_al ?_ _ | refine Below.alloc ?_ (by simp [World.setCell]; try omega) _ | refine below_drewN ?_ _ | refine Below.drew ?_ | refine below_tr ?_ ‹Below _ _ _›))
        have RA0_1 := Lib.hid (H0.out.below s1); clear H0
        have RA1_1 := Lib.hid (H1.out.below s1); clear H1
        have RA2_1 := Lib.hid (H2.out.below s1); clear H2
        have S1 : Below w.heap.size w w1 := s1
        have Z1 := Lib.hid (s1.size)
        have LP0 := Lib.hid (lt_of_cell P0_1n.1)
        have LP1 := Lib.hid (lt_of_cell P1_1n.1)
        go_wp2_with fail
        refine (szAccess_t (RA1_1.out.below (by repeat (first | with_reducible exact Below.refl _ _ | refine Below.setCell ?_ (by simp; try omega) _ | refine below_al ?_ _ | refine Below.alloc ?_ (by simp [World.setCell]; try omega) _ | refine below_drewN ?_ _ | refine Below.drew ?_ | refine below_tr ?_ ‹Below _ _ _›))) (by omega) (by omega)).mono ?_
        rintro e w2 ⟨rfl, b2⟩
        rw [HS1.out]
        have P0_2 := P0_1n.to b2; clear P0_1n
        have P1_2 := P1_1n.to b2; clear P1_1n
        have RA0_2 := Lib.hid (RA0_1.out.below b2); clear RA0_1
        have RA1_2 := Lib.hid (RA1_1.out.below b2); clear RA1_1
        have RA2_2 := Lib.hid (RA2_1.out.below b2); clear RA2_1
        have S2 : Below w.heap.size w w2 := below_tr S1 b2
        have Z2 := Lib.hid (b2.size)
        go_wp2_with fail
        go_region_held3 (fun w' => Box2 w' w.heap.size (.slice A1_0 x0.arrays.length c1_0) (.slice A2_0 x0.parts.length c2_0) ∧ Box2 w' (w.heap.size + 1) (.string x1.arr) (.slice A2_1 x1.subs.length c2_1)) (first | exact ⟨P0_2, P1_2⟩ | exact ⟨(P0_2.to (of_drew b3)), (P1_2.to (of_drew b3))⟩ | exact ⟨((P0_2.to (of_drew b3)).to b4), ((P1_2.to (of_drew b3)).to b4)⟩ | exact ⟨(((P0_2.to (of_drew b3)).to b4).to b5), (((P1_2.to (of_drew b3)).to b4).to b5)⟩ | exact ⟨((((P0_2.to (of_drew b3)).to b4).to b5).to b6), ((((P1_2.to (of_drew b3)).to b4).to b5).to b6)⟩ | skip)
          (first | (go_at_call_of 13 (Value.agg #[.slice A1_0 x0.arrays.length c1_0, .slice A2_0 x0.parts.length c2_0]); refine (toProgram_m (RA0_2.out.below (Below.refl _ _).drew) HN0.out).mono ?_; rintro e w3 ⟨A1_3, c1_3, A2_3, c2_3, bs3, rfl, r3, nd3, hb3, b3⟩) | (go_at_call_of 18 (Value.agg #[.string x1.arr, .slice A2_1 x1.subs.length c2_1]); refine (toAccess_m (RA1_2.out.below (of_drew b3)) HN1.out).mono ?_; rintro e w4 ⟨A2_4, c2_4, bs4, rfl, r4, nd4, hb4, b4⟩) | (go_at_call_of 19 (Value.slice A2 n2 c2); refine (toIntS_m ((RA2_2.out.below (of_drew b3)).below b4) HN2.out).mono ?_; rintro e w5 ⟨A5, n5, c5, bs5, rfl, r5, nd5, hb5, b5⟩) | (go_at_call 17; refine (specCellOf_c ((r3.below b4).below b5) (r4.below b5) r5).mono ?_; rintro e w6 ⟨rfl, b6⟩))
        have t6 : Below w2.heap.size w2 w6 := (below_tr (below_tr (below_tr (of_drew b3) b4) b5) b6)
        clear b3 b4 b5 b6 r3 hb3 nd3 r4 hb4 nd4 r5 hb5 nd5
        have P0_6 := P0_2.to t6; clear P0_2
        have P1_6 := P1_2.to t6; clear P1_2
        have RA0_6 := Lib.hid (RA0_2.out.below t6); clear RA0_2
        have RA1_6 := Lib.hid (RA1_2.out.below t6); clear RA1_2
        have RA2_6 := Lib.hid (RA2_2.out.below t6); clear RA2_2
        have S6 : Below w.heap.size w w6 := below_tr S2 t6
        have Z6 := Lib.hid (t6.size)
        go_wp2_with fail
        refine (toProgram_m (RA0_6.out.below (by repeat (first | with_reducible exact Below.refl _ _ | refine Below.setCell ?_ (by simp; try omega) _ | refine below_al ?_ _ | refine Below.alloc ?_ (by simp [World.setCell]; try omega) _ | refine below_drewN ?_ _ | refine Below.drew ?_ | refine below_tr ?_ ‹Below _ _ _›))) HN0.out).mono ?_
        rintro e w7 ⟨A1_7, c1_7, A2_7, c2_7, bs7, rfl, r7, nd7, hb7, b7⟩
        have Tx0 := Lib.hid (show ∀ y ∈ bs7, w6.heap.size + 0 ≤ y ∧ y < w7.heap.size from fun y hy => ⟨by have := hb7 y hy; (try simp at this); omega, Rep.lt _ r7 y hy⟩)
        have P0_7 := P0_6.to b7; clear P0_6
        have P1_7 := P1_6.to b7; clear P1_6
        have RA0_7 := Lib.hid (RA0_6.out.below b7); clear RA0_6
        have RA1_7 := Lib.hid (RA1_6.out.below b7); clear RA1_6
        have RA2_7 := Lib.hid (RA2_6.out.below b7); clear RA2_6
        have S7 : Below w.heap.size w w7 := below_tr S6 b7
        have Z7 := Lib.hid (b7.size)
        have r7h := Lib.hid r7; clear r7 hb7
        have ltP0_7 := lt_of_cell P0_7.1
        have ltP1_7 := lt_of_cell P1_7.1
        go_wp2_with fail
        refine (toAccess_m (RA1_7.out.below (by repeat (first | with_reducible exact Below.refl _ _ | refine Below.setCell ?_ (by simp; try omega) _ | refine below_al ?_ _ | refine Below.alloc ?_ (by simp [World.setCell]; try omega) _ | refine below_drewN ?_ _ | refine Below.drew ?_ | refine below_tr ?_ ‹Below _ _ _›))) HN1.out).mono ?_
        rintro e w8 ⟨A2_8, c2_8, bs8, rfl, r8, nd8, hb8, b8⟩
        have Tx1 := Lib.hid (show ∀ y ∈ bs8, w7.heap.size + 1 ≤ y ∧ y < w8.heap.size from fun y hy => ⟨by have := hb8 y hy; (try simp at this); omega, Rep.lt _ r8 y hy⟩)
        have X0_8n := (Box2.new w7 _ _ _).to b8
        have s8 : Below w7.heap.size w7 w8 := (by repeat (first | with_reducible exact Below.refl _ _ | refine Below.setCell ?_ (by simp; try omega) _ | refine below_al ?_ _ | refine Below.alloc ?_ (by simp [World.setCell]; try omega) _ | refine below_drewN ?_ _ | refine Below.drew ?_ | refine below_tr ?_ ‹Below _ _ _›))
        have P0_8 := P0_7.to s8; clear P0_7
        have P1_8 := P1_7.to s8; clear P1_7
        have RA0_8 := Lib.hid (RA0_7.out.below s8); clear RA0_7
        have RA1_8 := Lib.hid (RA1_7.out.below s8); clear RA1_7
        have RA2_8 := Lib.hid (RA2_7.out.below s8); clear RA2_7
        have Rx0_8 := Lib.hid (r7h.out.below s8); clear r7h
        have S8 : Below w.heap.size w w8 := below_tr S7 s8
        have Z8 := Lib.hid (s8.size)
        have LX0 := Lib.hid (lt_of_cell X0_8n.1)
        have r8h := Lib.hid r8; clear r8 hb8
        have ltP0_8 := lt_of_cell P0_8.1
        have ltP1_8 := lt_of_cell P1_8.1
        have ltX0_8n := lt_of_cell X0_8n.1
        go_wp2_with fail
        refine (toIntS_m (RA2_8.out.below (by repeat (first | with_reducible exact Below.refl _ _ | refine Below.setCell ?_ (by simp; try omega) _ | refine below_al ?_ _ | refine Below.alloc ?_ (by simp [World.setCell]; try omega) _ | refine below_drewN ?_ _ | refine Below.drew ?_ | refine below_tr ?_ ‹Below _ _ _›))) HN2.out).mono ?_
        rintro e w9 ⟨A9, n9, c9, bs9, rfl, r9, nd9, hb9, b9⟩
        have Tx2 := Lib.hid (show ∀ y ∈ bs9, w8.heap.size + 1 ≤ y ∧ y < w9.heap.size from fun y hy => ⟨by have := hb9 y hy; (try simp at this); omega, Rep.lt _ r9 y hy⟩)
        have X1_9n := (Box2.new w8 _ _ _).to b9
        have s9 : Below w8.heap.size w8 w9 := (by repeat (first | with_reducible exact Below.refl _ _ | refine Below.setCell ?_ (by simp; try omega) _ | refine below_al ?_ _ | refine Below.alloc ?_ (by simp [World.setCell]; try omega) _ | refine below_drewN ?_ _ | refine Below.drew ?_ | refine below_tr ?_ ‹Below _ _ _›))
        have P0_9 := P0_8.to s9; clear P0_8
        have P1_9 := P1_8.to s9; clear P1_8
        have X0_9 := X0_8n.to s9; clear X0_8n
        have RA0_9 := Lib.hid (RA0_8.out.below s9); clear RA0_8
        have RA1_9 := Lib.hid (RA1_8.out.below s9); clear RA1_8
        have RA2_9 := Lib.hid (RA2_8.out.below s9); clear RA2_8
        have Rx0_9 := Lib.hid (Rx0_8.out.below s9); clear Rx0_8
        have Rx1_9 := Lib.hid (r8h.out.below s9); clear r8h
        have S9 : Below w.heap.size w w9 := below_tr S8 s9
        have Z9 := Lib.hid (s9.size)
        have LX1 := Lib.hid (lt_of_cell X1_9n.1)
        have r9h := Lib.hid r9; clear r9 hb9
        go_wp2_with fail
        refine (implCellOf_c (Rx0_9.out.below (by repeat (first | with_reducible exact Below.refl _ _ | refine Below.setCell ?_ (by simp; try omega) _ | refine below_al ?_ _ | refine Below.alloc ?_ (by simp [World.setCell]; try omega) _ | refine below_drewN ?_ _ | refine Below.drew ?_ | refine below_tr ?_ ‹Below _ _ _›))) (Rx1_9.out.below (by repeat (first | with_reducible exact Below.refl _ _ | refine Below.setCell ?_ (by simp; try omega) _ | refine below_al ?_ _ | refine Below.alloc ?_ (by simp [World.setCell]; try omega) _ | refine below_drewN ?_ _ | refine Below.drew ?_ | refine below_tr ?_ ‹Below _ _ _›))) (r9h.out.below (by repeat (first | with_reducible exact Below.refl _ _ | refine Below.setCell ?_ (by simp; try omega) _ | refine below_al ?_ _ | refine Below.alloc ?_ (by simp [World.setCell]; try omega) _ | refine below_drewN ?_ _ | refine Below.drew ?_ | refine below_tr ?_ ‹Below _ _ _›)))).mono ?_
        rintro e w10 ⟨rfl, b10⟩
        have P0_10 := P0_9.to b10; clear P0_9
        have P1_10 := P1_9.to b10; clear P1_9
        have X0_10 := X0_9.to b10; clear X0_9
        have X1_10 := X1_9n.to b10; clear X1_9n
        have RA0_10 := Lib.hid (RA0_9.out.below b10); clear RA0_9
        have RA1_10 := Lib.hid (RA1_9.out.below b10); clear RA1_9
        have RA2_10 := Lib.hid (RA2_9.out.below b10); clear RA2_9
        have Rx0_10 := Lib.hid (Rx0_9.out.below b10); clear Rx0_9
        have Rx1_10 := Lib.hid (Rx1_9.out.below b10); clear Rx1_9
        have Rx2_10 := Lib.hid (r9h.out.below b10); clear r9h
        have S10 : Below w.heap.size w w10 := below_tr S9 b10
        have Z10 := Lib.hid (b10.size)
        go_wp2_with fail
        go_region_held3 (fun w' => Box2 w' w.heap.size (.slice A1_0 x0.arrays.length c1_0) (.slice A2_0 x0.parts.length c2_0) ∧ Box2 w' w7.heap.size (.slice A1_7 x0.arrays.length c1_7) (.slice A2_7 x0.parts.length c2_7)) (first | exact ⟨P0_10, X0_10⟩ | exact ⟨P0_10.to (of_drew b11), X0_10.to (of_drew b11)⟩ | exact ⟨(P0_10.to (of_drew b11)).to b12, (X0_10.to (of_drew b11)).to b12⟩ | skip)
          (first | (go_at_call 13; refine (toProgram_m (RA0_10.out.below (Below.refl _ _).drew) HN0.out).mono ?_; rintro e w11 ⟨A1_11, c1_11, A2_11, c2_11, bs11, rfl, r11, nd11, hb11, b11⟩) | (go_at_call 15; refine (eqProgram_c (Rx0_10.out.below (of_drew b11)) r11).mono ?_; rintro e w12 ⟨rfl, b12⟩))
        have t12 : Below w10.heap.size w10 w12 := below_tr (of_drew b11) b12
        clear b11 b12 r11 hb11 nd11
        have P0_12 := P0_10.to t12; clear P0_10
        have P1_12 := P1_10.to t12; clear P1_10
        have X0_12 := X0_10.to t12; clear X0_10
        have X1_12 := X1_10.to t12; clear X1_10
        have RA0_12 := Lib.hid (RA0_10.out.below t12); clear RA0_10
        have RA1_12 := Lib.hid (RA1_10.out.below t12); clear RA1_10
        have RA2_12 := Lib.hid (RA2_10.out.below t12); clear RA2_10
        have Rx0_12 := Lib.hid (Rx0_10.out.below t12); clear Rx0_10
        have Rx1_12 := Lib.hid (Rx1_10.out.below t12); clear Rx1_10
        have Rx2_12 := Lib.hid (Rx2_10.out.below t12); clear Rx2_10
        have S12 : Below w.heap.size w w12 := below_tr S10 t12
        have Z12 := Lib.hid (t12.size)
        go_wp2_with fail
        go_region_held3 (fun w' => Box2 w' (w.heap.size + 1) (.string x1.arr) (.slice A2_1 x1.subs.length c2_1) ∧ Box2 w' w8.heap.size (.string x1.arr) (.slice A2_8 x1.subs.length c2_8)) (first | exact ⟨P1_12, X1_12⟩ | exact ⟨P1_12.to (of_drew b13), X1_12.to (of_drew b13)⟩ | exact ⟨(P1_12.to (of_drew b13)).to b14, (X1_12.to (of_drew b13)).to b14⟩ | skip)
          (first | (go_at_call 18; refine (toAccess_m (RA1_12.out.below (Below.refl _ _).drew) HN1.out).mono ?_; rintro e w13 ⟨A2_13, c2_13, bs13, rfl, r13, nd13, hb13, b13⟩) | (go_at_call 21; refine (eqAccess_c (Rx1_12.out.below (of_drew b13)) r13).mono ?_; rintro e w14 ⟨rfl, b14⟩))
        have t14 : Below w12.heap.size w12 w14 := below_tr (of_drew b13) b14
        clear b13 b14 r13 hb13 nd13
        have P0_14 := P0_12.to t14; clear P0_12
        have P1_14 := P1_12.to t14; clear P1_12
        have X0_14 := X0_12.to t14; clear X0_12
        have X1_14 := X1_12.to t14; clear X1_12
        have RA0_14 := Lib.hid (RA0_12.out.below t14); clear RA0_12
        have RA1_14 := Lib.hid (RA1_12.out.below t14); clear RA1_12
        have RA2_14 := Lib.hid (RA2_12.out.below t14); clear RA2_12
        have Rx0_14 := Lib.hid (Rx0_12.out.below t14); clear Rx0_12
        have Rx1_14 := Lib.hid (Rx1_12.out.below t14); clear Rx1_12
        have Rx2_14 := Lib.hid (Rx2_12.out.below t14); clear Rx2_12
        have S14 : Below w.heap.size w w14 := below_tr S12 t14
        have Z14 := Lib.hid (t14.size)
        go_wp2_with fail
        refine (toIntS_m (RA2_14.out.below (by repeat (first | with_reducible exact Below.refl _ _ | refine Below.setCell ?_ (by simp; try omega) _ | refine below_al ?_ _ | refine Below.alloc ?_ (by simp [World.setCell]; try omega) _ | refine below_drewN ?_ _ | refine Below.drew ?_ | refine below_tr ?_ ‹Below _ _ _›))) HN2.out).mono ?_
        rintro e w15 ⟨A15, n15, c15, bs15, rfl, r15, nd15, hb15, b15⟩
        have Ty2 := Lib.hid (show ∀ y ∈ bs15, w14.heap.size + 0 ≤ y ∧ y < w15.heap.size from fun y hy => ⟨by have := hb15 y hy; (try simp at this); omega, Rep.lt _ r15 y hy⟩)
        have P0_15 := P0_14.to b15; clear P0_14
        have P1_15 := P1_14.to b15; clear P1_14
        have X0_15 := X0_14.to b15; clear X0_14
        have X1_15 := X1_14.to b15; clear X1_14
        have RA0_15 := Lib.hid (RA0_14.out.below b15); clear RA0_14
        have RA1_15 := Lib.hid (RA1_14.out.below b15); clear RA1_14
        have RA2_15 := Lib.hid (RA2_14.out.below b15); clear RA2_14
        have Rx0_15 := Lib.hid (Rx0_14.out.below b15); clear Rx0_14
        have Rx1_15 := Lib.hid (Rx1_14.out.below b15); clear Rx1_14
        have Rx2_15 := Lib.hid (Rx2_14.out.below b15); clear Rx2_14
        have S15 : Below w.heap.size w w15 := below_tr S14 b15
        have Z15 := Lib.hid (b15.size)
        have r15h := Lib.hid r15; clear r15 hb15
        go_wp2_with fail
        refine (eqIntS_b (Rx2_15.out.below (by repeat (first | with_reducible exact Below.refl _ _ | refine Below.setCell ?_ (by simp; try omega) _ | refine below_al ?_ _ | refine Below.alloc ?_ (by simp [World.setCell]; try omega) _ | refine below_drewN ?_ _ | refine Below.drew ?_ | refine below_tr ?_ ‹Below _ _ _›))) (r15h.out.below (by repeat (first | with_reducible exact Below.refl _ _ | refine Below.setCell ?_ (by simp; try omega) _ | refine below_al ?_ _ | refine Below.alloc ?_ (by simp [World.setCell]; try omega) _ | refine below_drewN ?_ _ | refine Below.drew ?_ | refine below_tr ?_ ‹Below _ _ _›)))).mono ?_
        rintro e w16 ⟨rfl, b16⟩
        have P0_16 := P0_15.to b16; clear P0_15
        have P1_16 := P1_15.to b16; clear P1_15
        have X0_16 := X0_15.to b16; clear X0_15
        have X1_16 := X1_15.to b16; clear X1_15
        have RA0_16 := Lib.hid (RA0_15.out.below b16); clear RA0_15
        have RA1_16 := Lib.hid (RA1_15.out.below b16); clear RA1_15
        have RA2_16 := Lib.hid (RA2_15.out.below b16); clear RA2_15
        have Rx0_16 := Lib.hid (Rx0_15.out.below b16); clear Rx0_15
        have Rx1_16 := Lib.hid (Rx1_15.out.below b16); clear Rx1_15
        have Rx2_16 := Lib.hid (Rx2_15.out.below b16); clear Rx2_15
        have Ry2_16 := Lib.hid (r15h.out.below b16); clear r15h
        have S16 : Below w.heap.size w w16 := below_tr S15 b16
        have Z16 := Lib.hid (b16.size)
        go_wp2
        go_ret
        exact ⟨rfl, S16⟩
end Go.Proofs.YtaomlianiehkgaaGreat
