/- The law FnExactProgramSame: its walk. Printed by lawgen.py. -/
import Derived.Test.YtlllidhmohdgiaaLaw
import Derived.Test.YtlllidhmohdgiaaProgSame
set_option linter.all false
set_option linter.unusedSimpArgs false
set_option linter.unusedVariables false
namespace Go.Proofs.Ytlllidhmohdgiaa
open Go.ChangeShapes Go.WideShapes Go.ChangeAt Go.RowKit Go.Deep

set_option maxRecDepth 100000 in
set_option maxHeartbeats 2000000 in
theorem FnExactProgramSame_walk {w : World} {x0 : Pgm} {A1_0 : Option Addr} {c1_0 : Nat} {A2_0 : Option Addr} {c2_0 : Nat} {bs0 : List Nat} {x1 : Pgm} {A1_1 : Option Addr} {c1_1 : Nat} {A2_1 : Option Addr} {c2_1 : Nat} {bs1 : List Nat} (h0 : Rep w x0.d [.slice A1_0 x0.arrays.length c1_0, .slice A2_0 x0.parts.length c2_0] bs0) (h1 : Rep w x1.d [.slice A1_1 x1.arrays.length c1_1, .slice A2_1 x1.parts.length c2_1] bs1) :
    Calls Try.prog 13 #[.agg #[.slice A1_0 x0.arrays.length c1_0, .slice A2_0 x0.parts.length c2_0], .agg #[.slice A1_1 x1.arrays.length c1_1, .slice A2_1 x1.parts.length c2_1]] w fun e w' => e = .returned (.bool true) ∧ Below w.heap.size w w' := by
  have H0 := Lib.hid h0; clear h0
  have H1 := Lib.hid h1; clear h1
  by_cases hs0 : (1048576 : Int) - ((szD x0.d : Nat) : Int) < 0
  · have HS0 := Lib.hid (szR_neg hs0)
    go_enter Try.func13, Try.ntmps13
    go_wp2_with fail
    refine (szProgram_t (H0.out.below (by repeat (first | with_reducible exact Below.refl _ _ | refine Below.setCell ?_ (by simp; try omega) _ | refine below_al ?_ _ | refine Below.alloc ?_ (by simp [World.setCell]; try omega) _ | refine below_drewN ?_ _ | refine Below.drew ?_ | refine below_tr ?_ ‹Below _ _ _›))) (by omega) (by omega)).mono ?_
    rintro e v1 ⟨rfl, bv1⟩
    rw [HS0.out]
    go_wp2
    go_ret
    exact ⟨rfl, (by repeat (first | with_reducible exact Below.refl _ _ | refine Below.setCell ?_ (by simp; try omega) _ | refine below_al ?_ _ | refine Below.alloc ?_ (by simp [World.setCell]; try omega) _ | refine below_drewN ?_ _ | refine Below.drew ?_ | refine below_tr ?_ ‹Below _ _ _›))⟩
  · have HS0 := Lib.hid (szR_pos (left := 1048576) (tot := szD x0.d) (by omega))
    have HN0 := Lib.hid (show szD x0.d ≤ 1048576 by omega)
    have hl0 : 0 ≤ (1048576 : Int) - ((szD x0.d : Nat) : Int) := by omega
    clear hs0
    by_cases hs1 : ((1048576 - ((szD x0.d : Nat) : Int)) : Int) - ((szD x1.d : Nat) : Int) < 0
    · have HS1 := Lib.hid (szR_neg hs1)
      go_enter Try.func13, Try.ntmps13
      go_wp2_with fail
      refine (szProgram_t (H0.out.below (by repeat (first | with_reducible exact Below.refl _ _ | refine Below.setCell ?_ (by simp; try omega) _ | refine below_al ?_ _ | refine Below.alloc ?_ (by simp [World.setCell]; try omega) _ | refine below_drewN ?_ _ | refine Below.drew ?_ | refine below_tr ?_ ‹Below _ _ _›))) (by omega) (by omega)).mono ?_
      rintro e v1 ⟨rfl, bv1⟩
      rw [HS0.out]
      have Pv0 : Box2 v1 w.heap.size (.slice A1_0 x0.arrays.length c1_0) (.slice A2_0 x0.parts.length c2_0) := by
        refine ⟨?_, ?_⟩ <;> (rw [bv1.cell (by simp; try omega)]; go_simp)
      have Pv1 : Box2 v1 (w.heap.size + 1) (.slice A1_1 x1.arrays.length c1_1) (.slice A2_1 x1.parts.length c2_1) := by
        refine ⟨?_, ?_⟩ <;> (rw [bv1.cell (by simp; try omega)]; go_simp)
      have Sv1 : Below w.heap.size w v1 := (by repeat (first | with_reducible exact Below.refl _ _ | refine Below.setCell ?_ (by simp; try omega) _ | refine below_al ?_ _ | refine Below.alloc ?_ (by simp [World.setCell]; try omega) _ | refine below_drewN ?_ _ | refine Below.drew ?_ | refine below_tr ?_ ‹Below _ _ _›))
      go_wp2_with fail
      refine (szProgram_t (H1.out.below (by repeat (first | with_reducible exact Below.refl _ _ | refine Below.setCell ?_ (by simp; try omega) _ | refine below_al ?_ _ | refine Below.alloc ?_ (by simp [World.setCell]; try omega) _ | refine below_drewN ?_ _ | refine Below.drew ?_ | refine below_tr ?_ ‹Below _ _ _›))) (by omega) (by omega)).mono ?_
      rintro e v2 ⟨rfl, bv2⟩
      rw [HS1.out]
      go_wp2
      go_ret
      exact ⟨rfl, (by repeat (first | with_reducible exact Below.refl _ _ | refine Below.setCell ?_ (by simp; try omega) _ | refine below_al ?_ _ | refine Below.alloc ?_ (by simp [World.setCell]; try omega) _ | refine below_drewN ?_ _ | refine Below.drew ?_ | refine below_tr ?_ ‹Below _ _ _›))⟩
    · have HS1 := Lib.hid (szR_pos (left := (1048576 - ((szD x0.d : Nat) : Int))) (tot := szD x1.d) (by omega))
      have HN1 := Lib.hid (show szD x1.d ≤ 1048576 by omega)
      have hl1 : 0 ≤ ((1048576 - ((szD x0.d : Nat) : Int)) : Int) - ((szD x1.d : Nat) : Int) := by omega
      clear hs1
      have hq0 : ((ProgramSameF x0 x1) != (ProgramSameF x0 x1)) = false := by simp
      go_enter Try.func13, Try.ntmps13
      have TA0 := Lib.hid (Rep.lt _ H0.out)
      have TA1 := Lib.hid (Rep.lt _ H1.out)
      go_wp2_with fail
      refine (szProgram_t (H0.out.below (by repeat (first | with_reducible exact Below.refl _ _ | refine Below.setCell ?_ (by simp; try omega) _ | refine below_al ?_ _ | refine Below.alloc ?_ (by simp [World.setCell]; try omega) _ | refine below_drewN ?_ _ | refine Below.drew ?_ | refine below_tr ?_ ‹Below _ _ _›))) (by omega) (by omega)).mono ?_
      rintro e w1 ⟨rfl, b1⟩
      rw [HS0.out]
      have P0_1n : Box2 w1 w.heap.size (.slice A1_0 x0.arrays.length c1_0) (.slice A2_0 x0.parts.length c2_0) := by
        refine ⟨?_, ?_⟩ <;> (rw [(b1).cell (by simp; try omega)]; go_simp)
      have P1_1n : Box2 w1 (w.heap.size + 1) (.slice A1_1 x1.arrays.length c1_1) (.slice A2_1 x1.parts.length c2_1) := by
        refine ⟨?_, ?_⟩ <;> (rw [(b1).cell (by simp; try omega)]; go_simp)
      have s1 : Below w.heap.size w w1 := (by repeat (first | with_reducible exact Below.refl _ _ | refine Below.setCell ?_ (by simp; try omega) _ | refine below_al ?_ _ | refine Below.alloc ?_ (by simp [World.setCell]; try omega) _ | refine below_drewN ?_ _ | refine Below.drew ?_ | refine below_tr ?_ ‹Below _ _ _›))
      have RA0_1 := Lib.hid (H0.out.below s1); clear H0
      have RA1_1 := Lib.hid (H1.out.below s1); clear H1
      have S1 : Below w.heap.size w w1 := s1
      have Z1 := Lib.hid (s1.size)
      have LP0 := Lib.hid (lt_of_cell P0_1n.1)
      have LP1 := Lib.hid (lt_of_cell P1_1n.1)
      go_wp2_with fail
      refine (szProgram_t (RA1_1.out.below (by repeat (first | with_reducible exact Below.refl _ _ | refine Below.setCell ?_ (by simp; try omega) _ | refine below_al ?_ _ | refine Below.alloc ?_ (by simp [World.setCell]; try omega) _ | refine below_drewN ?_ _ | refine Below.drew ?_ | refine below_tr ?_ ‹Below _ _ _›))) (by omega) (by omega)).mono ?_
      rintro e w2 ⟨rfl, b2⟩
      rw [HS1.out]
      have P0_2 := P0_1n.to b2; clear P0_1n
      have P1_2 := P1_1n.to b2; clear P1_1n
      have RA0_2 := Lib.hid (RA0_1.out.below b2); clear RA0_1
      have RA1_2 := Lib.hid (RA1_1.out.below b2); clear RA1_1
      have S2 : Below w.heap.size w w2 := below_tr S1 b2
      have Z2 := Lib.hid (b2.size)
      go_wp2_with fail
      go_region_held3 (fun w' => Box2 w' w.heap.size (.slice A1_0 x0.arrays.length c1_0) (.slice A2_0 x0.parts.length c2_0) ∧ Box2 w' (w.heap.size + 1) (.slice A1_1 x1.arrays.length c1_1) (.slice A2_1 x1.parts.length c2_1)) (first | exact ⟨P0_2, P1_2⟩ | exact ⟨(P0_2.to (of_drew b3)), (P1_2.to (of_drew b3))⟩ | exact ⟨((P0_2.to (of_drew b3)).to b4), ((P1_2.to (of_drew b3)).to b4)⟩ | exact ⟨(((P0_2.to (of_drew b3)).to b4).to b5), (((P1_2.to (of_drew b3)).to b4).to b5)⟩ | skip)
        (first | (go_at_call_of 53 (Value.agg #[.slice A1_0 x0.arrays.length c1_0, .slice A2_0 x0.parts.length c2_0]); refine (toProgram_m (RA0_2.out.below (Below.refl _ _).drew) HN0.out).mono ?_; rintro e w3 ⟨A1_3, c1_3, A2_3, c2_3, bs3, rfl, r3, nd3, hb3, b3⟩) | (go_at_call_of 53 (Value.agg #[.slice A1_1 x1.arrays.length c1_1, .slice A2_1 x1.parts.length c2_1]); refine (toProgram_m (RA1_2.out.below (of_drew b3)) HN1.out).mono ?_; rintro e w4 ⟨A1_4, c1_4, A2_4, c2_4, bs4, rfl, r4, nd4, hb4, b4⟩) | (go_at_call 52; refine (specProgramSame_c (r3.below b4) r4).mono ?_; rintro e w5 ⟨rfl, b5⟩))
      have t5 : Below w2.heap.size w2 w5 := (below_tr (below_tr (of_drew b3) b4) b5)
      clear b3 b4 b5 r3 hb3 nd3 r4 hb4 nd4
      have P0_5 := P0_2.to t5; clear P0_2
      have P1_5 := P1_2.to t5; clear P1_2
      have RA0_5 := Lib.hid (RA0_2.out.below t5); clear RA0_2
      have RA1_5 := Lib.hid (RA1_2.out.below t5); clear RA1_2
      have S5 : Below w.heap.size w w5 := below_tr S2 t5
      have Z5 := Lib.hid (t5.size)
      go_wp2_with fail
      refine (toProgram_m (RA0_5.out.below (by repeat (first | with_reducible exact Below.refl _ _ | refine Below.setCell ?_ (by simp; try omega) _ | refine below_al ?_ _ | refine Below.alloc ?_ (by simp [World.setCell]; try omega) _ | refine below_drewN ?_ _ | refine Below.drew ?_ | refine below_tr ?_ ‹Below _ _ _›))) HN0.out).mono ?_
      rintro e w6 ⟨A1_6, c1_6, A2_6, c2_6, bs6, rfl, r6, nd6, hb6, b6⟩
      have Tx0 := Lib.hid (show ∀ y ∈ bs6, w5.heap.size + 0 ≤ y ∧ y < w6.heap.size from fun y hy => ⟨by have := hb6 y hy; (try simp at this); omega, Rep.lt _ r6 y hy⟩)
      have P0_6 := P0_5.to b6; clear P0_5
      have P1_6 := P1_5.to b6; clear P1_5
      have RA0_6 := Lib.hid (RA0_5.out.below b6); clear RA0_5
      have RA1_6 := Lib.hid (RA1_5.out.below b6); clear RA1_5
      have S6 : Below w.heap.size w w6 := below_tr S5 b6
      have Z6 := Lib.hid (b6.size)
      have r6h := Lib.hid r6; clear r6 hb6
      have ltP0_6 := lt_of_cell P0_6.1
      have ltP1_6 := lt_of_cell P1_6.1
      go_wp2_with fail
      refine (toProgram_m (RA1_6.out.below (by repeat (first | with_reducible exact Below.refl _ _ | refine Below.setCell ?_ (by simp; try omega) _ | refine below_al ?_ _ | refine Below.alloc ?_ (by simp [World.setCell]; try omega) _ | refine below_drewN ?_ _ | refine Below.drew ?_ | refine below_tr ?_ ‹Below _ _ _›))) HN1.out).mono ?_
      rintro e w7 ⟨A1_7, c1_7, A2_7, c2_7, bs7, rfl, r7, nd7, hb7, b7⟩
      have Tx1 := Lib.hid (show ∀ y ∈ bs7, w6.heap.size + 1 ≤ y ∧ y < w7.heap.size from fun y hy => ⟨by have := hb7 y hy; (try simp at this); omega, Rep.lt _ r7 y hy⟩)
      have X0_7n := (Box2.new w6 _ _ _).to b7
      have s7 : Below w6.heap.size w6 w7 := (by repeat (first | with_reducible exact Below.refl _ _ | refine Below.setCell ?_ (by simp; try omega) _ | refine below_al ?_ _ | refine Below.alloc ?_ (by simp [World.setCell]; try omega) _ | refine below_drewN ?_ _ | refine Below.drew ?_ | refine below_tr ?_ ‹Below _ _ _›))
      have P0_7 := P0_6.to s7; clear P0_6
      have P1_7 := P1_6.to s7; clear P1_6
      have RA0_7 := Lib.hid (RA0_6.out.below s7); clear RA0_6
      have RA1_7 := Lib.hid (RA1_6.out.below s7); clear RA1_6
      have Rx0_7 := Lib.hid (r6h.out.below s7); clear r6h
      have S7 : Below w.heap.size w w7 := below_tr S6 s7
      have Z7 := Lib.hid (s7.size)
      have LX0 := Lib.hid (lt_of_cell X0_7n.1)
      have r7h := Lib.hid r7; clear r7 hb7
      have ltP0_7 := lt_of_cell P0_7.1
      have ltP1_7 := lt_of_cell P1_7.1
      have ltX0_7n := lt_of_cell X0_7n.1
      go_wp2_with fail
      refine (implProgramSame_c (Rx0_7.out.below (by repeat (first | with_reducible exact Below.refl _ _ | refine Below.setCell ?_ (by simp; try omega) _ | refine below_al ?_ _ | refine Below.alloc ?_ (by simp [World.setCell]; try omega) _ | refine below_drewN ?_ _ | refine Below.drew ?_ | refine below_tr ?_ ‹Below _ _ _›))) (r7h.out.below (by repeat (first | with_reducible exact Below.refl _ _ | refine Below.setCell ?_ (by simp; try omega) _ | refine below_al ?_ _ | refine Below.alloc ?_ (by simp [World.setCell]; try omega) _ | refine below_drewN ?_ _ | refine Below.drew ?_ | refine below_tr ?_ ‹Below _ _ _›)))).mono ?_
      rintro e w8 ⟨rfl, b8⟩
      have X1_8n := (Box2.new w7 _ _ _).to b8
      have s8 : Below w7.heap.size w7 w8 := (by repeat (first | with_reducible exact Below.refl _ _ | refine Below.setCell ?_ (by simp; try omega) _ | refine below_al ?_ _ | refine Below.alloc ?_ (by simp [World.setCell]; try omega) _ | refine below_drewN ?_ _ | refine Below.drew ?_ | refine below_tr ?_ ‹Below _ _ _›))
      have P0_8 := P0_7.to s8; clear P0_7
      have P1_8 := P1_7.to s8; clear P1_7
      have X0_8 := X0_7n.to s8; clear X0_7n
      have RA0_8 := Lib.hid (RA0_7.out.below s8); clear RA0_7
      have RA1_8 := Lib.hid (RA1_7.out.below s8); clear RA1_7
      have Rx0_8 := Lib.hid (Rx0_7.out.below s8); clear Rx0_7
      have Rx1_8 := Lib.hid (r7h.out.below s8); clear r7h
      have S8 : Below w.heap.size w w8 := below_tr S7 s8
      have Z8 := Lib.hid (s8.size)
      have LX1 := Lib.hid (lt_of_cell X1_8n.1)
      go_wp2_with fail
      go_region_held3 (fun w' => Box2 w' w.heap.size (.slice A1_0 x0.arrays.length c1_0) (.slice A2_0 x0.parts.length c2_0) ∧ Box2 w' w6.heap.size (.slice A1_6 x0.arrays.length c1_6) (.slice A2_6 x0.parts.length c2_6)) (first | exact ⟨P0_8, X0_8⟩ | exact ⟨P0_8.to (of_drew b9), X0_8.to (of_drew b9)⟩ | exact ⟨(P0_8.to (of_drew b9)).to b10, (X0_8.to (of_drew b9)).to b10⟩ | skip)
        (first | (go_at_call 53; refine (toProgram_m (RA0_8.out.below (Below.refl _ _).drew) HN0.out).mono ?_; rintro e w9 ⟨A1_9, c1_9, A2_9, c2_9, bs9, rfl, r9, nd9, hb9, b9⟩) | (go_at_call 55; refine (eqProgram_c (Rx0_8.out.below (of_drew b9)) r9).mono ?_; rintro e w10 ⟨rfl, b10⟩))
      have t10 : Below w8.heap.size w8 w10 := below_tr (of_drew b9) b10
      clear b9 b10 r9 hb9 nd9
      have P0_10 := P0_8.to t10; clear P0_8
      have P1_10 := P1_8.to t10; clear P1_8
      have X0_10 := X0_8.to t10; clear X0_8
      have X1_10 := X1_8n.to t10; clear X1_8n
      have RA0_10 := Lib.hid (RA0_8.out.below t10); clear RA0_8
      have RA1_10 := Lib.hid (RA1_8.out.below t10); clear RA1_8
      have Rx0_10 := Lib.hid (Rx0_8.out.below t10); clear Rx0_8
      have Rx1_10 := Lib.hid (Rx1_8.out.below t10); clear Rx1_8
      have S10 : Below w.heap.size w w10 := below_tr S8 t10
      have Z10 := Lib.hid (t10.size)
      go_wp2_with fail
      go_region_held3 (fun w' => Box2 w' (w.heap.size + 1) (.slice A1_1 x1.arrays.length c1_1) (.slice A2_1 x1.parts.length c2_1) ∧ Box2 w' w7.heap.size (.slice A1_7 x1.arrays.length c1_7) (.slice A2_7 x1.parts.length c2_7)) (first | exact ⟨P1_10, X1_10⟩ | exact ⟨P1_10.to (of_drew b11), X1_10.to (of_drew b11)⟩ | exact ⟨(P1_10.to (of_drew b11)).to b12, (X1_10.to (of_drew b11)).to b12⟩ | skip)
        (first | (go_at_call 53; refine (toProgram_m (RA1_10.out.below (Below.refl _ _).drew) HN1.out).mono ?_; rintro e w11 ⟨A1_11, c1_11, A2_11, c2_11, bs11, rfl, r11, nd11, hb11, b11⟩) | (go_at_call 55; refine (eqProgram_c (Rx1_10.out.below (of_drew b11)) r11).mono ?_; rintro e w12 ⟨rfl, b12⟩))
      have t12 : Below w10.heap.size w10 w12 := below_tr (of_drew b11) b12
      clear b11 b12 r11 hb11 nd11
      have P0_12 := P0_10.to t12; clear P0_10
      have P1_12 := P1_10.to t12; clear P1_10
      have X0_12 := X0_10.to t12; clear X0_10
      have X1_12 := X1_10.to t12; clear X1_10
      have RA0_12 := Lib.hid (RA0_10.out.below t12); clear RA0_10
      have RA1_12 := Lib.hid (RA1_10.out.below t12); clear RA1_10
      have Rx0_12 := Lib.hid (Rx0_10.out.below t12); clear Rx0_10
      have Rx1_12 := Lib.hid (Rx1_10.out.below t12); clear Rx1_10
      have S12 : Below w.heap.size w w12 := below_tr S10 t12
      have Z12 := Lib.hid (t12.size)
      go_wp2
      go_ret
      exact ⟨rfl, S12⟩
end Go.Proofs.Ytlllidhmohdgiaa
