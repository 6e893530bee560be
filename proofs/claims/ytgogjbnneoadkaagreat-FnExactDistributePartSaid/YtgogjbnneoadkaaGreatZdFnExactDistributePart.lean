/- Proved: whatever its arguments, the law FnExactDistributePart returns true and its arguments read afterwards as before: the program's DistributePart returns what the reference's DistributePart returns. No conditions. -/
import Derived.Test.YtgogjbnneoadkaaGreatZdLaw
import Derived.Test.YtgogjbnneoadkaaGreatZdBasic
import Derived.Test.YtgogjbnneoadkaaGreatZdDistP
import Derived.Test.YtgogjbnneoadkaaGreatZdDistL
import Derived.Test.YtgogjbnneoadkaaGreatZdCntP
import Derived.Test.YtgogjbnneoadkaaGreatRows
import Derived.Test.YtgogjbnneoadkaaGreatChecked
import Derived.ProofKit
import Derived.JoinedOf
import Derived.Test.YtgogjbnneoadkaaGreatZdSqAffine
import Derived.Test.YtgogjbnneoadkaaGreatZdTyLoop
import Derived.Test.YtgogjbnneoadkaaGreatZdTyAccess
import Derived.Test.YtgogjbnneoadkaaGreatZdTyExpr
import Derived.Test.YtgogjbnneoadkaaGreatZdTyStmt
import Derived.Test.YtgogjbnneoadkaaGreatZdTyArray
import Derived.Test.YtgogjbnneoadkaaGreatZdTyPart
import Derived.Test.YtgogjbnneoadkaaGreatZdPgF
set_option linter.all false
set_option maxHeartbeats 2000000
set_option maxRecDepth 100000
namespace Go.Proofs.YtgogjbnneoadkaaGreat
open Go.ChangeShapes Go.WideShapes Go.ChangeAt Go.RowKit Go.Deep
theorem DistributePartF_len (p : Pgm) (k m : Int) : (DistributePartF p k m).1.cntM ≤ 1000000 := by
 unfold DistributePartF
 split
 ·split
  ·decide
  ·exact finF_len _
 ·decide
theorem FnExactDistributePart_walk {w : World} {x0 : Pgm} {A1_0 : Option Addr} {c1_0 : Nat} {A2_0 : Option Addr} {c2_0 : Nat} {bs0 : List Nat} {x1 : Int} {x2 : Int} (h0 : Rep w x0.d [.slice A1_0 x0.arrays.length c1_0, .slice A2_0 x0.parts.length c2_0] bs0) :
  Calls Tryz.prog 4 #[.agg #[.slice A1_0 x0.arrays.length c1_0, .slice A2_0 x0.parts.length c2_0], .int .i64 x1, .int .i64 x2] w fun e w' => e = .returned (.bool true) ∧ Below w.heap.size w w' := by
 have H0 := Lib.hid h0; clear h0
 by_cases hs0 : (1048576 : Int) - ((szD x0.d : Nat) : Int) < 0
 ·have HS0 := Lib.hid (szR_neg hs0)
  go_enter Tryz.func4, Tryz.ntmps4
  go_wp2_with fail
  refine (szProgram_t (H0.out.below bel) (by omega) (by omega)).mono ?_
  rintro e v1 ⟨rfl, bv1⟩
  rw [HS0.out]
  go_wp2
  go_ret
  exact ⟨rfl, bel⟩
 ·have HS0 := Lib.hid (szR_pos (left := 1048576) (tot := szD x0.d) (by omega))
  have HN0 := Lib.hid (show szD x0.d ≤ 1048576 by omega)
  have hl0 : 0 ≤ (1048576 : Int) - ((szD x0.d : Nat) : Int) := by omega
  clear hs0
  have hq1 : ((DistributePartF x0 x1 x2).2 != (DistributePartF x0 x1 x2).2) = false := by simp
  have HL := Lib.hid (DistributePartF_len x0 x1 x2)
  go_enter Tryz.func4, Tryz.ntmps4
  have TA0 := Lib.hid (Rep.lt _ H0.out)
  go_wp2_with fail
  refine (szProgram_t (H0.out.below bel) (by omega) (by omega)).mono ?_
  rintro e w1 ⟨rfl, b1⟩
  rw [HS0.out]
  have P0_1n := (Box2.new w _ _ _).to b1
  have s1 : Below w.heap.size w w1 := bel
  have RA0_1 := Lib.hid (H0.out.below s1); clear H0
  have S1 : Below w.heap.size w w1 := s1
  have Z1 := Lib.hid (s1.size)
  have LP0 := Lib.hid (lt_of_cell P0_1n.1)
  go_wp2_with fail
  refine (toProgram_m (RA0_1.out.below bel) HN0.out).mono ?_
  rintro e w2 ⟨A1_2, c1_2, A2_2, c2_2, bs2, rfl, r2, nd2, hb2, b2⟩
  have Tc0 := Lib.hid (show ∀ y ∈ bs2, w1.heap.size + 0 ≤ y ∧ y < w2.heap.size from fun y hy => ⟨by have := hb2 y hy; (try simp at this); omega, Rep.lt _ r2 y hy⟩)
  have P0_2 := P0_1n.to b2; clear P0_1n
  have RA0_2 := Lib.hid (RA0_1.out.below b2); clear RA0_1
  have S2 : Below w.heap.size w w2 := below_tr S1 b2
  have Z2 := Lib.hid (b2.size)
  have r2h := Lib.hid r2; clear r2 hb2
  clear nd2
  go_wp2_with fail
  refine (specDistributePart_c (r2h.out.below bel) HN0.out).mono ?_
  rintro e w3 ⟨A1_3, c1_3, A2_3, c2_3, bs3, rfl, r3, nd3, hb3, b3⟩
  have Tw0 := Lib.hid (show ∀ y ∈ bs3, y < w3.heap.size from Rep.lt _ r3)
  have P0_3 := P0_2.to b3; clear P0_2
  have RA0_3 := Lib.hid (RA0_2.out.below b3); clear RA0_2
  have Rc0_3 := Lib.hid (r2h.out.below b3); clear r2h
  have S3 : Below w.heap.size w w3 := below_tr S2 b3
  have Z3 := Lib.hid (b3.size)
  have r3h := Lib.hid r3; clear r3 hb3 nd3
  have ltP0_3 := lt_of_cell P0_3.1
  go_wp2_with fail
  refine (toProgram_m (RA0_3.out.below bel) HN0.out).mono ?_
  rintro e w4 ⟨A1_4, c1_4, A2_4, c2_4, bs4, rfl, r4, nd4, hb4, b4⟩
  have Tx0 := Lib.hid (show ∀ y ∈ bs4, w3.heap.size + 1 ≤ y ∧ y < w4.heap.size from fun y hy => ⟨by have := hb4 y hy; (try simp at this); omega, Rep.lt _ r4 y hy⟩)
  have W0_4n := (Box2.new w3 _ _ _).to b4
  have s4 : Below w3.heap.size w3 w4 := bel
  have P0_4 := P0_3.to s4; clear P0_3
  have RA0_4 := Lib.hid (RA0_3.out.below s4); clear RA0_3
  have Rw0_4 := Lib.hid (r3h.out.below s4); clear r3h
  have S4 : Below w.heap.size w w4 := below_tr S3 s4
  have Z4 := Lib.hid (s4.size)
  have LW0 := Lib.hid (lt_of_cell W0_4n.1)
  have r4h := Lib.hid r4; clear r4 hb4
  have ltP0_4 := lt_of_cell P0_4.1
  have ltW0_4n := lt_of_cell W0_4n.1
  go_wp2_with fail
  refine (implDistributePart_c (r4h.out.below bel)).mono ?_
  rintro e w5 ⟨A1_5, c1_5, A2_5, c2_5, bs5, rfl, r5, nd5, hb5, b5⟩
  have Tg0 := Lib.hid (show ∀ y ∈ bs5, w4.heap.size + 1 ≤ y ∧ y < w5.heap.size from fun y hy => ⟨by have := hb5 y hy; (try simp at this); omega, Rep.lt _ r5 y hy⟩)
  have X0_5n := (Box2.new w4 _ _ _).to b5
  have s5 : Below w4.heap.size w4 w5 := bel
  have P0_5 := P0_4.to s5; clear P0_4
  have W0_5 := W0_4n.to s5; clear W0_4n
  have RA0_5 := Lib.hid (RA0_4.out.below s5); clear RA0_4
  have Rw0_5 := Lib.hid (Rw0_4.out.below s5); clear Rw0_4
  have Rx0_5 := Lib.hid (r4h.out.below s5); clear r4h
  have S5 : Below w.heap.size w w5 := below_tr S4 s5
  have Z5 := Lib.hid (s5.size)
  have LX0 := Lib.hid (lt_of_cell X0_5n.1)
  have r5h := Lib.hid r5; clear r5 hb5
  have ltP0_5 := lt_of_cell P0_5.1
  have ltW0_5 := lt_of_cell W0_5.1
  have ltX0_5n := lt_of_cell X0_5n.1
  go_wp2_with fail
  refine (eqProgram_c (r5h.out.below bel) (Rw0_5.out.below bel)).mono ?_
  rintro e w6 ⟨rfl, b6⟩
  have G0_6n := (Box2.new w5 _ _ _).to b6
  have s6 : Below w5.heap.size w5 w6 := bel
  have P0_6 := P0_5.to s6; clear P0_5
  have W0_6 := W0_5.to s6; clear W0_5
  have X0_6 := X0_5n.to s6; clear X0_5n
  have RA0_6 := Lib.hid (RA0_5.out.below s6); clear RA0_5
  have Rw0_6 := Lib.hid (Rw0_5.out.below s6); clear Rw0_5
  have Rx0_6 := Lib.hid (Rx0_5.out.below s6); clear Rx0_5
  have Rg0_6 := Lib.hid (r5h.out.below s6); clear r5h
  have S6 : Below w.heap.size w w6 := below_tr S5 s6
  have Z6 := Lib.hid (s6.size)
  have LG0 := Lib.hid (lt_of_cell G0_6n.1)
  go_wp2_with fail
  go_region_held3 (fun w' => Box2 w' w.heap.size (.slice A1_0 x0.arrays.length c1_0) (.slice A2_0 x0.parts.length c2_0) ∧ Box2 w' w4.heap.size (.slice A1_4 x0.arrays.length c1_4) (.slice A2_4 x0.parts.length c2_4)) (first | exact ⟨P0_6, X0_6⟩ | exact ⟨P0_6.to (of_drew b7), X0_6.to (of_drew b7)⟩ | exact ⟨(P0_6.to (of_drew b7)).to b8, (X0_6.to (of_drew b7)).to b8⟩ | skip)
   (first | (go_at_call 10; refine (toProgram_m (RA0_6.out.below (Below.refl _ _).drew) HN0.out).mono ?_; rintro e w7 ⟨A1_7, c1_7, A2_7, c2_7, bs7, rfl, r7, nd7, hb7, b7⟩) | (go_at_call 12; refine (eqProgram_c (Rx0_6.out.below (of_drew b7)) r7).mono ?_; rintro e w8 ⟨rfl, b8⟩))
  have t8 : Below w6.heap.size w6 w8 := below_tr (of_drew b7) b8
  clear b7 b8 r7 hb7 nd7
  have P0_8 := P0_6.to t8; clear P0_6
  have W0_8 := W0_6.to t8; clear W0_6
  have X0_8 := X0_6.to t8; clear X0_6
  have G0_8 := G0_6n.to t8; clear G0_6n
  have RA0_8 := Lib.hid (RA0_6.out.below t8); clear RA0_6
  have Rw0_8 := Lib.hid (Rw0_6.out.below t8); clear Rw0_6
  have Rx0_8 := Lib.hid (Rx0_6.out.below t8); clear Rx0_6
  have Rg0_8 := Lib.hid (Rg0_6.out.below t8); clear Rg0_6
  have S8 : Below w.heap.size w w8 := below_tr S6 t8
  have Z8 := Lib.hid (t8.size)
  have hcnt : Pgm.cntM (DistributePartF x0 x1 x2).1 ≤ 1000000 := HL.out
  have hn0c : Pgm.cntM x0 ≤ 10000000 := by have := HN0.out; have := Pgm.cntM_le x0; omega
  go_wp2_with fail
  refine (markProgram_n Rx0_8.out nd4 (q := 1) (by omega) (by omega)).mono ?_
  rintro e w9 ⟨rfl, r9, t9⟩
  have m9h := Lib.hid r9; clear r9
  have P0_9 := t9.box2 P0_8 (fun hm => by have h1 := Tx0.out _ hm; have q0 := Z1.out; have q1 := LP0.out; have q2 := Z2.out; have q3 := Z3.out; have q4 := Z4.out; have q5 := LW0.out; have q6 := Z5.out; have q7 := LX0.out; have q8 := Z6.out; have q9 := LG0.out; have q10 := Z8.out; omega); clear P0_8
  have W0_9 := t9.box2 W0_8 (fun hm => by have h1 := Tx0.out _ hm; have q0 := Z1.out; have q1 := LP0.out; have q2 := Z2.out; have q3 := Z3.out; have q4 := Z4.out; have q5 := LW0.out; have q6 := Z5.out; have q7 := LX0.out; have q8 := Z6.out; have q9 := LG0.out; have q10 := Z8.out; omega); clear W0_8
  have X0_9 := t9.box2 X0_8 (fun hm => by have h1 := Tx0.out _ hm; have q0 := Z1.out; have q1 := LP0.out; have q2 := Z2.out; have q3 := Z3.out; have q4 := Z4.out; have q5 := LW0.out; have q6 := Z5.out; have q7 := LX0.out; have q8 := Z6.out; have q9 := LG0.out; have q10 := Z8.out; omega); clear X0_8
  have G0_9 := t9.box2 G0_8 (fun hm => by have h1 := Tx0.out _ hm; have q0 := Z1.out; have q1 := LP0.out; have q2 := Z2.out; have q3 := Z3.out; have q4 := Z4.out; have q5 := LW0.out; have q6 := Z5.out; have q7 := LX0.out; have q8 := Z6.out; have q9 := LG0.out; have q10 := Z8.out; omega); clear G0_8
  have RA0_9 := Lib.hid (Rep.keep _ RA0_8.out (t9.keeps fun y hy => ⟨Rep.lt _ RA0_8.out y hy, fun hm => by have h1 := Tx0.out y hm; have h2 := TA0.out y hy; have q0 := Z1.out; have q1 := LP0.out; have q2 := Z2.out; have q3 := Z3.out; have q4 := Z4.out; have q5 := LW0.out; have q6 := Z5.out; have q7 := LX0.out; have q8 := Z6.out; have q9 := LG0.out; have q10 := Z8.out; omega⟩)); clear RA0_8
  have Rw0_9 := Lib.hid (Rep.keep _ Rw0_8.out (t9.keeps fun y hy => ⟨Rep.lt _ Rw0_8.out y hy, fun hm => by have h1 := Tx0.out y hm; have h2 := Tw0.out y hy; have q0 := Z1.out; have q1 := LP0.out; have q2 := Z2.out; have q3 := Z3.out; have q4 := Z4.out; have q5 := LW0.out; have q6 := Z5.out; have q7 := LX0.out; have q8 := Z6.out; have q9 := LG0.out; have q10 := Z8.out; omega⟩)); clear Rw0_8
  have Rg0_9 := Lib.hid (Rep.keep _ Rg0_8.out (t9.keeps fun y hy => ⟨Rep.lt _ Rg0_8.out y hy, fun hm => by have h1 := Tx0.out y hm; have h2 := Tg0.out y hy; have q0 := Z1.out; have q1 := LP0.out; have q2 := Z2.out; have q3 := Z3.out; have q4 := Z4.out; have q5 := LW0.out; have q6 := Z5.out; have q7 := LX0.out; have q8 := Z6.out; have q9 := LG0.out; have q10 := Z8.out; omega⟩)); clear Rg0_8
  have S9 : Below w.heap.size w w9 := S8.trans (t9.below S8.size (fun y hm => by have h1 := Tx0.out y hm; have q0 := Z1.out; have q1 := LP0.out; have q2 := Z2.out; have q3 := Z3.out; have q4 := Z4.out; have q5 := LW0.out; have q6 := Z5.out; have q7 := LX0.out; have q8 := Z6.out; have q9 := LG0.out; have q10 := Z8.out; omega))
  have Z9 := Lib.hid (show w8.heap.size ≤ w9.heap.size from t9.size)
  clear t9
  go_wp2_with fail
  refine (eqProgram_c (Rg0_9.out.below bel) (Rw0_9.out.below bel)).mono ?_
  rintro e w10 ⟨rfl, b10⟩
  have P0_10 := P0_9.to b10; clear P0_9
  have W0_10 := W0_9.to b10; clear W0_9
  have X0_10 := X0_9.to b10; clear X0_9
  have G0_10 := G0_9.to b10; clear G0_9
  have RA0_10 := Lib.hid (RA0_9.out.below b10); clear RA0_9
  have Rw0_10 := Lib.hid (Rw0_9.out.below b10); clear Rw0_9
  have Rg0_10 := Lib.hid (Rg0_9.out.below b10); clear Rg0_9
  have S10 : Below w.heap.size w w10 := below_tr S9 b10
  have Z10 := Lib.hid (b10.size)
  go_wp2_with fail
  refine (markProgram_n Rg0_10.out nd5 (q := 1) (by omega) (by omega)).mono ?_
  rintro e w11 ⟨rfl, r11, t11⟩
  have m11h := Lib.hid r11; clear r11
  have P0_11 := t11.box2 P0_10 (fun hm => by have h1 := Tg0.out _ hm; have q0 := Z1.out; have q1 := LP0.out; have q2 := Z2.out; have q3 := Z3.out; have q4 := Z4.out; have q5 := LW0.out; have q6 := Z5.out; have q7 := LX0.out; have q8 := Z6.out; have q9 := LG0.out; have q10 := Z8.out; have q11 := Z9.out; have q12 := Z10.out; omega); clear P0_10
  have W0_11 := t11.box2 W0_10 (fun hm => by have h1 := Tg0.out _ hm; have q0 := Z1.out; have q1 := LP0.out; have q2 := Z2.out; have q3 := Z3.out; have q4 := Z4.out; have q5 := LW0.out; have q6 := Z5.out; have q7 := LX0.out; have q8 := Z6.out; have q9 := LG0.out; have q10 := Z8.out; have q11 := Z9.out; have q12 := Z10.out; omega); clear W0_10
  have X0_11 := t11.box2 X0_10 (fun hm => by have h1 := Tg0.out _ hm; have q0 := Z1.out; have q1 := LP0.out; have q2 := Z2.out; have q3 := Z3.out; have q4 := Z4.out; have q5 := LW0.out; have q6 := Z5.out; have q7 := LX0.out; have q8 := Z6.out; have q9 := LG0.out; have q10 := Z8.out; have q11 := Z9.out; have q12 := Z10.out; omega); clear X0_10
  have G0_11 := t11.box2 G0_10 (fun hm => by have h1 := Tg0.out _ hm; have q0 := Z1.out; have q1 := LP0.out; have q2 := Z2.out; have q3 := Z3.out; have q4 := Z4.out; have q5 := LW0.out; have q6 := Z5.out; have q7 := LX0.out; have q8 := Z6.out; have q9 := LG0.out; have q10 := Z8.out; have q11 := Z9.out; have q12 := Z10.out; omega); clear G0_10
  have RA0_11 := Lib.hid (Rep.keep _ RA0_10.out (t11.keeps fun y hy => ⟨Rep.lt _ RA0_10.out y hy, fun hm => by have h1 := Tg0.out y hm; have h2 := TA0.out y hy; have q0 := Z1.out; have q1 := LP0.out; have q2 := Z2.out; have q3 := Z3.out; have q4 := Z4.out; have q5 := LW0.out; have q6 := Z5.out; have q7 := LX0.out; have q8 := Z6.out; have q9 := LG0.out; have q10 := Z8.out; have q11 := Z9.out; have q12 := Z10.out; omega⟩)); clear RA0_10
  have Rw0_11 := Lib.hid (Rep.keep _ Rw0_10.out (t11.keeps fun y hy => ⟨Rep.lt _ Rw0_10.out y hy, fun hm => by have h1 := Tg0.out y hm; have h2 := Tw0.out y hy; have q0 := Z1.out; have q1 := LP0.out; have q2 := Z2.out; have q3 := Z3.out; have q4 := Z4.out; have q5 := LW0.out; have q6 := Z5.out; have q7 := LX0.out; have q8 := Z6.out; have q9 := LG0.out; have q10 := Z8.out; have q11 := Z9.out; have q12 := Z10.out; omega⟩)); clear Rw0_10
  have S11 : Below w.heap.size w w11 := S10.trans (t11.below S10.size (fun y hm => by have h1 := Tg0.out y hm; have q0 := Z1.out; have q1 := LP0.out; have q2 := Z2.out; have q3 := Z3.out; have q4 := Z4.out; have q5 := LW0.out; have q6 := Z5.out; have q7 := LX0.out; have q8 := Z6.out; have q9 := LG0.out; have q10 := Z8.out; have q11 := Z9.out; have q12 := Z10.out; omega))
  have Z11 := Lib.hid (show w10.heap.size ≤ w11.heap.size from t11.size)
  clear t11
  have hmq : ((1 + ((Pgm.cntM (DistributePartF x0 x1 x2).1 : Nat) : Int)) != (1 + ((Pgm.cntM (DistributePartF x0 x1 x2).1 : Nat) : Int))) = false := by simp
  go_wp2_with fail
  refine (heldProgram_n m11h.out (q := 1) (by omega) (by omega)).mono ?_
  rintro e w12 ⟨rfl, b12⟩
  have P0_12 := P0_11.to b12; clear P0_11
  have W0_12 := W0_11.to b12; clear W0_11
  have X0_12 := X0_11.to b12; clear X0_11
  have G0_12 := G0_11.to b12; clear G0_11
  have RA0_12 := Lib.hid (RA0_11.out.below b12); clear RA0_11
  have Rw0_12 := Lib.hid (Rw0_11.out.below b12); clear Rw0_11
  have Rg0_12 := Lib.hid (m11h.out.below b12); clear m11h
  have S12 : Below w.heap.size w w12 := below_tr S11 b12
  have Z12 := Lib.hid (b12.size)
  go_wp2_with fail
  refine (toProgram_m (RA0_12.out.below bel) HN0.out).mono ?_
  rintro e w13 ⟨A1_13, c1_13, A2_13, c2_13, bs13, rfl, r13, nd13, hb13, b13⟩
  have Tz0 := Lib.hid (show ∀ y ∈ bs13, w12.heap.size + 0 ≤ y ∧ y < w13.heap.size from fun y hy => ⟨by have := hb13 y hy; (try simp at this); omega, Rep.lt _ r13 y hy⟩)
  have P0_13 := P0_12.to b13; clear P0_12
  have W0_13 := W0_12.to b13; clear W0_12
  have X0_13 := X0_12.to b13; clear X0_12
  have G0_13 := G0_12.to b13; clear G0_12
  have RA0_13 := Lib.hid (RA0_12.out.below b13); clear RA0_12
  have Rw0_13 := Lib.hid (Rw0_12.out.below b13); clear Rw0_12
  have Rg0_13 := Lib.hid (Rg0_12.out.below b13); clear Rg0_12
  have S13 : Below w.heap.size w w13 := below_tr S12 b13
  have Z13 := Lib.hid (b13.size)
  have r13h := Lib.hid r13; clear r13 hb13
  go_wp2_with fail
  refine (implDistributePart_c (r13h.out.below bel)).mono ?_
  rintro e w14 ⟨A1_14, c1_14, A2_14, c2_14, bs14, rfl, r14, nd14, hb14, b14⟩
  have P0_14 := P0_13.to b14; clear P0_13
  have W0_14 := W0_13.to b14; clear W0_13
  have X0_14 := X0_13.to b14; clear X0_13
  have G0_14 := G0_13.to b14; clear G0_13
  have RA0_14 := Lib.hid (RA0_13.out.below b14); clear RA0_13
  have Rw0_14 := Lib.hid (Rw0_13.out.below b14); clear Rw0_13
  have Rg0_14 := Lib.hid (Rg0_13.out.below b14); clear Rg0_13
  have Rz0_14 := Lib.hid (r13h.out.below b14); clear r13h
  have S14 : Below w.heap.size w w14 := below_tr S13 b14
  have Z14 := Lib.hid (b14.size)
  have r14h := Lib.hid r14; clear r14 hb14 nd14
  have ltP0_14 := lt_of_cell P0_14.1
  have ltW0_14 := lt_of_cell W0_14.1
  have ltX0_14 := lt_of_cell X0_14.1
  have ltG0_14 := lt_of_cell G0_14.1
  go_wp2_with fail
  refine (eqProgram_c (r14h.out.below bel) (Rw0_14.out.below bel)).mono ?_
  rintro e w15 ⟨rfl, b15⟩
  have H0_15n := (Box2.new w14 _ _ _).to b15
  have s15 : Below w14.heap.size w14 w15 := bel
  have P0_15 := P0_14.to s15; clear P0_14
  have W0_15 := W0_14.to s15; clear W0_14
  have X0_15 := X0_14.to s15; clear X0_14
  have G0_15 := G0_14.to s15; clear G0_14
  have RA0_15 := Lib.hid (RA0_14.out.below s15); clear RA0_14
  have Rw0_15 := Lib.hid (Rw0_14.out.below s15); clear Rw0_14
  have Rg0_15 := Lib.hid (Rg0_14.out.below s15); clear Rg0_14
  have Rh0_15 := Lib.hid (r14h.out.below s15); clear r14h
  have S15 : Below w.heap.size w w15 := below_tr S14 s15
  have Z15 := Lib.hid (s15.size)
  have LH0 := Lib.hid (lt_of_cell H0_15n.1)
  go_wp2_with fail
  refine (heldProgram_n Rg0_15.out (q := 1) (by omega) (by omega)).mono ?_
  rintro e w16 ⟨rfl, b16⟩
  have P0_16 := P0_15.to b16; clear P0_15
  have W0_16 := W0_15.to b16; clear W0_15
  have X0_16 := X0_15.to b16; clear X0_15
  have G0_16 := G0_15.to b16; clear G0_15
  have H0_16 := H0_15n.to b16; clear H0_15n
  have RA0_16 := Lib.hid (RA0_15.out.below b16); clear RA0_15
  have Rw0_16 := Lib.hid (Rw0_15.out.below b16); clear Rw0_15
  have Rg0_16 := Lib.hid (Rg0_15.out.below b16); clear Rg0_15
  have Rh0_16 := Lib.hid (Rh0_15.out.below b16); clear Rh0_15
  have S16 : Below w.heap.size w w16 := below_tr S15 b16
  have Z16 := Lib.hid (b16.size)
  go_wp2
  go_ret
  exact ⟨rfl, S16⟩
end Go.Proofs.YtgogjbnneoadkaaGreat
namespace Go.Proofs.YtgogjbnneoadkaaGreat
open Go.RowKit
theorem whole_laid : laidOutB Tryz.prog = true := by kernel_rfl
theorem whole_maps : mapsRowed Tryz.prog = true := by kernel_rfl
theorem whole_stops : (Tryz.prog.stops == []) = true := by kernel_rfl
theorem whole_knobs : (Tryz.prog.stopKnobs == []) = true := by kernel_rfl
theorem whole_heard : Tryz.prog.stopsHeard = true := by kernel_rfl
theorem whole_enter : Tryz.prog.mayEnter = true := by kernel_rfl
theorem whole_lifts : (Rows.fnExactSplitLoopRow.lifted == Tryz.prog.liftsFinal) = true := by kernel_rfl
theorem whole_make : (Tryz.prog.make == some Rows.fnExactSplitLoopRow.make) = true := by kernel_rfl
theorem whole_keys : (Rows.fnExactSplitLoopRow.plainKeys == Tryz.prog.plainKeys) = true := by kernel_rfl
end Go.Proofs.YtgogjbnneoadkaaGreat
namespace Go.Proofs.YtgogjbnneoadkaaGreat
open Go.ChangeShapes Go.WideShapes Go.ChangeAt Go.RowKit Go.Deep
theorem hasTy_aff (d : D) (h : HasTy Tryz.prog 202 d) : ∃ x : Aff, d = x.d := by
 obtain ⟨fs, rfl, hq⟩ := hasTy_st Tryz.underlying202 h
 obtain ⟨d1, r1, rfl, q1, hq⟩ := hasTys_cons hq
 obtain ⟨d2, r2, rfl, q2, hq⟩ := hasTys_cons hq
 obtain rfl := hasTys_nil hq
 obtain ⟨x1, rfl⟩ := hasTy_ints Tryz.underlying39 Tryz.underlying3 q1
 obtain ⟨x2, rfl⟩ := hasTy_int Tryz.underlying3 q2
 exact ⟨⟨x1, x2⟩, rfl⟩
theorem hasTy_lp (d : D) (h : HasTy Tryz.prog 198 d) : ∃ x : Lp, d = x.d := by
 obtain ⟨fs, rfl, hq⟩ := hasTy_st Tryz.underlying198 h
 obtain ⟨d1, r1, rfl, q1, hq⟩ := hasTys_cons hq
 obtain ⟨d2, r2, rfl, q2, hq⟩ := hasTys_cons hq
 obtain rfl := hasTys_nil hq
 obtain ⟨x1, rfl⟩ := hasTy_sl Tryz.underlying196 hasTy_aff q1
 obtain ⟨x2, rfl⟩ := hasTy_sl Tryz.underlying196 hasTy_aff q2
 exact ⟨⟨x1, x2⟩, rfl⟩
theorem hasTy_acc (d : D) (h : HasTy Tryz.prog 201 d) : ∃ x : Acc, d = x.d := by
 obtain ⟨fs, rfl, hq⟩ := hasTy_st Tryz.underlying201 h
 obtain ⟨d1, r1, rfl, q1, hq⟩ := hasTys_cons hq
 obtain ⟨d2, r2, rfl, q2, hq⟩ := hasTys_cons hq
 obtain rfl := hasTys_nil hq
 obtain ⟨x1, rfl⟩ := hasTy_str Tryz.underlying9 q1
 obtain ⟨x2, rfl⟩ := hasTy_sl Tryz.underlying196 hasTy_aff q2
 exact ⟨⟨x1, x2⟩, rfl⟩
theorem hasTy_ex_n (n : Nat) : ∀ d : D, SizeOf.sizeOf d ≤ n → HasTy Tryz.prog 205 d → ∃ x : Ex, d = x.d := by
 induction n with
 | zero => intro d hd; cases d <;> simp at hd
 | succ n ih =>
 intro d hd h
 obtain ⟨fs, rfl, hq⟩ := hasTy_st Tryz.underlying205 h
 obtain ⟨d1, r1, rfl, q1, hq⟩ := hasTys_cons hq
 obtain ⟨d2, r2, rfl, q2, hq⟩ := hasTys_cons hq
 obtain ⟨d3, r3, rfl, q3, hq⟩ := hasTys_cons hq
 obtain ⟨d4, r4, rfl, q4, hq⟩ := hasTys_cons hq
 obtain ⟨d5, r5, rfl, q5, hq⟩ := hasTys_cons hq
 obtain rfl := hasTys_nil hq
 obtain ⟨x1, rfl⟩ := hasTy_int Tryz.underlying3 q1
 obtain ⟨x2, rfl⟩ := hasTy_int Tryz.underlying3 q2
 obtain ⟨x3, rfl⟩ := hasTy_aff _ q3
 obtain ⟨x4, rfl⟩ := hasTy_acc _ q4
 obtain ⟨x5, rfl⟩ := hasTy_sl_mem (f := Ex.d) Tryz.underlying203 (fun xs hxs y hy hty => ih y (by subst hxs; have := List.sizeOf_lt_of_mem hy; simp at hd; omega) hty) q5
 exact ⟨⟨x1, x2, x3, x4, x5⟩, by rw [Ex.d_eq]; rfl⟩
theorem hasTy_ex (d : D) (h : HasTy Tryz.prog 205 d) : ∃ x : Ex, d = x.d := hasTy_ex_n _ d (Nat.le_refl _) h
theorem hasTy_stm (d : D) (h : HasTy Tryz.prog 207 d) : ∃ x : Stm, d = x.d := by
 obtain ⟨fs, rfl, hq⟩ := hasTy_st Tryz.underlying207 h
 obtain ⟨d1, r1, rfl, q1, hq⟩ := hasTys_cons hq
 obtain ⟨d2, r2, rfl, q2, hq⟩ := hasTys_cons hq
 obtain rfl := hasTys_nil hq
 obtain ⟨x1, rfl⟩ := hasTy_acc _ q1
 obtain ⟨x2, rfl⟩ := hasTy_ex _ q2
 exact ⟨⟨x1, x2⟩, rfl⟩
theorem hasTy_ar (d : D) (h : HasTy Tryz.prog 115 d) : ∃ x : Ar, d = x.d := by
 obtain ⟨fs, rfl, hq⟩ := hasTy_st Tryz.underlying115 h
 obtain ⟨d1, r1, rfl, q1, hq⟩ := hasTys_cons hq
 obtain ⟨d2, r2, rfl, q2, hq⟩ := hasTys_cons hq
 obtain rfl := hasTys_nil hq
 obtain ⟨x1, rfl⟩ := hasTy_str Tryz.underlying9 q1
 obtain ⟨x2, rfl⟩ := hasTy_ints Tryz.underlying39 Tryz.underlying3 q2
 exact ⟨⟨x1, x2⟩, rfl⟩
theorem hasTy_prt (d : D) (h : HasTy Tryz.prog 120 d) : ∃ x : Prt, d = x.d := by
 obtain ⟨fs, rfl, hq⟩ := hasTy_st Tryz.underlying120 h
 obtain ⟨d1, r1, rfl, q1, hq⟩ := hasTys_cons hq
 obtain ⟨d2, r2, rfl, q2, hq⟩ := hasTys_cons hq
 obtain rfl := hasTys_nil hq
 obtain ⟨x1, rfl⟩ := hasTy_sl Tryz.underlying117 hasTy_lp q1
 obtain ⟨x2, rfl⟩ := hasTy_sl Tryz.underlying118 hasTy_stm q2
 exact ⟨⟨x1, x2⟩, rfl⟩
theorem hasTy_pgm (d : D) (h : HasTy Tryz.prog 25 d) : ∃ x : Pgm, d = x.d := by
 obtain ⟨fs, rfl, hq⟩ := hasTy_st Tryz.underlying25 h
 obtain ⟨d1, r1, rfl, q1, hq⟩ := hasTys_cons hq
 obtain ⟨d2, r2, rfl, q2, hq⟩ := hasTys_cons hq
 obtain rfl := hasTys_nil hq
 obtain ⟨x1, rfl⟩ := hasTy_sl Tryz.underlying22 hasTy_ar q1
 obtain ⟨x2, rfl⟩ := hasTy_sl Tryz.underlying23 hasTy_prt q2
 exact ⟨⟨x1, x2⟩, rfl⟩
theorem opn_pgm {H : Type} {enc : TypeId × Value → H} {W : World} {L : List TypeId} {base b0 : Nat} {spare : Nat → Bool} {held : Bool} {r : Reach} (hL : layB Tryz.prog L = true) (ht : 25 ∈ L) {v : Value} {d : DataW H} {p : List MemPlace}
  (hv : Value.okWide Tryz.prog W r b0 25 v) (h : DataW.Trod enc Tryz.prog W base spare held 25 v d p) (hz : W.noneFrozen p) :
  ∃ cs, ∃ y : Pgm, ∃ bs, v = .agg cs.toArray ∧ Rep W y.d cs bs := by
 obtain ⟨cs, fs, bs, rfl, h1, h2⟩ := open_st hL ht Tryz.underlying25 hv h hz
 obtain ⟨y, hy⟩ := hasTy_pgm (.st fs) ⟨_, Tryz.underlying25, h2⟩
 rw [hy] at h1
 exact ⟨cs, y, bs, rfl, h1⟩
end Go.Proofs.YtgogjbnneoadkaaGreat
namespace Go.Proofs.YtgogjbnneoadkaaGreat.fnExactDistributePart
open Go.ChangeShapes Go.WideShapes Go.ChangeAt Go.RowKit Go.Deep
theorem lifted (os : Os) (started : os.Started) (H : Type) (enc : TypeId × Value → H) :
  ReturnsInHanded {} Tryz.checked os 4 .any (Rows.fnExactDistributePartSpec.pre6 enc Tryz.prog Tryz.f4 Rows.fnExactDistributePartRow.domain false) (Rows.fnExactDistributePartSpec.post enc Tryz.prog Tryz.f4 false true false false) := by
 refine returnsInHanded_of_change (C := Tryz.checked) own started (by kernel_rfl) Tryz.func4
  (ChangeSpec.witness6 (enc := enc) (C := Tryz.checked) false ⟨#[], #[.agg #[.slice none 0 0, .slice none 0 0], .int .i64 0, .int .i64 0], []⟩ 16 (by kernel_rfl) (by kernel_rfl) (by kernel_rfl) (by kernel_rfl)) ?_
 intro W base args ds gs before hval0 hW hcnd _
 have hval : ∀ (j : Nat) t v, Tryz.f4.params[j]? = some t → args[j]? = some v → Value.okWide Tryz.prog W .any base t v := hval0
 have hW' := hW
 obtain ⟨p, q, hA0, hV, rfl, hfz, hnd⟩ := hW
 have hA : DataW.TrodAll enc Tryz.prog W 0 (fun _ => true) true Tryz.f4.params.toList args.toList ds p := hA0
 rw [Tryz.params4] at hA hval
 obtain ⟨v0, v1, v2, d0, d1, d2, p0, p1, p2, hargs, rfl, rfl, j0, j1, j2⟩ := trodAll_three hA
 obtain ⟨rfl, rfl⟩ := trodVars_none hV
 simp only [List.append_nil] at hW' hfz
 have z0 := (noneFrozen_left (noneFrozen_left hfz))
 have z1 := (noneFrozen_right (noneFrozen_left hfz))
 have z2 := (noneFrozen_right hfz)
 have hl : layB Tryz.prog [25, 22, 115, 9, 39, 3, 23, 120, 117, 198, 196, 202, 118, 207, 201, 205, 203] = true := by kernel_rfl
 obtain ⟨cs0, y0, b0, rfl, h0⟩ := opn_pgm hl (by simp) (hval 0 _ v0 rfl (by rw [hargs]; rfl)) j0 z0
 obtain ⟨A1_0, c1_0, A2_0, c2_0, d1_0, d2_0, hc0, _⟩ := Rep.pgm_iff.1 h0
 subst hc0
 obtain ⟨x1, rfl, rfl, rfl, u1⟩ := open_int Tryz.underlying3 (hval 1 _ v1 rfl (by rw [hargs]; rfl)) j1
 have h1 : I64 x1 := bounds_i64 u1
 obtain ⟨x2, rfl, rfl, rfl, u2⟩ := open_int Tryz.underlying3 (hval 2 _ v2 rfl (by rw [hargs]; rfl)) j2
 have h2 : I64 x2 := bounds_i64 u2
 subst hargs
 refine (FnExactDistributePart_walk h0).mono fun e W' ⟨he, hb⟩ => ?_
 subst he
 exact ⟨_, rfl, law_done rfl rfl hW' rfl rfl rfl hA0 (by decide +kernel) hb⟩
theorem in_place : (Rows.fnExactDistributePartRow.inPlace == Tryz.prog.inPlace 4) = true := by kernel_rfl
theorem unfollowed : (Rows.fnExactDistributePartRow.unfollowed == Tryz.prog.unfollowed 4) = true := by kernel_rfl
theorem recurses : (Rows.fnExactDistributePartRow.recurses == Tryz.prog.recurses 4) = true := by kernel_rfl
theorem vars_named : (Rows.fnExactDistributePartRow.named == Tryz.prog.varsNamed 4) = true := by kernel_rfl
theorem lifts : (Rows.fnExactDistributePartRow.lifted == Tryz.prog.liftsFinal) = true := whole_lifts
theorem makes : (Tryz.prog.make == some Rows.fnExactDistributePartRow.make) = true := whole_make
theorem keys : (Rows.fnExactDistributePartRow.plainKeys == Tryz.prog.plainKeys) = true := whole_keys
theorem closed : joinedFacts Tryz.prog 4 Tryz.f4 Rows.fnExactDistributePartSpec Rows.fnExactDistributePartRow = true := by
 simp only [joinedFacts, whole_laid, whole_maps, whole_stops, whole_knobs, whole_heard, whole_enter, in_place, unfollowed, recurses, vars_named, lifts, makes, keys, Bool.true_and, Bool.and_true]
 kernel_rfl
theorem proved : Rows.FnExactDistributePartSaid :=
 OpenClaim.holds_of_wide 4 Tryz.f4 rfl rfl rfl rfl rfl rfl rfl ⟨rfl, rfl, rfl, rfl, rfl⟩ rfl rfl rfl rfl rfl (by kernel_rfl) Tryz.func4 closed
  (of_decide_eq_true (by kernel_rfl)) (by unfold Func.isWrapper; first | (rw [if_pos (by decide +kernel)]; kernel_rfl) | (rw [if_neg (by decide +kernel)]; exact ⟨rfl, rfl⟩))
  (fun os started H enc _ => lifted os started H enc)
end Go.Proofs.YtgogjbnneoadkaaGreat.fnExactDistributePart
