/- The law FnExactBoxNest: its walk. Printed by lawgen.py. -/
import Derived.Test.YtadmmlflngkpiaaLaw
import Derived.Test.YtadmmlflngkpiaaUni
import Derived.Test.YtadmmlflngkpiaaBoxNest
import Derived.Test.YtadmmlflngkpiaaTyLoop
set_option linter.all false
set_option linter.unusedSimpArgs false
set_option linter.unusedVariables false
namespace Go.Proofs.Ytadmmlflngkpiaa
open Go.ChangeShapes Go.WideShapes Go.ChangeAt Go.RowKit Go.Deep

set_option maxRecDepth 100000 in
set_option maxHeartbeats 2000000 in
theorem FnExactBoxNest_walk {w : World} {x0 : List Int} {A0 : Option Addr} {n0 : Nat} {c0 : Nat} {bs0 : List Nat} (h0 : Rep w (ints x0) [.slice A0 n0 c0] bs0) :
    Calls Try.prog 3 #[.slice A0 n0 c0] w fun e w' => e = .returned (.bool true) ∧ Below w.heap.size w w' := by
  have hm0 : n0 ≤ 9223372036854775807 := Nat.le_trans h0.ints_len.2.1 h0.ints_len.2.2
  have H0 := Lib.hid h0; clear h0
  have hnl0 := H0.out.ints_len.1
  have HNL0 := Lib.hid hnl0; clear hnl0
  by_cases hbig0 : 1048576 < n0
  · skip
    go_enter Try.func3, Try.ntmps3
    go_wp2
    go_ret
    exact ⟨rfl, bel⟩
  · have HN0 := Lib.hid (show x0.length ≤ 1048576 by have := HNL0.out; omega)
    have hq1 : ((BoxNestF x0).2 != (BoxNestF x0).2) = false := by simp
    have HL := Lib.hid (BoxNestF_len x0)
    go_enter Try.func3, Try.ntmps3
    have TA0 := Lib.hid (Rep.lt _ H0.out)
    go_wp2_with fail
    refine (toIntS_m (H0.out.below bel) HN0.out).mono ?_
    rintro e w1 ⟨A1, n1, c1, bs1, rfl, r1, nd1, hb1, b1⟩
    have Tc0 := Lib.hid (show ∀ y ∈ bs1, w.heap.size + 0 ≤ y ∧ y < w1.heap.size from fun y hy => ⟨by have := hb1 y hy; (try simp at this); omega, Rep.lt _ r1 y hy⟩)
    have RA0_1 := Lib.hid (H0.out.below b1); clear H0
    have S1 : Below w.heap.size w w1 := b1
    have Z1 := Lib.hid (b1.size)
    have r1h := Lib.hid r1; clear r1 hb1
    clear nd1
    go_wp2_with fail
    refine (specBoxNest_c (r1h.out.below bel)).mono ?_
    rintro e w2 ⟨A2, n2, c2, bs2, rfl, r2, nd2, hb2, b2⟩
    have Tw0 := Lib.hid (show ∀ y ∈ bs2, y < w2.heap.size from Rep.lt _ r2)
    have RA0_2 := Lib.hid (RA0_1.out.below b2); clear RA0_1
    have Rc0_2 := Lib.hid (r1h.out.below b2); clear r1h
    have S2 : Below w.heap.size w w2 := below_tr S1 b2
    have Z2 := Lib.hid (b2.size)
    have r2h := Lib.hid r2; clear r2 hb2 nd2
    go_wp2_with fail
    refine (toIntS_m (RA0_2.out.below bel) HN0.out).mono ?_
    rintro e w3 ⟨A3, n3, c3, bs3, rfl, r3, nd3, hb3, b3⟩
    have Tx0 := Lib.hid (show ∀ y ∈ bs3, w2.heap.size + 0 ≤ y ∧ y < w3.heap.size from fun y hy => ⟨by have := hb3 y hy; (try simp at this); omega, Rep.lt _ r3 y hy⟩)
    have RA0_3 := Lib.hid (RA0_2.out.below b3); clear RA0_2
    have Rw0_3 := Lib.hid (r2h.out.below b3); clear r2h
    have S3 : Below w.heap.size w w3 := below_tr S2 b3
    have Z3 := Lib.hid (b3.size)
    have r3h := Lib.hid r3; clear r3 hb3
    go_wp2_with fail
    refine (implBoxNest_c (r3h.out.below bel)).mono ?_
    rintro e w4 ⟨A4, n4, c4, bs4, rfl, r4, nd4, hb4, b4⟩
    have Tg0 := Lib.hid (show ∀ y ∈ bs4, w3.heap.size + 0 ≤ y ∧ y < w4.heap.size from fun y hy => ⟨by have := hb4 y hy; (try simp at this); omega, Rep.lt _ r4 y hy⟩)
    have RA0_4 := Lib.hid (RA0_3.out.below b4); clear RA0_3
    have Rw0_4 := Lib.hid (Rw0_3.out.below b4); clear Rw0_3
    have Rx0_4 := Lib.hid (r3h.out.below b4); clear r3h
    have S4 : Below w.heap.size w w4 := below_tr S3 b4
    have Z4 := Lib.hid (b4.size)
    have r4h := Lib.hid r4; clear r4 hb4
    go_wp2_with fail
    refine (eqLoopS_c (r4h.out.below bel) (Rw0_4.out.below bel)).mono ?_
    rintro e w5 ⟨rfl, b5⟩
    have RA0_5 := Lib.hid (RA0_4.out.below b5); clear RA0_4
    have Rw0_5 := Lib.hid (Rw0_4.out.below b5); clear Rw0_4
    have Rx0_5 := Lib.hid (Rx0_4.out.below b5); clear Rx0_4
    have Rg0_5 := Lib.hid (r4h.out.below b5); clear r4h
    have S5 : Below w.heap.size w w5 := below_tr S4 b5
    have Z5 := Lib.hid (b5.size)
    go_wp2_with fail
    refine (toIntS_m (RA0_5.out.below bel) HN0.out).mono ?_
    rintro e w6 ⟨A6, n6, c6, bs6, rfl, r6, nd6, hb6, b6⟩
    have Ty0 := Lib.hid (show ∀ y ∈ bs6, w5.heap.size + 0 ≤ y ∧ y < w6.heap.size from fun y hy => ⟨by have := hb6 y hy; (try simp at this); omega, Rep.lt _ r6 y hy⟩)
    have RA0_6 := Lib.hid (RA0_5.out.below b6); clear RA0_5
    have Rw0_6 := Lib.hid (Rw0_5.out.below b6); clear Rw0_5
    have Rx0_6 := Lib.hid (Rx0_5.out.below b6); clear Rx0_5
    have Rg0_6 := Lib.hid (Rg0_5.out.below b6); clear Rg0_5
    have S6 : Below w.heap.size w w6 := below_tr S5 b6
    have Z6 := Lib.hid (b6.size)
    have r6h := Lib.hid r6; clear r6 hb6
    go_wp2_with fail
    refine (eqIntS_b (Rx0_6.out.below bel) (r6h.out.below bel)).mono ?_
    rintro e w7 ⟨rfl, b7⟩
    have RA0_7 := Lib.hid (RA0_6.out.below b7); clear RA0_6
    have Rw0_7 := Lib.hid (Rw0_6.out.below b7); clear Rw0_6
    have Rx0_7 := Lib.hid (Rx0_6.out.below b7); clear Rx0_6
    have Rg0_7 := Lib.hid (Rg0_6.out.below b7); clear Rg0_6
    have Ry0_7 := Lib.hid (r6h.out.below b7); clear r6h
    have S7 : Below w.heap.size w w7 := below_tr S6 b7
    have Z7 := Lib.hid (b7.size)
    have hcnt : cntL Lp.cntE (BoxNestF x0).1 ≤ 1000000 := HL.out
    have hn0c : x0.length ≤ 10000000 := by have := HN0.out; omega
    go_wp2_with fail
    refine (markIntS_n Rx0_7.out nd3 (q := 1) (by omega) (by omega)).mono ?_
    rintro e w8 ⟨rfl, r8, t8⟩
    have m8h := Lib.hid r8; clear r8
    have RA0_8 := Lib.hid (Rep.keep _ RA0_7.out (t8.keeps fun y hy => ⟨Rep.lt _ RA0_7.out y hy, fun hm => by have h1 := Tx0.out y hm; have h2 := TA0.out y hy; have q0 := Z1.out; have q1 := Z2.out; have q2 := Z3.out; have q3 := Z4.out; have q4 := Z5.out; have q5 := Z6.out; have q6 := Z7.out; omega⟩)); clear RA0_7
    have Rw0_8 := Lib.hid (Rep.keep _ Rw0_7.out (t8.keeps fun y hy => ⟨Rep.lt _ Rw0_7.out y hy, fun hm => by have h1 := Tx0.out y hm; have h2 := Tw0.out y hy; have q0 := Z1.out; have q1 := Z2.out; have q2 := Z3.out; have q3 := Z4.out; have q4 := Z5.out; have q5 := Z6.out; have q6 := Z7.out; omega⟩)); clear Rw0_7
    have Rg0_8 := Lib.hid (Rep.keep _ Rg0_7.out (t8.keeps fun y hy => ⟨Rep.lt _ Rg0_7.out y hy, fun hm => by have h1 := Tx0.out y hm; have h2 := Tg0.out y hy; have q0 := Z1.out; have q1 := Z2.out; have q2 := Z3.out; have q3 := Z4.out; have q4 := Z5.out; have q5 := Z6.out; have q6 := Z7.out; omega⟩)); clear Rg0_7
    have S8 : Below w.heap.size w w8 := S7.trans (t8.below S7.size (fun y hm => by have h1 := Tx0.out y hm; have q0 := Z1.out; have q1 := Z2.out; have q2 := Z3.out; have q3 := Z4.out; have q4 := Z5.out; have q5 := Z6.out; have q6 := Z7.out; omega))
    have Z8 := Lib.hid (show w7.heap.size ≤ w8.heap.size from t8.size)
    clear t8
    go_wp2_with fail
    refine (eqLoopS_c (Rg0_8.out.below bel) (Rw0_8.out.below bel)).mono ?_
    rintro e w9 ⟨rfl, b9⟩
    have RA0_9 := Lib.hid (RA0_8.out.below b9); clear RA0_8
    have Rw0_9 := Lib.hid (Rw0_8.out.below b9); clear Rw0_8
    have Rg0_9 := Lib.hid (Rg0_8.out.below b9); clear Rg0_8
    have S9 : Below w.heap.size w w9 := below_tr S8 b9
    have Z9 := Lib.hid (b9.size)
    go_wp2_with fail
    refine (markLoopS_n Rg0_9.out nd4 (q := 1) (by omega) (by omega)).mono ?_
    rintro e w10 ⟨rfl, r10, t10⟩
    have m10h := Lib.hid r10; clear r10
    have RA0_10 := Lib.hid (Rep.keep _ RA0_9.out (t10.keeps fun y hy => ⟨Rep.lt _ RA0_9.out y hy, fun hm => by have h1 := Tg0.out y hm; have h2 := TA0.out y hy; have q0 := Z1.out; have q1 := Z2.out; have q2 := Z3.out; have q3 := Z4.out; have q4 := Z5.out; have q5 := Z6.out; have q6 := Z7.out; have q7 := Z8.out; have q8 := Z9.out; omega⟩)); clear RA0_9
    have Rw0_10 := Lib.hid (Rep.keep _ Rw0_9.out (t10.keeps fun y hy => ⟨Rep.lt _ Rw0_9.out y hy, fun hm => by have h1 := Tg0.out y hm; have h2 := Tw0.out y hy; have q0 := Z1.out; have q1 := Z2.out; have q2 := Z3.out; have q3 := Z4.out; have q4 := Z5.out; have q5 := Z6.out; have q6 := Z7.out; have q7 := Z8.out; have q8 := Z9.out; omega⟩)); clear Rw0_9
    have S10 : Below w.heap.size w w10 := S9.trans (t10.below S9.size (fun y hm => by have h1 := Tg0.out y hm; have q0 := Z1.out; have q1 := Z2.out; have q2 := Z3.out; have q3 := Z4.out; have q4 := Z5.out; have q5 := Z6.out; have q6 := Z7.out; have q7 := Z8.out; have q8 := Z9.out; omega))
    have Z10 := Lib.hid (show w9.heap.size ≤ w10.heap.size from t10.size)
    clear t10
    have hmq : ((1 + ((cntL Lp.cntE (BoxNestF x0).1 : Nat) : Int)) != (1 + ((cntL Lp.cntE (BoxNestF x0).1 : Nat) : Int))) = false := by simp
    go_wp2_with fail
    refine (heldLoopS_n m10h.out (q := 1) (by omega) (by omega)).mono ?_
    rintro e w11 ⟨rfl, b11⟩
    have RA0_11 := Lib.hid (RA0_10.out.below b11); clear RA0_10
    have Rw0_11 := Lib.hid (Rw0_10.out.below b11); clear Rw0_10
    have Rg0_11 := Lib.hid (m10h.out.below b11); clear m10h
    have S11 : Below w.heap.size w w11 := below_tr S10 b11
    have Z11 := Lib.hid (b11.size)
    go_wp2_with fail
    refine (toIntS_m (RA0_11.out.below bel) HN0.out).mono ?_
    rintro e w12 ⟨A12, n12, c12, bs12, rfl, r12, nd12, hb12, b12⟩
    have Tz0 := Lib.hid (show ∀ y ∈ bs12, w11.heap.size + 0 ≤ y ∧ y < w12.heap.size from fun y hy => ⟨by have := hb12 y hy; (try simp at this); omega, Rep.lt _ r12 y hy⟩)
    have RA0_12 := Lib.hid (RA0_11.out.below b12); clear RA0_11
    have Rw0_12 := Lib.hid (Rw0_11.out.below b12); clear Rw0_11
    have Rg0_12 := Lib.hid (Rg0_11.out.below b12); clear Rg0_11
    have S12 : Below w.heap.size w w12 := below_tr S11 b12
    have Z12 := Lib.hid (b12.size)
    have r12h := Lib.hid r12; clear r12 hb12
    go_wp2_with fail
    refine (implBoxNest_c (r12h.out.below bel)).mono ?_
    rintro e w13 ⟨A13, n13, c13, bs13, rfl, r13, nd13, hb13, b13⟩
    have RA0_13 := Lib.hid (RA0_12.out.below b13); clear RA0_12
    have Rw0_13 := Lib.hid (Rw0_12.out.below b13); clear Rw0_12
    have Rg0_13 := Lib.hid (Rg0_12.out.below b13); clear Rg0_12
    have Rz0_13 := Lib.hid (r12h.out.below b13); clear r12h
    have S13 : Below w.heap.size w w13 := below_tr S12 b13
    have Z13 := Lib.hid (b13.size)
    have r13h := Lib.hid r13; clear r13 hb13 nd13
    go_wp2_with fail
    refine (eqLoopS_c (r13h.out.below bel) (Rw0_13.out.below bel)).mono ?_
    rintro e w14 ⟨rfl, b14⟩
    have RA0_14 := Lib.hid (RA0_13.out.below b14); clear RA0_13
    have Rw0_14 := Lib.hid (Rw0_13.out.below b14); clear Rw0_13
    have Rg0_14 := Lib.hid (Rg0_13.out.below b14); clear Rg0_13
    have Rh0_14 := Lib.hid (r13h.out.below b14); clear r13h
    have S14 : Below w.heap.size w w14 := below_tr S13 b14
    have Z14 := Lib.hid (b14.size)
    go_wp2_with fail
    refine (heldLoopS_n Rg0_14.out (q := 1) (by omega) (by omega)).mono ?_
    rintro e w15 ⟨rfl, b15⟩
    have RA0_15 := Lib.hid (RA0_14.out.below b15); clear RA0_14
    have Rw0_15 := Lib.hid (Rw0_14.out.below b15); clear Rw0_14
    have Rg0_15 := Lib.hid (Rg0_14.out.below b15); clear Rg0_14
    have Rh0_15 := Lib.hid (Rh0_14.out.below b15); clear Rh0_14
    have S15 : Below w.heap.size w w15 := below_tr S14 b15
    have Z15 := Lib.hid (b15.size)
    go_wp2
    go_ret
    exact ⟨rfl, S15⟩
end Go.Proofs.Ytadmmlflngkpiaa
