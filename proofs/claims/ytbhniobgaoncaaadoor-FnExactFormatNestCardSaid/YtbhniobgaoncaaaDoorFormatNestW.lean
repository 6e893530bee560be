/- The law FnExactFormatNest: its walk. Printed by lawgen.py. -/
import Derived.Test.YtbhniobgaoncaaaDoorLaw
import Derived.Test.YtbhniobgaoncaaaDoorBasic
import Derived.Test.YtbhniobgaoncaaaDoorFmtN
import Derived.Test.YtbhniobgaoncaaaDoorOps
set_option linter.all false
set_option linter.unusedSimpArgs false
set_option linter.unusedVariables false
namespace Go.Proofs.YtbhniobgaoncaaaDoor
open Go.ChangeShapes Go.WideShapes Go.ChangeAt Go.RowKit Go.Deep

set_option maxRecDepth 100000 in
set_option maxHeartbeats 2000000 in
theorem FnExactFormatNest_walk {w : World} {x0 : List Lp} {A0 : Option Addr} {n0 : Nat} {c0 : Nat} {bs0 : List Nat} (h0 : Rep w (sls Lp.d x0) [.slice A0 n0 c0] bs0) :
    Calls Tryd.prog 4 #[.slice A0 n0 c0] w fun e w' => e = .returned (.bool true) ∧ Below w.heap.size w w' := by
  have hm0 : n0 ≤ 9223372036854775807 := Nat.le_trans h0.sl_len.2.1 h0.sl_len.2.2
  have H0 := Lib.hid h0; clear h0
  by_cases hs0 : (1048576 : Int) - ((szD (sls Lp.d x0) : Nat) : Int) < 0
  · have HS0 := Lib.hid (szR_neg hs0)
    go_enter Tryd.func4, Tryd.ntmps4
    go_wp2_with fail
    refine (szLoopS_t (H0.out.below bel) (by omega) (by omega)).mono ?_
    rintro e v1 ⟨rfl, bv1⟩
    rw [HS0.out]
    go_wp2
    go_ret
    exact ⟨rfl, bel⟩
  · have HS0 := Lib.hid (szR_pos (left := 1048576) (tot := szD (sls Lp.d x0)) (by omega))
    have HN0 := Lib.hid (show szD (sls Lp.d x0) ≤ 1048576 by omega)
    have hl0 : 0 ≤ (1048576 : Int) - ((szD (sls Lp.d x0) : Nat) : Int) := by omega
    clear hs0
    go_enter Tryd.func4, Tryd.ntmps4
    have TA0 := Lib.hid (Rep.lt _ H0.out)
    go_wp2_with fail
    refine (szLoopS_t (H0.out.below bel) (by omega) (by omega)).mono ?_
    rintro e w1 ⟨rfl, b1⟩
    rw [HS0.out]
    have RA0_1 := Lib.hid (H0.out.below b1); clear H0
    have S1 : Below w.heap.size w w1 := b1
    have Z1 := Lib.hid (b1.size)
    go_wp2_with fail
    refine (toLoopS_m (RA0_1.out.below bel) HN0.out).mono ?_
    rintro e w2 ⟨A2, n2, c2, bs2, rfl, r2, nd2, hb2, b2⟩
    have Tc0 := Lib.hid (show ∀ y ∈ bs2, w1.heap.size + 0 ≤ y ∧ y < w2.heap.size from fun y hy => ⟨by have := hb2 y hy; (try simp at this); omega, Rep.lt _ r2 y hy⟩)
    have RA0_2 := Lib.hid (RA0_1.out.below b2); clear RA0_1
    have S2 : Below w.heap.size w w2 := below_tr S1 b2
    have Z2 := Lib.hid (b2.size)
    have r2h := Lib.hid r2; clear r2 hb2
    clear nd2
    go_wp2_with fail
    refine (specFormatNest_c (r2h.out.below bel)).mono ?_
    rintro e w3 ⟨rfl, b3⟩
    have RA0_3 := Lib.hid (RA0_2.out.below b3); clear RA0_2
    have Rc0_3 := Lib.hid (r2h.out.below b3); clear r2h
    have S3 : Below w.heap.size w w3 := below_tr S2 b3
    have Z3 := Lib.hid (b3.size)
    go_wp2_with fail
    refine (toLoopS_m (RA0_3.out.below bel) HN0.out).mono ?_
    rintro e w4 ⟨A4, n4, c4, bs4, rfl, r4, nd4, hb4, b4⟩
    have Tx0 := Lib.hid (show ∀ y ∈ bs4, w3.heap.size + 0 ≤ y ∧ y < w4.heap.size from fun y hy => ⟨by have := hb4 y hy; (try simp at this); omega, Rep.lt _ r4 y hy⟩)
    have RA0_4 := Lib.hid (RA0_3.out.below b4); clear RA0_3
    have S4 : Below w.heap.size w w4 := below_tr S3 b4
    have Z4 := Lib.hid (b4.size)
    have r4h := Lib.hid r4; clear r4 hb4
    go_wp2_with fail
    refine (implFormatNest_c (r4h.out.below bel)).mono ?_
    rintro e w5 ⟨rfl, b5⟩
    have RA0_5 := Lib.hid (RA0_4.out.below b5); clear RA0_4
    have Rx0_5 := Lib.hid (r4h.out.below b5); clear r4h
    have S5 : Below w.heap.size w w5 := below_tr S4 b5
    have Z5 := Lib.hid (b5.size)
    go_wp2_with fail
    refine (toLoopS_m (RA0_5.out.below bel) HN0.out).mono ?_
    rintro e w6 ⟨A6, n6, c6, bs6, rfl, r6, nd6, hb6, b6⟩
    have Ty0 := Lib.hid (show ∀ y ∈ bs6, w5.heap.size + 0 ≤ y ∧ y < w6.heap.size from fun y hy => ⟨by have := hb6 y hy; (try simp at this); omega, Rep.lt _ r6 y hy⟩)
    have RA0_6 := Lib.hid (RA0_5.out.below b6); clear RA0_5
    have Rx0_6 := Lib.hid (Rx0_5.out.below b6); clear Rx0_5
    have S6 : Below w.heap.size w w6 := below_tr S5 b6
    have Z6 := Lib.hid (b6.size)
    have r6h := Lib.hid r6; clear r6 hb6
    go_wp2_with fail
    refine (eqLoopS_b (Rx0_6.out.below bel) (r6h.out.below bel)).mono ?_
    rintro e w7 ⟨rfl, b7⟩
    have RA0_7 := Lib.hid (RA0_6.out.below b7); clear RA0_6
    have Rx0_7 := Lib.hid (Rx0_6.out.below b7); clear Rx0_6
    have Ry0_7 := Lib.hid (r6h.out.below b7); clear r6h
    have S7 : Below w.heap.size w w7 := below_tr S6 b7
    have Z7 := Lib.hid (b7.size)
    go_wp2
    go_ret
    exact ⟨rfl, S7⟩
end Go.Proofs.YtbhniobgaoncaaaDoor
