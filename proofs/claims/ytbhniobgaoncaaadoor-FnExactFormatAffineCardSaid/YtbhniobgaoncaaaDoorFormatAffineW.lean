/- The law FnExactFormatAffine: its walk. Printed by lawgen.py. -/
import Derived.Test.YtbhniobgaoncaaaDoorLaw
import Derived.Test.YtbhniobgaoncaaaDoorBasic
import Derived.Test.YtbhniobgaoncaaaDoorFmtS
import Derived.Test.YtbhniobgaoncaaaDoorOps
set_option linter.all false
set_option linter.unusedSimpArgs false
set_option linter.unusedVariables false
namespace Go.Proofs.YtbhniobgaoncaaaDoor
open Go.ChangeShapes Go.WideShapes Go.ChangeAt Go.RowKit Go.Deep

set_option maxRecDepth 100000 in
set_option maxHeartbeats 2000000 in
theorem FnExactFormatAffine_walk {w : World} {x0 : Aff} {A0 : Option Addr} {n0 : Nat} {c0 : Nat} {k0 : Int} {bs0 : List Nat} (h0 : Rep w x0.d [.slice A0 n0 c0, .int .i64 k0] bs0) :
    Calls Tryd.prog 3 #[.agg #[.slice A0 n0 c0, .int .i64 k0]] w fun e w' => e = .returned (.bool true) ∧ Below w.heap.size w w' := by
  have H0 := Lib.hid h0; clear h0
  by_cases hs0 : (1048576 : Int) - ((x0.coefs.length : Nat) : Int) < 0
  · have HS0 := Lib.hid (szR_neg hs0)
    go_enter Tryd.func3, Tryd.ntmps3
    go_wp2_with fail
    refine (szAffine_t (H0.out.below bel) (by omega) (by omega)).mono ?_
    rintro e v1 ⟨rfl, bv1⟩
    rw [HS0.out]
    go_wp2
    go_ret
    exact ⟨rfl, bel⟩
  · have HS0 := Lib.hid (szR_pos (left := 1048576) (tot := x0.coefs.length) (by omega))
    have HN0 := Lib.hid (show x0.coefs.length ≤ 1048576 by omega)
    have hl0 : 0 ≤ (1048576 : Int) - ((x0.coefs.length : Nat) : Int) := by omega
    clear hs0
    go_enter Tryd.func3, Tryd.ntmps3
    have TA0 := Lib.hid (Rep.lt _ H0.out)
    go_wp2_with fail
    refine (szAffine_t (H0.out.below bel) (by omega) (by omega)).mono ?_
    rintro e w1 ⟨rfl, b1⟩
    rw [HS0.out]
    have P0_1n := (Box2.new w _ _ _).to b1
    have s1 : Below w.heap.size w w1 := bel
    have RA0_1 := Lib.hid (H0.out.below s1); clear H0
    have S1 : Below w.heap.size w w1 := s1
    have Z1 := Lib.hid (s1.size)
    have LP0 := Lib.hid (lt_of_cell P0_1n.1)
    go_wp2_with fail
    refine (toAffine_m (RA0_1.out.below bel) HN0.out).mono ?_
    rintro e w2 ⟨A2, n2, c2, k2, bs2, rfl, r2, nd2, hb2, b2⟩
    have Tc0 := Lib.hid (show ∀ y ∈ bs2, w1.heap.size + 0 ≤ y ∧ y < w2.heap.size from fun y hy => ⟨by have := hb2 y hy; (try simp at this); omega, Rep.lt _ r2 y hy⟩)
    have P0_2 := P0_1n.to b2; clear P0_1n
    have RA0_2 := Lib.hid (RA0_1.out.below b2); clear RA0_1
    have S2 : Below w.heap.size w w2 := below_tr S1 b2
    have Z2 := Lib.hid (b2.size)
    have r2h := Lib.hid r2; clear r2 hb2
    clear nd2
    go_wp2_with fail
    refine (specFormatAffine_c (r2h.out.below bel)).mono ?_
    rintro e w3 ⟨rfl, b3⟩
    have P0_3 := P0_2.to b3; clear P0_2
    have RA0_3 := Lib.hid (RA0_2.out.below b3); clear RA0_2
    have Rc0_3 := Lib.hid (r2h.out.below b3); clear r2h
    have S3 : Below w.heap.size w w3 := below_tr S2 b3
    have Z3 := Lib.hid (b3.size)
    go_wp2_with fail
    refine (toAffine_m (RA0_3.out.below bel) HN0.out).mono ?_
    rintro e w4 ⟨A4, n4, c4, k4, bs4, rfl, r4, nd4, hb4, b4⟩
    have Tx0 := Lib.hid (show ∀ y ∈ bs4, w3.heap.size + 0 ≤ y ∧ y < w4.heap.size from fun y hy => ⟨by have := hb4 y hy; (try simp at this); omega, Rep.lt _ r4 y hy⟩)
    have P0_4 := P0_3.to b4; clear P0_3
    have RA0_4 := Lib.hid (RA0_3.out.below b4); clear RA0_3
    have S4 : Below w.heap.size w w4 := below_tr S3 b4
    have Z4 := Lib.hid (b4.size)
    have r4h := Lib.hid r4; clear r4 hb4
    have ltP0_4 := lt_of_cell P0_4.1
    go_wp2_with fail
    refine (implFormatAffine_c (r4h.out.below bel)).mono ?_
    rintro e w5 ⟨rfl, b5⟩
    have X0_5n := (Box2.new w4 _ _ _).to b5
    have s5 : Below w4.heap.size w4 w5 := bel
    have P0_5 := P0_4.to s5; clear P0_4
    have RA0_5 := Lib.hid (RA0_4.out.below s5); clear RA0_4
    have Rx0_5 := Lib.hid (r4h.out.below s5); clear r4h
    have S5 : Below w.heap.size w w5 := below_tr S4 s5
    have Z5 := Lib.hid (s5.size)
    have LX0 := Lib.hid (lt_of_cell X0_5n.1)
    go_wp2_with fail
    go_region_held3 (fun w' => Box2 w' w.heap.size (.slice A0 n0 c0) (.int .i64 k0) ∧ Box2 w' w4.heap.size (.slice A4 n4 c4) (.int .i64 k4)) (first | exact ⟨P0_5, X0_5n⟩ | exact ⟨P0_5.to (of_drew b6), X0_5n.to (of_drew b6)⟩ | exact ⟨(P0_5.to (of_drew b6)).to b7, (X0_5n.to (of_drew b6)).to b7⟩ | skip)
      (first | (go_at_call 9; refine (toAffine_m (RA0_5.out.below (Below.refl _ _).drew) HN0.out).mono ?_; rintro e w6 ⟨A6, n6, c6, k6, bs6, rfl, r6, nd6, hb6, b6⟩) | (go_at_call 11; refine (eqAffine_c (Rx0_5.out.below (of_drew b6)) r6).mono ?_; rintro e w7 ⟨rfl, b7⟩))
    have t7 : Below w5.heap.size w5 w7 := below_tr (of_drew b6) b7
    clear b6 b7 r6 hb6 nd6
    have P0_7 := P0_5.to t7; clear P0_5
    have X0_7 := X0_5n.to t7; clear X0_5n
    have RA0_7 := Lib.hid (RA0_5.out.below t7); clear RA0_5
    have Rx0_7 := Lib.hid (Rx0_5.out.below t7); clear Rx0_5
    have S7 : Below w.heap.size w w7 := below_tr S5 t7
    have Z7 := Lib.hid (t7.size)
    go_wp2
    go_ret
    exact ⟨rfl, S7⟩
end Go.Proofs.YtbhniobgaoncaaaDoor
