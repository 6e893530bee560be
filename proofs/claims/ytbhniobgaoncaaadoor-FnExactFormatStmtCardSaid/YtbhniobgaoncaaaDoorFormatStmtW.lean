/- The law FnExactFormatStmt: its walk. Printed by lawgen.py. -/
import Derived.Test.YtbhniobgaoncaaaDoorLaw
import Derived.Test.YtbhniobgaoncaaaDoorBasic
import Derived.Test.YtbhniobgaoncaaaDoorFmtE
import Derived.Test.YtbhniobgaoncaaaDoorOps
set_option linter.all false
set_option linter.unusedSimpArgs false
set_option linter.unusedVariables false
namespace Go.Proofs.YtbhniobgaoncaaaDoor
open Go.ChangeShapes Go.WideShapes Go.ChangeAt Go.RowKit Go.Deep

set_option maxRecDepth 100000 in
set_option maxHeartbeats 2000000 in
theorem FnExactFormatStmt_walk {w : World} {x0 : Stm} {A2_0 : Option Addr} {c2_0 : Nat} {A5_0 : Option Addr} {c5_0 : Nat} {A8_0 : Option Addr} {c8_0 : Nat} {A9_0 : Option Addr} {c9_0 : Nat} {bs0 : List Nat} (h0 : Rep w x0.d [.string x0.write.arr, .slice A2_0 x0.write.subs.length c2_0, .int .i64 x0.value.kind, .int .i64 x0.value.num, .slice A5_0 x0.value.index.coefs.length c5_0, .int .i64 x0.value.index.const, .string x0.value.read.arr, .slice A8_0 x0.value.read.subs.length c8_0, .slice A9_0 x0.value.kids.length c9_0] bs0) :
    Calls Tryd.prog 5 #[.agg #[.string x0.write.arr, .slice A2_0 x0.write.subs.length c2_0, .int .i64 x0.value.kind, .int .i64 x0.value.num, .slice A5_0 x0.value.index.coefs.length c5_0, .int .i64 x0.value.index.const, .string x0.value.read.arr, .slice A8_0 x0.value.read.subs.length c8_0, .slice A9_0 x0.value.kids.length c9_0]] w fun e w' => e = .returned (.bool true) ∧ Below w.heap.size w w' := by
  have H0 := Lib.hid h0; clear h0
  by_cases hs0 : (1048576 : Int) - ((szD x0.d : Nat) : Int) < 0
  · have HS0 := Lib.hid (szR_neg hs0)
    go_enter Tryd.func5, Tryd.ntmps5
    go_wp2_with fail
    refine (szStmt_t (H0.out.below bel) (by omega) (by omega)).mono ?_
    rintro e v1 ⟨rfl, bv1⟩
    rw [HS0.out]
    go_wp2
    go_ret
    exact ⟨rfl, bel⟩
  · have HS0 := Lib.hid (szR_pos (left := 1048576) (tot := szD x0.d) (by omega))
    have HN0 := Lib.hid (show szD x0.d ≤ 1048576 by omega)
    have hl0 : 0 ≤ (1048576 : Int) - ((szD x0.d : Nat) : Int) := by omega
    clear hs0
    go_enter Tryd.func5, Tryd.ntmps5
    have TA0 := Lib.hid (Rep.lt _ H0.out)
    go_wp2_with fail
    refine (szStmt_t (H0.out.below bel) (by omega) (by omega)).mono ?_
    rintro e w1 ⟨rfl, b1⟩
    rw [HS0.out]
    have P0_1n : Box9 w1 w.heap.size (.string x0.write.arr) (.slice A2_0 x0.write.subs.length c2_0) (.int .i64 x0.value.kind) (.int .i64 x0.value.num) (.slice A5_0 x0.value.index.coefs.length c5_0) (.int .i64 x0.value.index.const) (.string x0.value.read.arr) (.slice A8_0 x0.value.read.subs.length c8_0) (.slice A9_0 x0.value.kids.length c9_0) := by
      refine ⟨?_, ?_, ?_, ?_, ?_, ?_, ?_, ?_, ?_⟩ <;> (rw [(b1).cell (by simp; try omega)]; go_simp)
    have s1 : Below w.heap.size w w1 := bel
    have RA0_1 := Lib.hid (H0.out.below s1); clear H0
    have S1 : Below w.heap.size w w1 := s1
    have Z1 := Lib.hid (s1.size)
    have LP0 := Lib.hid (lt_of_cell P0_1n.1)
    go_wp2_with fail
    refine (toStmt_m (RA0_1.out.below bel) HN0.out).mono ?_
    rintro e w2 ⟨A2_2, c2_2, A5_2, c5_2, A8_2, c8_2, A9_2, c9_2, bs2, rfl, r2, nd2, hb2, b2⟩
    have Tc0 := Lib.hid (show ∀ y ∈ bs2, w1.heap.size + 0 ≤ y ∧ y < w2.heap.size from fun y hy => ⟨by have := hb2 y hy; (try simp at this); omega, Rep.lt _ r2 y hy⟩)
    have P0_2 := P0_1n.to b2; clear P0_1n
    have RA0_2 := Lib.hid (RA0_1.out.below b2); clear RA0_1
    have S2 : Below w.heap.size w w2 := below_tr S1 b2
    have Z2 := Lib.hid (b2.size)
    have r2h := Lib.hid r2; clear r2 hb2
    clear nd2
    go_wp2_with fail
    refine (specFormatStmt_c (r2h.out.below bel)).mono ?_
    rintro e w3 ⟨rfl, b3⟩
    have P0_3 := P0_2.to b3; clear P0_2
    have RA0_3 := Lib.hid (RA0_2.out.below b3); clear RA0_2
    have Rc0_3 := Lib.hid (r2h.out.below b3); clear r2h
    have S3 : Below w.heap.size w w3 := below_tr S2 b3
    have Z3 := Lib.hid (b3.size)
    go_wp2_with fail
    refine (toStmt_m (RA0_3.out.below bel) HN0.out).mono ?_
    rintro e w4 ⟨A2_4, c2_4, A5_4, c5_4, A8_4, c8_4, A9_4, c9_4, bs4, rfl, r4, nd4, hb4, b4⟩
    have Tx0 := Lib.hid (show ∀ y ∈ bs4, w3.heap.size + 0 ≤ y ∧ y < w4.heap.size from fun y hy => ⟨by have := hb4 y hy; (try simp at this); omega, Rep.lt _ r4 y hy⟩)
    have P0_4 := P0_3.to b4; clear P0_3
    have RA0_4 := Lib.hid (RA0_3.out.below b4); clear RA0_3
    have S4 : Below w.heap.size w w4 := below_tr S3 b4
    have Z4 := Lib.hid (b4.size)
    have r4h := Lib.hid r4; clear r4 hb4
    have ltP0_4 := lt_of_cell P0_4.1
    go_wp2_with fail
    refine (implFormatStmt_c (r4h.out.below bel)).mono ?_
    rintro e w5 ⟨rfl, b5⟩
    have X0_5n : Box9 w5 w4.heap.size (.string x0.write.arr) (.slice A2_4 x0.write.subs.length c2_4) (.int .i64 x0.value.kind) (.int .i64 x0.value.num) (.slice A5_4 x0.value.index.coefs.length c5_4) (.int .i64 x0.value.index.const) (.string x0.value.read.arr) (.slice A8_4 x0.value.read.subs.length c8_4) (.slice A9_4 x0.value.kids.length c9_4) := by
      refine ⟨?_, ?_, ?_, ?_, ?_, ?_, ?_, ?_, ?_⟩ <;> (rw [(b5).cell (by simp; try omega)]; go_simp)
    have s5 : Below w4.heap.size w4 w5 := bel
    have P0_5 := P0_4.to s5; clear P0_4
    have RA0_5 := Lib.hid (RA0_4.out.below s5); clear RA0_4
    have Rx0_5 := Lib.hid (r4h.out.below s5); clear r4h
    have S5 : Below w.heap.size w w5 := below_tr S4 s5
    have Z5 := Lib.hid (s5.size)
    have LX0 := Lib.hid (lt_of_cell X0_5n.1)
    go_wp2_with fail
    go_region_held3 (fun w' => Box9 w' w.heap.size (.string x0.write.arr) (.slice A2_0 x0.write.subs.length c2_0) (.int .i64 x0.value.kind) (.int .i64 x0.value.num) (.slice A5_0 x0.value.index.coefs.length c5_0) (.int .i64 x0.value.index.const) (.string x0.value.read.arr) (.slice A8_0 x0.value.read.subs.length c8_0) (.slice A9_0 x0.value.kids.length c9_0) ∧ Box9 w' w4.heap.size (.string x0.write.arr) (.slice A2_4 x0.write.subs.length c2_4) (.int .i64 x0.value.kind) (.int .i64 x0.value.num) (.slice A5_4 x0.value.index.coefs.length c5_4) (.int .i64 x0.value.index.const) (.string x0.value.read.arr) (.slice A8_4 x0.value.read.subs.length c8_4) (.slice A9_4 x0.value.kids.length c9_4)) (first | exact ⟨P0_5, X0_5n⟩ | exact ⟨P0_5.to (of_drew b6), X0_5n.to (of_drew b6)⟩ | exact ⟨(P0_5.to (of_drew b6)).to b7, (X0_5n.to (of_drew b6)).to b7⟩ | skip)
      (first | (go_at_call 19; refine (toStmt_m (RA0_5.out.below (Below.refl _ _).drew) HN0.out).mono ?_; rintro e w6 ⟨A2_6, c2_6, A5_6, c5_6, A8_6, c8_6, A9_6, c9_6, bs6, rfl, r6, nd6, hb6, b6⟩) | (go_at_call 21; refine (eqStmt_c (Rx0_5.out.below (of_drew b6)) r6).mono ?_; rintro e w7 ⟨rfl, b7⟩))
    have t7 : Below w5.heap.size w5 w7 := below_tr (of_drew b6) b7
    clear b6 b7 r6 hb6 nd6
    have P0_7 := P0_5.to t7; clear P0_5
    have X0_7 := X0_5n.to t7; clear X0_5n
    have RA0_7 := Lib.hid (RA0_5.out.below t7); clear RA0_5
    have Rx0_7 := Lib.hid (Rx0_5.out.below t7); clear Rx0_5
    have S7 : Below w.heap.size w w7 := below_tr S5 t7
    have Z7 := Lib.hid (t7.size)
    go_wp2
    go_ret
    exact ⟨rfl, S7⟩
end Go.Proofs.YtbhniobgaoncaaaDoor
