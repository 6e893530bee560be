/- The law FnExactSubstStmt: its walk. Printed by lawgen.py. -/
import Derived.Test.YtadmmlflngkpiaaLaw
import Derived.Test.YtadmmlflngkpiaaUni
import Derived.Test.YtadmmlflngkpiaaSubs1
import Derived.Test.YtadmmlflngkpiaaProg1
import Derived.Test.YtadmmlflngkpiaaTyAffine
import Derived.Test.YtadmmlflngkpiaaOps
set_option linter.all false
set_option linter.unusedSimpArgs false
set_option linter.unusedVariables false
namespace Go.Proofs.Ytadmmlflngkpiaa
open Go.ChangeShapes Go.WideShapes Go.ChangeAt Go.RowKit Go.Deep

set_option maxRecDepth 100000 in
set_option maxHeartbeats 2000000 in
theorem FnExactSubstStmt_walk {w : World} {x0 : Stm} {A2_0 : Option Addr} {c2_0 : Nat} {A5_0 : Option Addr} {c5_0 : Nat} {A8_0 : Option Addr} {c8_0 : Nat} {A9_0 : Option Addr} {c9_0 : Nat} {bs0 : List Nat} {x1 : Int} {x2 : Aff} {A2 : Option Addr} {n2 : Nat} {c2 : Nat} {k2 : Int} {bs2 : List Nat} (h0 : Rep w x0.d [.string x0.write.arr, .slice A2_0 x0.write.subs.length c2_0, .int .i64 x0.value.kind, .int .i64 x0.value.num, .slice A5_0 x0.value.index.coefs.length c5_0, .int .i64 x0.value.index.const, .string x0.value.read.arr, .slice A8_0 x0.value.read.subs.length c8_0, .slice A9_0 x0.value.kids.length c9_0] bs0) (h2 : Rep w x2.d [.slice A2 n2 c2, .int .i64 k2] bs2) :
    Calls Try.prog 6 #[.agg #[.string x0.write.arr, .slice A2_0 x0.write.subs.length c2_0, .int .i64 x0.value.kind, .int .i64 x0.value.num, .slice A5_0 x0.value.index.coefs.length c5_0, .int .i64 x0.value.index.const, .string x0.value.read.arr, .slice A8_0 x0.value.read.subs.length c8_0, .slice A9_0 x0.value.kids.length c9_0], .int .i64 x1, .agg #[.slice A2 n2 c2, .int .i64 k2]] w fun e w' => e = .returned (.bool true) ∧ Below w.heap.size w w' := by
  have H0 := Lib.hid h0; clear h0
  have H2 := Lib.hid h2; clear h2
  by_cases hs0 : (1048576 : Int) - ((szD x0.d : Nat) : Int) < 0
  · have HS0 := Lib.hid (szR_neg hs0)
    go_enter Try.func6, Try.ntmps6
    go_wp2_with fail
    refine (szStmt_t (H0.out.below bel) (by omega) (by omega)).mono ?_
    rintro e v1 ⟨rfl, bv1⟩
    rw [HS0.out]
    go_wp2
    go_ret
    exact ⟨rfl, bel⟩
  · have HS0 := Lib.hid (szR_pos (left := 1048576) (tot := szD x0.d) (by omega))
    have HN0 := Lib.hid (show szD x0.d ≤ 1048576 by omega)
    have hl0 : 0 ≤ (1048576 : Int) - ((szD x0.d : Nat) : Int) := by omega
    clear hs0
    by_cases hs2 : ((1048576 - ((szD x0.d : Nat) : Int)) : Int) - ((x2.coefs.length : Nat) : Int) < 0
    · have HS2 := Lib.hid (szR_neg hs2)
      go_enter Try.func6, Try.ntmps6
      go_wp2_with fail
      refine (szStmt_t (H0.out.below bel) (by omega) (by omega)).mono ?_
      rintro e v1 ⟨rfl, bv1⟩
      rw [HS0.out]
      have Pv0 : Box9 v1 w.heap.size (.string x0.write.arr) (.slice A2_0 x0.write.subs.length c2_0) (.int .i64 x0.value.kind) (.int .i64 x0.value.num) (.slice A5_0 x0.value.index.coefs.length c5_0) (.int .i64 x0.value.index.const) (.string x0.value.read.arr) (.slice A8_0 x0.value.read.subs.length c8_0) (.slice A9_0 x0.value.kids.length c9_0) := by
        refine ⟨?_, ?_, ?_, ?_, ?_, ?_, ?_, ?_, ?_⟩ <;> (rw [bv1.cell (by simp; try omega)]; go_simp)
      have Pv2 : Box2 v1 (w.heap.size + 1) (.slice A2 n2 c2) (.int .i64 k2) := by
        refine ⟨?_, ?_⟩ <;> (rw [bv1.cell (by simp; try omega)]; go_simp)
      have Sv1 : Below w.heap.size w v1 := bel
      go_wp2_with fail
      refine (szAffine_t (H2.out.below bel) (by omega) (by omega)).mono ?_
      rintro e v2 ⟨rfl, bv2⟩
      rw [HS2.out]
      go_wp2
      go_ret
      exact ⟨rfl, bel⟩
    · have HS2 := Lib.hid (szR_pos (left := (1048576 - ((szD x0.d : Nat) : Int))) (tot := x2.coefs.length) (by omega))
      have HN2 := Lib.hid (show x2.coefs.length ≤ 1048576 by omega)
      have hl2 : 0 ≤ ((1048576 - ((szD x0.d : Nat) : Int)) : Int) - ((x2.coefs.length : Nat) : Int) := by omega
      clear hs2
      have hq1 : ((SubstStmtF x0 x1 x2).2 != (SubstStmtF x0 x1 x2).2) = false := by simp
      have HL := Lib.hid (SubstStmtF_len x0 x1 x2)
      go_enter Try.func6, Try.ntmps6
      have TA0 := Lib.hid (Rep.lt _ H0.out)
      have TA2 := Lib.hid (Rep.lt _ H2.out)
      go_wp2_with fail
      refine (szStmt_t (H0.out.below bel) (by omega) (by omega)).mono ?_
      rintro e w1 ⟨rfl, b1⟩
      rw [HS0.out]
      have P0_1n : Box9 w1 w.heap.size (.string x0.write.arr) (.slice A2_0 x0.write.subs.length c2_0) (.int .i64 x0.value.kind) (.int .i64 x0.value.num) (.slice A5_0 x0.value.index.coefs.length c5_0) (.int .i64 x0.value.index.const) (.string x0.value.read.arr) (.slice A8_0 x0.value.read.subs.length c8_0) (.slice A9_0 x0.value.kids.length c9_0) := by
        refine ⟨?_, ?_, ?_, ?_, ?_, ?_, ?_, ?_, ?_⟩ <;> (rw [(b1).cell (by simp; try omega)]; go_simp)
      have P2_1n : Box2 w1 (w.heap.size + 1) (.slice A2 n2 c2) (.int .i64 k2) := by
        refine ⟨?_, ?_⟩ <;> (rw [(b1).cell (by simp; try omega)]; go_simp)
      have s1 : Below w.heap.size w w1 := bel
      have RA0_1 := Lib.hid (H0.out.below s1); clear H0
      have RA2_1 := Lib.hid (H2.out.below s1); clear H2
      have S1 : Below w.heap.size w w1 := s1
      have Z1 := Lib.hid (s1.size)
      have LP0 := Lib.hid (lt_of_cell P0_1n.1)
      have LP2 := Lib.hid (lt_of_cell P2_1n.1)
      go_wp2_with fail
      refine (szAffine_t (RA2_1.out.below bel) (by omega) (by omega)).mono ?_
      rintro e w2 ⟨rfl, b2⟩
      rw [HS2.out]
      have P0_2 := P0_1n.to b2; clear P0_1n
      have P2_2 := P2_1n.to b2; clear P2_1n
      have RA0_2 := Lib.hid (RA0_1.out.below b2); clear RA0_1
      have RA2_2 := Lib.hid (RA2_1.out.below b2); clear RA2_1
      have S2 : Below w.heap.size w w2 := below_tr S1 b2
      have Z2 := Lib.hid (b2.size)
      go_upto_region 8 with (fail)
      go_cut [8, 9] (fun u0 u1 wc => ∃ (gw_ : Nat) (bsw : List Nat) (A2_w : Option Addr) (c2_w : Nat) (A5_w : Option Addr) (c5_w : Nat) (A8_w : Option Addr) (c8_w : Nat) (A9_w : Option Addr) (c9_w : Nat), u0 = .pointer (some ⟨gw_, 0, none⟩) ∧ u1 = .bool (SubstStmtF x0 x1 x2).2 ∧ Box9 wc gw_ (.string (SubstStmtF x0 x1 x2).1.write.arr) (.slice A2_w (SubstStmtF x0 x1 x2).1.write.subs.length c2_w) (.int .i64 (SubstStmtF x0 x1 x2).1.value.kind) (.int .i64 (SubstStmtF x0 x1 x2).1.value.num) (.slice A5_w (SubstStmtF x0 x1 x2).1.value.index.coefs.length c5_w) (.int .i64 (SubstStmtF x0 x1 x2).1.value.index.const) (.string (SubstStmtF x0 x1 x2).1.value.read.arr) (.slice A8_w (SubstStmtF x0 x1 x2).1.value.read.subs.length c8_w) (.slice A9_w (SubstStmtF x0 x1 x2).1.value.kids.length c9_w) ∧ Rep wc (SubstStmtF x0 x1 x2).1.d [.string (SubstStmtF x0 x1 x2).1.write.arr, .slice A2_w (SubstStmtF x0 x1 x2).1.write.subs.length c2_w, .int .i64 (SubstStmtF x0 x1 x2).1.value.kind, .int .i64 (SubstStmtF x0 x1 x2).1.value.num, .slice A5_w (SubstStmtF x0 x1 x2).1.value.index.coefs.length c5_w, .int .i64 (SubstStmtF x0 x1 x2).1.value.index.const, .string (SubstStmtF x0 x1 x2).1.value.read.arr, .slice A8_w (SubstStmtF x0 x1 x2).1.value.read.subs.length c8_w, .slice A9_w (SubstStmtF x0 x1 x2).1.value.kids.length c9_w] bsw ∧ w2.heap.size ≤ gw_ ∧ Below w2.heap.size w2 wc)
      case first =>
        go_region_held3 (fun w' => Box9 w' w.heap.size (.string x0.write.arr) (.slice A2_0 x0.write.subs.length c2_0) (.int .i64 x0.value.kind) (.int .i64 x0.value.num) (.slice A5_0 x0.value.index.coefs.length c5_0) (.int .i64 x0.value.index.const) (.string x0.value.read.arr) (.slice A8_0 x0.value.read.subs.length c8_0) (.slice A9_0 x0.value.kids.length c9_0) ∧ Box2 w' (w.heap.size + 1) (.slice A2 n2 c2) (.int .i64 k2)) (first | (refine ⟨P0_2.to ?_, P2_2.to ?_⟩ <;> (repeat (first | with_reducible exact Below.refl _ _ | refine Below.setCell ?_ (by simp; try omega) _ | refine below_al ?_ _ | refine Below.alloc ?_ (by simp [World.setCell]; try omega) _ | refine below_drewN ?_ _ | refine Below.drew ?_ | refine below_tr ?_ ‹Below _ _ _›)); done) | skip)
          (first | (go_at_call_of 17 (Value.agg #[.string x0.write.arr, .slice A2_0 x0.write.subs.length c2_0, .int .i64 x0.value.kind, .int .i64 x0.value.num, .slice A5_0 x0.value.index.coefs.length c5_0, .int .i64 x0.value.index.const, .string x0.value.read.arr, .slice A8_0 x0.value.read.subs.length c8_0, .slice A9_0 x0.value.kids.length c9_0]); refine (toStmt_m (RA0_2.out.below bel) HN0.out).mono ?_; rintro e w3 ⟨A2_3, c2_3, A5_3, c5_3, A8_3, c8_3, A9_3, c9_3, bs3, rfl, r3, nd3, hb3, b3⟩; have z3 := b3.size; (try simp at z3); (first | have q3 : Row w3 w2.heap.size 52 [.string ⟨#[]⟩, .slice none 0 0, .int .i64 0, .int .i64 0, .slice none 0 0, .int .i64 0, .string ⟨#[]⟩, .slice none 0 0, .slice none 0 0] := (Row.new w2.drew [.string ⟨#[]⟩, .slice none 0 0, .int .i64 0, .int .i64 0, .slice none 0 0, .int .i64 0, .string ⟨#[]⟩, .slice none 0 0, .slice none 0 0] 52).to b3 | skip)) | (go_at_call_of 28 (Value.agg #[.slice A2 n2 c2, .int .i64 k2]); refine (toAffine_m (RA2_2.out.below bel) HN2.out).mono ?_; rintro e w4 ⟨A4, n4, c4, k4, bs4, rfl, r4, nd4, hb4, b4⟩; have z4 := b4.size; (try simp at z4); (first | have q4 := Row.to q3 b4 | have q4 := (Row.new w3 [.string ⟨#[]⟩, .slice none 0 0, .int .i64 0, .int .i64 0, .slice none 0 0, .int .i64 0, .string ⟨#[]⟩, .slice none 0 0, .slice none 0 0] 52).to b4 | skip)) | (go_at_call 27; refine (specSubstStmt_c (r3.below bel) (r4.below bel)).mono ?_; rintro e w5 ⟨A2_5, c2_5, A5_5, c5_5, A8_5, c8_5, A9_5, c9_5, bs5, rfl, r5, nd5, hb5, b5⟩; have z5 := b5.size; (try simp at z5); (first | have q5 := Row.to q4 b5 | have q5 := (Row.new w4 [.string ⟨#[]⟩, .slice none 0 0, .int .i64 0, .int .i64 0, .slice none 0 0, .int .i64 0, .string ⟨#[]⟩, .slice none 0 0, .slice none 0 0] 52).to b5 | skip); (try (have q5f0 := q5.frozen 0; have q5f1 := q5.frozen 1; have q5f2 := q5.frozen 2; have q5f3 := q5.frozen 3; have q5f4 := q5.frozen 4; have q5f5 := q5.frozen 5; have q5f6 := q5.frozen 6; have q5f7 := q5.frozen 7; have q5f8 := q5.frozen 8; obtain ⟨q5c0, q5c1, q5c2, q5c3, q5c4, q5c5, q5c6, q5c7, q5c8⟩ := q5.box9; have q5l := lt_of_cell q5c0))))
        all_goals (
          go_wp2_with fail
          go_meet
          exact ⟨_, bs5, A2_5, c2_5, A5_5, c5_5, A8_5, c8_5, A9_5, c9_5, rfl, rfl, ⟨by go_simp, by go_simp, by go_simp, by go_simp, by go_simp, by go_simp, by go_simp, by go_simp, by go_simp⟩, Rep.keep _ r5 (by
            repeat (first | with_reducible exact Keeps.refl _ _ | refine Keeps.setCell ?_ (fun hm => by have := hb5 _ hm; (try simp at this); omega) _ | refine Keeps.alloc ?_ (fun y hy => by have := Rep.lt _ r5 y hy; first | omega | (simp [World.setCell]; try omega)) _)), by first | omega | (simp; try omega), by (repeat (first | with_reducible exact Below.refl _ _ | refine Below.setCell ?_ (by simp; try omega) _ | refine below_al ?_ _ | refine Below.alloc ?_ (by simp [World.setCell]; try omega) _ | refine below_drewN ?_ _ | refine Below.drew ?_ | refine below_tr ?_ ‹Below _ _ _›))⟩)
      case rest =>
        obtain ⟨gw_, bsw, A2_w, c2_w, A5_w, c5_w, A8_w, c8_w, A9_w, c9_w, rfl, rfl, Pw_, Rw_, hgw, bw⟩ := hcut
        rename World => wqw
        have P0_5 := P0_2.to bw; clear P0_2
        have P2_5 := P2_2.to bw; clear P2_2
        have RA0_5 := Lib.hid (RA0_2.out.below bw); clear RA0_2
        have RA2_5 := Lib.hid (RA2_2.out.below bw); clear RA2_2
        have S5 : Below w.heap.size w wqw := below_tr S2 bw
        have Z5 := Lib.hid (bw.size)
        have Tw0 := Lib.hid (show ∀ y ∈ bsw, y < wqw.heap.size from Rep.lt _ Rw_)
        have Rwh := Lib.hid Rw_; clear Rw_
        have Lw0_ := Lib.hid (lt_of_cell Pw_.1)
        clear hgw bw
        go_wp2_with fail
        refine (toStmt_m (RA0_5.out.below bel) HN0.out).mono ?_
        rintro e w6 ⟨A2_6, c2_6, A5_6, c5_6, A8_6, c8_6, A9_6, c9_6, bs6, rfl, r6, nd6, hb6, b6⟩
        have Tx0 := Lib.hid (show ∀ y ∈ bs6, wqw.heap.size + 0 ≤ y ∧ y < w6.heap.size from fun y hy => ⟨by have := hb6 y hy; (try simp at this); omega, Rep.lt _ r6 y hy⟩)
        have P0_6 := P0_5.to b6; clear P0_5
        have P2_6 := P2_5.to b6; clear P2_5
        have W0_6 := Pw_.to b6; clear Pw_
        have RA0_6 := Lib.hid (RA0_5.out.below b6); clear RA0_5
        have RA2_6 := Lib.hid (RA2_5.out.below b6); clear RA2_5
        have Rw0_6 := Lib.hid (Rwh.out.below b6); clear Rwh
        have S6 : Below w.heap.size w w6 := below_tr S5 b6
        have Z6 := Lib.hid (b6.size)
        have r6h := Lib.hid r6; clear r6 hb6
        have ltP0_6 := lt_of_cell P0_6.1
        have ltP2_6 := lt_of_cell P2_6.1
        have ltW0_6 := lt_of_cell W0_6.1
        go_wp2_with fail
        refine (toAffine_m (RA2_6.out.below bel) HN2.out).mono ?_
        rintro e w7 ⟨A7, n7, c7, k7, bs7, rfl, r7, nd7, hb7, b7⟩
        have Tx2 := Lib.hid (show ∀ y ∈ bs7, w6.heap.size + 1 ≤ y ∧ y < w7.heap.size from fun y hy => ⟨by have := hb7 y hy; (try simp at this); omega, Rep.lt _ r7 y hy⟩)
        have X0_7n : Box9 w7 w6.heap.size (.string x0.write.arr) (.slice A2_6 x0.write.subs.length c2_6) (.int .i64 x0.value.kind) (.int .i64 x0.value.num) (.slice A5_6 x0.value.index.coefs.length c5_6) (.int .i64 x0.value.index.const) (.string x0.value.read.arr) (.slice A8_6 x0.value.read.subs.length c8_6) (.slice A9_6 x0.value.kids.length c9_6) := by
          refine ⟨?_, ?_, ?_, ?_, ?_, ?_, ?_, ?_, ?_⟩ <;> (rw [(b7).cell (by simp; try omega)]; go_simp)
        have s7 : Below w6.heap.size w6 w7 := bel
        have P0_7 := P0_6.to s7; clear P0_6
        have P2_7 := P2_6.to s7; clear P2_6
        have W0_7 := W0_6.to s7; clear W0_6
        have RA0_7 := Lib.hid (RA0_6.out.below s7); clear RA0_6
        have RA2_7 := Lib.hid (RA2_6.out.below s7); clear RA2_6
        have Rw0_7 := Lib.hid (Rw0_6.out.below s7); clear Rw0_6
        have Rx0_7 := Lib.hid (r6h.out.below s7); clear r6h
        have S7 : Below w.heap.size w w7 := below_tr S6 s7
        have Z7 := Lib.hid (s7.size)
        have LX0 := Lib.hid (lt_of_cell X0_7n.1)
        have r7h := Lib.hid r7; clear r7 hb7
        have ltP0_7 := lt_of_cell P0_7.1
        have ltP2_7 := lt_of_cell P2_7.1
        have ltW0_7 := lt_of_cell W0_7.1
        have ltX0_7n := lt_of_cell X0_7n.1
        go_wp2_with fail
        refine (implSubstStmt_c (Rx0_7.out.below bel) (r7h.out.below bel)).mono ?_
        rintro e w8 ⟨A2_8, c2_8, A5_8, c5_8, A8_8, c8_8, A9_8, c9_8, bs8, rfl, r8, nd8, hb8, b8⟩
        have Tg0 := Lib.hid (show ∀ y ∈ bs8, w7.heap.size + 1 ≤ y ∧ y < w8.heap.size from fun y hy => ⟨by have := hb8 y hy; (try simp at this); omega, Rep.lt _ r8 y hy⟩)
        have X2_8n := (Box2.new w7 _ _ _).to b8
        have s8 : Below w7.heap.size w7 w8 := bel
        have P0_8 := P0_7.to s8; clear P0_7
        have P2_8 := P2_7.to s8; clear P2_7
        have W0_8 := W0_7.to s8; clear W0_7
        have X0_8 := X0_7n.to s8; clear X0_7n
        have RA0_8 := Lib.hid (RA0_7.out.below s8); clear RA0_7
        have RA2_8 := Lib.hid (RA2_7.out.below s8); clear RA2_7
        have Rw0_8 := Lib.hid (Rw0_7.out.below s8); clear Rw0_7
        have Rx0_8 := Lib.hid (Rx0_7.out.below s8); clear Rx0_7
        have Rx2_8 := Lib.hid (r7h.out.below s8); clear r7h
        have S8 : Below w.heap.size w w8 := below_tr S7 s8
        have Z8 := Lib.hid (s8.size)
        have LX2 := Lib.hid (lt_of_cell X2_8n.1)
        have r8h := Lib.hid r8; clear r8 hb8
        have ltP0_8 := lt_of_cell P0_8.1
        have ltP2_8 := lt_of_cell P2_8.1
        have ltW0_8 := lt_of_cell W0_8.1
        have ltX0_8 := lt_of_cell X0_8.1
        have ltX2_8n := lt_of_cell X2_8n.1
        go_wp2_with fail
        refine (eqStmt_c (r8h.out.below bel) (Rw0_8.out.below bel)).mono ?_
        rintro e w9 ⟨rfl, b9⟩
        have G0_9n : Box9 w9 w8.heap.size (.string (SubstStmtF x0 x1 x2).1.write.arr) (.slice A2_8 (SubstStmtF x0 x1 x2).1.write.subs.length c2_8) (.int .i64 (SubstStmtF x0 x1 x2).1.value.kind) (.int .i64 (SubstStmtF x0 x1 x2).1.value.num) (.slice A5_8 (SubstStmtF x0 x1 x2).1.value.index.coefs.length c5_8) (.int .i64 (SubstStmtF x0 x1 x2).1.value.index.const) (.string (SubstStmtF x0 x1 x2).1.value.read.arr) (.slice A8_8 (SubstStmtF x0 x1 x2).1.value.read.subs.length c8_8) (.slice A9_8 (SubstStmtF x0 x1 x2).1.value.kids.length c9_8) := by
          refine ⟨?_, ?_, ?_, ?_, ?_, ?_, ?_, ?_, ?_⟩ <;> (rw [(b9).cell (by simp; try omega)]; go_simp)
        have s9 : Below w8.heap.size w8 w9 := bel
        have P0_9 := P0_8.to s9; clear P0_8
        have P2_9 := P2_8.to s9; clear P2_8
        have W0_9 := W0_8.to s9; clear W0_8
        have X0_9 := X0_8.to s9; clear X0_8
        have X2_9 := X2_8n.to s9; clear X2_8n
        have RA0_9 := Lib.hid (RA0_8.out.below s9); clear RA0_8
        have RA2_9 := Lib.hid (RA2_8.out.below s9); clear RA2_8
        have Rw0_9 := Lib.hid (Rw0_8.out.below s9); clear Rw0_8
        have Rx0_9 := Lib.hid (Rx0_8.out.below s9); clear Rx0_8
        have Rx2_9 := Lib.hid (Rx2_8.out.below s9); clear Rx2_8
        have Rg0_9 := Lib.hid (r8h.out.below s9); clear r8h
        have S9 : Below w.heap.size w w9 := below_tr S8 s9
        have Z9 := Lib.hid (s9.size)
        have LG0 := Lib.hid (lt_of_cell G0_9n.1)
        go_wp2_with fail
        go_region_held3 (fun w' => Box9 w' w.heap.size (.string x0.write.arr) (.slice A2_0 x0.write.subs.length c2_0) (.int .i64 x0.value.kind) (.int .i64 x0.value.num) (.slice A5_0 x0.value.index.coefs.length c5_0) (.int .i64 x0.value.index.const) (.string x0.value.read.arr) (.slice A8_0 x0.value.read.subs.length c8_0) (.slice A9_0 x0.value.kids.length c9_0) ∧ Box9 w' w6.heap.size (.string x0.write.arr) (.slice A2_6 x0.write.subs.length c2_6) (.int .i64 x0.value.kind) (.int .i64 x0.value.num) (.slice A5_6 x0.value.index.coefs.length c5_6) (.int .i64 x0.value.index.const) (.string x0.value.read.arr) (.slice A8_6 x0.value.read.subs.length c8_6) (.slice A9_6 x0.value.kids.length c9_6)) (first | exact ⟨P0_9, X0_9⟩ | exact ⟨P0_9.to (of_drew b10), X0_9.to (of_drew b10)⟩ | exact ⟨(P0_9.to (of_drew b10)).to b11, (X0_9.to (of_drew b10)).to b11⟩ | skip)
          (first | (go_at_call 17; refine (toStmt_m (RA0_9.out.below (Below.refl _ _).drew) HN0.out).mono ?_; rintro e w10 ⟨A2_10, c2_10, A5_10, c5_10, A8_10, c8_10, A9_10, c9_10, bs10, rfl, r10, nd10, hb10, b10⟩) | (go_at_call 19; refine (eqStmt_c (Rx0_9.out.below (of_drew b10)) r10).mono ?_; rintro e w11 ⟨rfl, b11⟩))
        have t11 : Below w9.heap.size w9 w11 := below_tr (of_drew b10) b11
        clear b10 b11 r10 hb10 nd10
        have P0_11 := P0_9.to t11; clear P0_9
        have P2_11 := P2_9.to t11; clear P2_9
        have W0_11 := W0_9.to t11; clear W0_9
        have X0_11 := X0_9.to t11; clear X0_9
        have X2_11 := X2_9.to t11; clear X2_9
        have G0_11 := G0_9n.to t11; clear G0_9n
        have RA0_11 := Lib.hid (RA0_9.out.below t11); clear RA0_9
        have RA2_11 := Lib.hid (RA2_9.out.below t11); clear RA2_9
        have Rw0_11 := Lib.hid (Rw0_9.out.below t11); clear Rw0_9
        have Rx0_11 := Lib.hid (Rx0_9.out.below t11); clear Rx0_9
        have Rx2_11 := Lib.hid (Rx2_9.out.below t11); clear Rx2_9
        have Rg0_11 := Lib.hid (Rg0_9.out.below t11); clear Rg0_9
        have S11 : Below w.heap.size w w11 := below_tr S9 t11
        have Z11 := Lib.hid (t11.size)
        go_wp2_with fail
        go_region_held3 (fun w' => Box2 w' (w.heap.size + 1) (.slice A2 n2 c2) (.int .i64 k2) ∧ Box2 w' w7.heap.size (.slice A7 n7 c7) (.int .i64 k7)) (first | exact ⟨P2_11, X2_11⟩ | exact ⟨P2_11.to (of_drew b12), X2_11.to (of_drew b12)⟩ | exact ⟨(P2_11.to (of_drew b12)).to b13, (X2_11.to (of_drew b12)).to b13⟩ | skip)
          (first | (go_at_call 28; refine (toAffine_m (RA2_11.out.below (Below.refl _ _).drew) HN2.out).mono ?_; rintro e w12 ⟨A12, n12, c12, k12, bs12, rfl, r12, nd12, hb12, b12⟩) | (go_at_call 30; refine (eqAffine_c (Rx2_11.out.below (of_drew b12)) r12).mono ?_; rintro e w13 ⟨rfl, b13⟩))
        have t13 : Below w11.heap.size w11 w13 := below_tr (of_drew b12) b13
        clear b12 b13 r12 hb12 nd12
        have P0_13 := P0_11.to t13; clear P0_11
        have P2_13 := P2_11.to t13; clear P2_11
        have W0_13 := W0_11.to t13; clear W0_11
        have X0_13 := X0_11.to t13; clear X0_11
        have X2_13 := X2_11.to t13; clear X2_11
        have G0_13 := G0_11.to t13; clear G0_11
        have RA0_13 := Lib.hid (RA0_11.out.below t13); clear RA0_11
        have RA2_13 := Lib.hid (RA2_11.out.below t13); clear RA2_11
        have Rw0_13 := Lib.hid (Rw0_11.out.below t13); clear Rw0_11
        have Rx0_13 := Lib.hid (Rx0_11.out.below t13); clear Rx0_11
        have Rx2_13 := Lib.hid (Rx2_11.out.below t13); clear Rx2_11
        have Rg0_13 := Lib.hid (Rg0_11.out.below t13); clear Rg0_11
        have S13 : Below w.heap.size w w13 := below_tr S11 t13
        have Z13 := Lib.hid (t13.size)
        have hcnt : Stm.cntM (SubstStmtF x0 x1 x2).1 ≤ 1000000 := HL.out
        have hn0c : Stm.cntM x0 ≤ 10000000 := by have := HN0.out; have := Stm.cntM_le x0; omega
        go_wp2_with fail
        refine (markStmt_n Rx0_13.out nd6 (q := 1) (by omega) (by omega)).mono ?_
        rintro e w14 ⟨rfl, r14, t14⟩
        have m14h := Lib.hid r14; clear r14
        have P0_14 := t14.box9 P0_13 (fun hm => by have h1 := Tx0.out _ hm; have q0 := Z1.out; have q1 := LP0.out; have q2 := LP2.out; have q3 := Z2.out; have q4 := Z5.out; have q5 := Lw0_.out; have q6 := Z6.out; have q7 := Z7.out; have q8 := LX0.out; have q9 := Z8.out; have q10 := LX2.out; have q11 := Z9.out; have q12 := LG0.out; have q13 := Z11.out; have q14 := Z13.out; omega); clear P0_13
        have P2_14 := t14.box2 P2_13 (fun hm => by have h1 := Tx0.out _ hm; have q0 := Z1.out; have q1 := LP0.out; have q2 := LP2.out; have q3 := Z2.out; have q4 := Z5.out; have q5 := Lw0_.out; have q6 := Z6.out; have q7 := Z7.out; have q8 := LX0.out; have q9 := Z8.out; have q10 := LX2.out; have q11 := Z9.out; have q12 := LG0.out; have q13 := Z11.out; have q14 := Z13.out; omega); clear P2_13
        have W0_14 := t14.box9 W0_13 (fun hm => by have h1 := Tx0.out _ hm; have q0 := Z1.out; have q1 := LP0.out; have q2 := LP2.out; have q3 := Z2.out; have q4 := Z5.out; have q5 := Lw0_.out; have q6 := Z6.out; have q7 := Z7.out; have q8 := LX0.out; have q9 := Z8.out; have q10 := LX2.out; have q11 := Z9.out; have q12 := LG0.out; have q13 := Z11.out; have q14 := Z13.out; omega); clear W0_13
        have X0_14 := t14.box9 X0_13 (fun hm => by have h1 := Tx0.out _ hm; have q0 := Z1.out; have q1 := LP0.out; have q2 := LP2.out; have q3 := Z2.out; have q4 := Z5.out; have q5 := Lw0_.out; have q6 := Z6.out; have q7 := Z7.out; have q8 := LX0.out; have q9 := Z8.out; have q10 := LX2.out; have q11 := Z9.out; have q12 := LG0.out; have q13 := Z11.out; have q14 := Z13.out; omega); clear X0_13
        have X2_14 := t14.box2 X2_13 (fun hm => by have h1 := Tx0.out _ hm; have q0 := Z1.out; have q1 := LP0.out; have q2 := LP2.out; have q3 := Z2.out; have q4 := Z5.out; have q5 := Lw0_.out; have q6 := Z6.out; have q7 := Z7.out; have q8 := LX0.out; have q9 := Z8.out; have q10 := LX2.out; have q11 := Z9.out; have q12 := LG0.out; have q13 := Z11.out; have q14 := Z13.out; omega); clear X2_13
        have G0_14 := t14.box9 G0_13 (fun hm => by have h1 := Tx0.out _ hm; have q0 := Z1.out; have q1 := LP0.out; have q2 := LP2.out; have q3 := Z2.out; have q4 := Z5.out; have q5 := Lw0_.out; have q6 := Z6.out; have q7 := Z7.out; have q8 := LX0.out; have q9 := Z8.out; have q10 := LX2.out; have q11 := Z9.out; have q12 := LG0.out; have q13 := Z11.out; have q14 := Z13.out; omega); clear G0_13
        have RA0_14 := Lib.hid (Rep.keep _ RA0_13.out (t14.keeps fun y hy => ⟨Rep.lt _ RA0_13.out y hy, fun hm => by have h1 := Tx0.out y hm; have h2 := TA0.out y hy; have q0 := Z1.out; have q1 := LP0.out; have q2 := LP2.out; have q3 := Z2.out; have q4 := Z5.out; have q5 := Lw0_.out; have q6 := Z6.out; have q7 := Z7.out; have q8 := LX0.out; have q9 := Z8.out; have q10 := LX2.out; have q11 := Z9.out; have q12 := LG0.out; have q13 := Z11.out; have q14 := Z13.out; omega⟩)); clear RA0_13
        have RA2_14 := Lib.hid (Rep.keep _ RA2_13.out (t14.keeps fun y hy => ⟨Rep.lt _ RA2_13.out y hy, fun hm => by have h1 := Tx0.out y hm; have h2 := TA2.out y hy; have q0 := Z1.out; have q1 := LP0.out; have q2 := LP2.out; have q3 := Z2.out; have q4 := Z5.out; have q5 := Lw0_.out; have q6 := Z6.out; have q7 := Z7.out; have q8 := LX0.out; have q9 := Z8.out; have q10 := LX2.out; have q11 := Z9.out; have q12 := LG0.out; have q13 := Z11.out; have q14 := Z13.out; omega⟩)); clear RA2_13
        have Rw0_14 := Lib.hid (Rep.keep _ Rw0_13.out (t14.keeps fun y hy => ⟨Rep.lt _ Rw0_13.out y hy, fun hm => by have h1 := Tx0.out y hm; have h2 := Tw0.out y hy; have q0 := Z1.out; have q1 := LP0.out; have q2 := LP2.out; have q3 := Z2.out; have q4 := Z5.out; have q5 := Lw0_.out; have q6 := Z6.out; have q7 := Z7.out; have q8 := LX0.out; have q9 := Z8.out; have q10 := LX2.out; have q11 := Z9.out; have q12 := LG0.out; have q13 := Z11.out; have q14 := Z13.out; omega⟩)); clear Rw0_13
        have Rx2_14 := Lib.hid (Rep.keep _ Rx2_13.out (t14.keeps fun y hy => ⟨Rep.lt _ Rx2_13.out y hy, fun hm => by have h1 := Tx0.out y hm; have h2 := Tx2.out y hy; have q0 := Z1.out; have q1 := LP0.out; have q2 := LP2.out; have q3 := Z2.out; have q4 := Z5.out; have q5 := Lw0_.out; have q6 := Z6.out; have q7 := Z7.out; have q8 := LX0.out; have q9 := Z8.out; have q10 := LX2.out; have q11 := Z9.out; have q12 := LG0.out; have q13 := Z11.out; have q14 := Z13.out; omega⟩)); clear Rx2_13
        have Rg0_14 := Lib.hid (Rep.keep _ Rg0_13.out (t14.keeps fun y hy => ⟨Rep.lt _ Rg0_13.out y hy, fun hm => by have h1 := Tx0.out y hm; have h2 := Tg0.out y hy; have q0 := Z1.out; have q1 := LP0.out; have q2 := LP2.out; have q3 := Z2.out; have q4 := Z5.out; have q5 := Lw0_.out; have q6 := Z6.out; have q7 := Z7.out; have q8 := LX0.out; have q9 := Z8.out; have q10 := LX2.out; have q11 := Z9.out; have q12 := LG0.out; have q13 := Z11.out; have q14 := Z13.out; omega⟩)); clear Rg0_13
        have S14 : Below w.heap.size w w14 := S13.trans (t14.below S13.size (fun y hm => by have h1 := Tx0.out y hm; have q0 := Z1.out; have q1 := LP0.out; have q2 := LP2.out; have q3 := Z2.out; have q4 := Z5.out; have q5 := Lw0_.out; have q6 := Z6.out; have q7 := Z7.out; have q8 := LX0.out; have q9 := Z8.out; have q10 := LX2.out; have q11 := Z9.out; have q12 := LG0.out; have q13 := Z11.out; have q14 := Z13.out; omega))
        have Z14 := Lib.hid (show w13.heap.size ≤ w14.heap.size from t14.size)
        clear t14
        have hn2c : x2.coefs.length ≤ 10000000 := by have := HN2.out; omega
        go_wp2_with fail
        refine (markAffine_n Rx2_14.out nd7 (q := (1 + ((Stm.cntM x0 : Nat) : Int))) (by omega) (by omega)).mono ?_
        rintro e w15 ⟨rfl, r15, t15⟩
        have m15h := Lib.hid r15; clear r15
        have P0_15 := t15.box9 P0_14 (fun hm => by have h1 := Tx2.out _ hm; have q0 := Z1.out; have q1 := LP0.out; have q2 := LP2.out; have q3 := Z2.out; have q4 := Z5.out; have q5 := Lw0_.out; have q6 := Z6.out; have q7 := Z7.out; have q8 := LX0.out; have q9 := Z8.out; have q10 := LX2.out; have q11 := Z9.out; have q12 := LG0.out; have q13 := Z11.out; have q14 := Z13.out; have q15 := Z14.out; omega); clear P0_14
        have P2_15 := t15.box2 P2_14 (fun hm => by have h1 := Tx2.out _ hm; have q0 := Z1.out; have q1 := LP0.out; have q2 := LP2.out; have q3 := Z2.out; have q4 := Z5.out; have q5 := Lw0_.out; have q6 := Z6.out; have q7 := Z7.out; have q8 := LX0.out; have q9 := Z8.out; have q10 := LX2.out; have q11 := Z9.out; have q12 := LG0.out; have q13 := Z11.out; have q14 := Z13.out; have q15 := Z14.out; omega); clear P2_14
        have W0_15 := t15.box9 W0_14 (fun hm => by have h1 := Tx2.out _ hm; have q0 := Z1.out; have q1 := LP0.out; have q2 := LP2.out; have q3 := Z2.out; have q4 := Z5.out; have q5 := Lw0_.out; have q6 := Z6.out; have q7 := Z7.out; have q8 := LX0.out; have q9 := Z8.out; have q10 := LX2.out; have q11 := Z9.out; have q12 := LG0.out; have q13 := Z11.out; have q14 := Z13.out; have q15 := Z14.out; omega); clear W0_14
        have X0_15 := t15.box9 X0_14 (fun hm => by have h1 := Tx2.out _ hm; have q0 := Z1.out; have q1 := LP0.out; have q2 := LP2.out; have q3 := Z2.out; have q4 := Z5.out; have q5 := Lw0_.out; have q6 := Z6.out; have q7 := Z7.out; have q8 := LX0.out; have q9 := Z8.out; have q10 := LX2.out; have q11 := Z9.out; have q12 := LG0.out; have q13 := Z11.out; have q14 := Z13.out; have q15 := Z14.out; omega); clear X0_14
        have X2_15 := t15.box2 X2_14 (fun hm => by have h1 := Tx2.out _ hm; have q0 := Z1.out; have q1 := LP0.out; have q2 := LP2.out; have q3 := Z2.out; have q4 := Z5.out; have q5 := Lw0_.out; have q6 := Z6.out; have q7 := Z7.out; have q8 := LX0.out; have q9 := Z8.out; have q10 := LX2.out; have q11 := Z9.out; have q12 := LG0.out; have q13 := Z11.out; have q14 := Z13.out; have q15 := Z14.out; omega); clear X2_14
        have G0_15 := t15.box9 G0_14 (fun hm => by have h1 := Tx2.out _ hm; have q0 := Z1.out; have q1 := LP0.out; have q2 := LP2.out; have q3 := Z2.out; have q4 := Z5.out; have q5 := Lw0_.out; have q6 := Z6.out; have q7 := Z7.out; have q8 := LX0.out; have q9 := Z8.out; have q10 := LX2.out; have q11 := Z9.out; have q12 := LG0.out; have q13 := Z11.out; have q14 := Z13.out; have q15 := Z14.out; omega); clear G0_14
        have RA0_15 := Lib.hid (Rep.keep _ RA0_14.out (t15.keeps fun y hy => ⟨Rep.lt _ RA0_14.out y hy, fun hm => by have h1 := Tx2.out y hm; have h2 := TA0.out y hy; have q0 := Z1.out; have q1 := LP0.out; have q2 := LP2.out; have q3 := Z2.out; have q4 := Z5.out; have q5 := Lw0_.out; have q6 := Z6.out; have q7 := Z7.out; have q8 := LX0.out; have q9 := Z8.out; have q10 := LX2.out; have q11 := Z9.out; have q12 := LG0.out; have q13 := Z11.out; have q14 := Z13.out; have q15 := Z14.out; omega⟩)); clear RA0_14
        have RA2_15 := Lib.hid (Rep.keep _ RA2_14.out (t15.keeps fun y hy => ⟨Rep.lt _ RA2_14.out y hy, fun hm => by have h1 := Tx2.out y hm; have h2 := TA2.out y hy; have q0 := Z1.out; have q1 := LP0.out; have q2 := LP2.out; have q3 := Z2.out; have q4 := Z5.out; have q5 := Lw0_.out; have q6 := Z6.out; have q7 := Z7.out; have q8 := LX0.out; have q9 := Z8.out; have q10 := LX2.out; have q11 := Z9.out; have q12 := LG0.out; have q13 := Z11.out; have q14 := Z13.out; have q15 := Z14.out; omega⟩)); clear RA2_14
        have Rw0_15 := Lib.hid (Rep.keep _ Rw0_14.out (t15.keeps fun y hy => ⟨Rep.lt _ Rw0_14.out y hy, fun hm => by have h1 := Tx2.out y hm; have h2 := Tw0.out y hy; have q0 := Z1.out; have q1 := LP0.out; have q2 := LP2.out; have q3 := Z2.out; have q4 := Z5.out; have q5 := Lw0_.out; have q6 := Z6.out; have q7 := Z7.out; have q8 := LX0.out; have q9 := Z8.out; have q10 := LX2.out; have q11 := Z9.out; have q12 := LG0.out; have q13 := Z11.out; have q14 := Z13.out; have q15 := Z14.out; omega⟩)); clear Rw0_14
        have Rg0_15 := Lib.hid (Rep.keep _ Rg0_14.out (t15.keeps fun y hy => ⟨Rep.lt _ Rg0_14.out y hy, fun hm => by have h1 := Tx2.out y hm; have h2 := Tg0.out y hy; have q0 := Z1.out; have q1 := LP0.out; have q2 := LP2.out; have q3 := Z2.out; have q4 := Z5.out; have q5 := Lw0_.out; have q6 := Z6.out; have q7 := Z7.out; have q8 := LX0.out; have q9 := Z8.out; have q10 := LX2.out; have q11 := Z9.out; have q12 := LG0.out; have q13 := Z11.out; have q14 := Z13.out; have q15 := Z14.out; omega⟩)); clear Rg0_14
        have S15 : Below w.heap.size w w15 := S14.trans (t15.below S14.size (fun y hm => by have h1 := Tx2.out y hm; have q0 := Z1.out; have q1 := LP0.out; have q2 := LP2.out; have q3 := Z2.out; have q4 := Z5.out; have q5 := Lw0_.out; have q6 := Z6.out; have q7 := Z7.out; have q8 := LX0.out; have q9 := Z8.out; have q10 := LX2.out; have q11 := Z9.out; have q12 := LG0.out; have q13 := Z11.out; have q14 := Z13.out; have q15 := Z14.out; omega))
        have Z15 := Lib.hid (show w14.heap.size ≤ w15.heap.size from t15.size)
        clear t15
        go_wp2_with fail
        refine (eqStmt_c (Rg0_15.out.below bel) (Rw0_15.out.below bel)).mono ?_
        rintro e w16 ⟨rfl, b16⟩
        have P0_16 := P0_15.to b16; clear P0_15
        have P2_16 := P2_15.to b16; clear P2_15
        have W0_16 := W0_15.to b16; clear W0_15
        have X0_16 := X0_15.to b16; clear X0_15
        have X2_16 := X2_15.to b16; clear X2_15
        have G0_16 := G0_15.to b16; clear G0_15
        have RA0_16 := Lib.hid (RA0_15.out.below b16); clear RA0_15
        have RA2_16 := Lib.hid (RA2_15.out.below b16); clear RA2_15
        have Rw0_16 := Lib.hid (Rw0_15.out.below b16); clear Rw0_15
        have Rg0_16 := Lib.hid (Rg0_15.out.below b16); clear Rg0_15
        have S16 : Below w.heap.size w w16 := below_tr S15 b16
        have Z16 := Lib.hid (b16.size)
        go_wp2_with fail
        refine (markStmt_n Rg0_16.out nd8 (q := 1) (by omega) (by omega)).mono ?_
        rintro e w17 ⟨rfl, r17, t17⟩
        have m17h := Lib.hid r17; clear r17
        have P0_17 := t17.box9 P0_16 (fun hm => by have h1 := Tg0.out _ hm; have q0 := Z1.out; have q1 := LP0.out; have q2 := LP2.out; have q3 := Z2.out; have q4 := Z5.out; have q5 := Lw0_.out; have q6 := Z6.out; have q7 := Z7.out; have q8 := LX0.out; have q9 := Z8.out; have q10 := LX2.out; have q11 := Z9.out; have q12 := LG0.out; have q13 := Z11.out; have q14 := Z13.out; have q15 := Z14.out; have q16 := Z15.out; have q17 := Z16.out; omega); clear P0_16
        have P2_17 := t17.box2 P2_16 (fun hm => by have h1 := Tg0.out _ hm; have q0 := Z1.out; have q1 := LP0.out; have q2 := LP2.out; have q3 := Z2.out; have q4 := Z5.out; have q5 := Lw0_.out; have q6 := Z6.out; have q7 := Z7.out; have q8 := LX0.out; have q9 := Z8.out; have q10 := LX2.out; have q11 := Z9.out; have q12 := LG0.out; have q13 := Z11.out; have q14 := Z13.out; have q15 := Z14.out; have q16 := Z15.out; have q17 := Z16.out; omega); clear P2_16
        have W0_17 := t17.box9 W0_16 (fun hm => by have h1 := Tg0.out _ hm; have q0 := Z1.out; have q1 := LP0.out; have q2 := LP2.out; have q3 := Z2.out; have q4 := Z5.out; have q5 := Lw0_.out; have q6 := Z6.out; have q7 := Z7.out; have q8 := LX0.out; have q9 := Z8.out; have q10 := LX2.out; have q11 := Z9.out; have q12 := LG0.out; have q13 := Z11.out; have q14 := Z13.out; have q15 := Z14.out; have q16 := Z15.out; have q17 := Z16.out; omega); clear W0_16
        have X0_17 := t17.box9 X0_16 (fun hm => by have h1 := Tg0.out _ hm; have q0 := Z1.out; have q1 := LP0.out; have q2 := LP2.out; have q3 := Z2.out; have q4 := Z5.out; have q5 := Lw0_.out; have q6 := Z6.out; have q7 := Z7.out; have q8 := LX0.out; have q9 := Z8.out; have q10 := LX2.out; have q11 := Z9.out; have q12 := LG0.out; have q13 := Z11.out; have q14 := Z13.out; have q15 := Z14.out; have q16 := Z15.out; have q17 := Z16.out; omega); clear X0_16
        have X2_17 := t17.box2 X2_16 (fun hm => by have h1 := Tg0.out _ hm; have q0 := Z1.out; have q1 := LP0.out; have q2 := LP2.out; have q3 := Z2.out; have q4 := Z5.out; have q5 := Lw0_.out; have q6 := Z6.out; have q7 := Z7.out; have q8 := LX0.out; have q9 := Z8.out; have q10 := LX2.out; have q11 := Z9.out; have q12 := LG0.out; have q13 := Z11.out; have q14 := Z13.out; have q15 := Z14.out; have q16 := Z15.out; have q17 := Z16.out; omega); clear X2_16
        have G0_17 := t17.box9 G0_16 (fun hm => by have h1 := Tg0.out _ hm; have q0 := Z1.out; have q1 := LP0.out; have q2 := LP2.out; have q3 := Z2.out; have q4 := Z5.out; have q5 := Lw0_.out; have q6 := Z6.out; have q7 := Z7.out; have q8 := LX0.out; have q9 := Z8.out; have q10 := LX2.out; have q11 := Z9.out; have q12 := LG0.out; have q13 := Z11.out; have q14 := Z13.out; have q15 := Z14.out; have q16 := Z15.out; have q17 := Z16.out; omega); clear G0_16
        have RA0_17 := Lib.hid (Rep.keep _ RA0_16.out (t17.keeps fun y hy => ⟨Rep.lt _ RA0_16.out y hy, fun hm => by have h1 := Tg0.out y hm; have h2 := TA0.out y hy; have q0 := Z1.out; have q1 := LP0.out; have q2 := LP2.out; have q3 := Z2.out; have q4 := Z5.out; have q5 := Lw0_.out; have q6 := Z6.out; have q7 := Z7.out; have q8 := LX0.out; have q9 := Z8.out; have q10 := LX2.out; have q11 := Z9.out; have q12 := LG0.out; have q13 := Z11.out; have q14 := Z13.out; have q15 := Z14.out; have q16 := Z15.out; have q17 := Z16.out; omega⟩)); clear RA0_16
        have RA2_17 := Lib.hid (Rep.keep _ RA2_16.out (t17.keeps fun y hy => ⟨Rep.lt _ RA2_16.out y hy, fun hm => by have h1 := Tg0.out y hm; have h2 := TA2.out y hy; have q0 := Z1.out; have q1 := LP0.out; have q2 := LP2.out; have q3 := Z2.out; have q4 := Z5.out; have q5 := Lw0_.out; have q6 := Z6.out; have q7 := Z7.out; have q8 := LX0.out; have q9 := Z8.out; have q10 := LX2.out; have q11 := Z9.out; have q12 := LG0.out; have q13 := Z11.out; have q14 := Z13.out; have q15 := Z14.out; have q16 := Z15.out; have q17 := Z16.out; omega⟩)); clear RA2_16
        have Rw0_17 := Lib.hid (Rep.keep _ Rw0_16.out (t17.keeps fun y hy => ⟨Rep.lt _ Rw0_16.out y hy, fun hm => by have h1 := Tg0.out y hm; have h2 := Tw0.out y hy; have q0 := Z1.out; have q1 := LP0.out; have q2 := LP2.out; have q3 := Z2.out; have q4 := Z5.out; have q5 := Lw0_.out; have q6 := Z6.out; have q7 := Z7.out; have q8 := LX0.out; have q9 := Z8.out; have q10 := LX2.out; have q11 := Z9.out; have q12 := LG0.out; have q13 := Z11.out; have q14 := Z13.out; have q15 := Z14.out; have q16 := Z15.out; have q17 := Z16.out; omega⟩)); clear Rw0_16
        have S17 : Below w.heap.size w w17 := S16.trans (t17.below S16.size (fun y hm => by have h1 := Tg0.out y hm; have q0 := Z1.out; have q1 := LP0.out; have q2 := LP2.out; have q3 := Z2.out; have q4 := Z5.out; have q5 := Lw0_.out; have q6 := Z6.out; have q7 := Z7.out; have q8 := LX0.out; have q9 := Z8.out; have q10 := LX2.out; have q11 := Z9.out; have q12 := LG0.out; have q13 := Z11.out; have q14 := Z13.out; have q15 := Z14.out; have q16 := Z15.out; have q17 := Z16.out; omega))
        have Z17 := Lib.hid (show w16.heap.size ≤ w17.heap.size from t17.size)
        clear t17
        have hmq : ((1 + ((Stm.cntM (SubstStmtF x0 x1 x2).1 : Nat) : Int)) != (1 + ((Stm.cntM (SubstStmtF x0 x1 x2).1 : Nat) : Int))) = false := by simp
        go_wp2_with fail
        refine (heldStmt_n m17h.out (q := 1) (by omega) (by omega)).mono ?_
        rintro e w18 ⟨rfl, b18⟩
        have P0_18 := P0_17.to b18; clear P0_17
        have P2_18 := P2_17.to b18; clear P2_17
        have W0_18 := W0_17.to b18; clear W0_17
        have X0_18 := X0_17.to b18; clear X0_17
        have X2_18 := X2_17.to b18; clear X2_17
        have G0_18 := G0_17.to b18; clear G0_17
        have RA0_18 := Lib.hid (RA0_17.out.below b18); clear RA0_17
        have RA2_18 := Lib.hid (RA2_17.out.below b18); clear RA2_17
        have Rw0_18 := Lib.hid (Rw0_17.out.below b18); clear Rw0_17
        have Rg0_18 := Lib.hid (m17h.out.below b18); clear m17h
        have S18 : Below w.heap.size w w18 := below_tr S17 b18
        have Z18 := Lib.hid (b18.size)
        go_upto_region 31 with (fail)
        go_cut [17, 18] (fun u0 u1 wc => ∃ (gh_ : Nat) (bsh : List Nat) (A2_h : Option Addr) (c2_h : Nat) (A5_h : Option Addr) (c5_h : Nat) (A8_h : Option Addr) (c8_h : Nat) (A9_h : Option Addr) (c9_h : Nat), u0 = .pointer (some ⟨gh_, 0, none⟩) ∧ u1 = .bool (SubstStmtF x0 x1 x2).2 ∧ Box9 wc gh_ (.string (SubstStmtF x0 x1 x2).1.write.arr) (.slice A2_h (SubstStmtF x0 x1 x2).1.write.subs.length c2_h) (.int .i64 (SubstStmtF x0 x1 x2).1.value.kind) (.int .i64 (SubstStmtF x0 x1 x2).1.value.num) (.slice A5_h (SubstStmtF x0 x1 x2).1.value.index.coefs.length c5_h) (.int .i64 (SubstStmtF x0 x1 x2).1.value.index.const) (.string (SubstStmtF x0 x1 x2).1.value.read.arr) (.slice A8_h (SubstStmtF x0 x1 x2).1.value.read.subs.length c8_h) (.slice A9_h (SubstStmtF x0 x1 x2).1.value.kids.length c9_h) ∧ Rep wc (SubstStmtF x0 x1 x2).1.d [.string (SubstStmtF x0 x1 x2).1.write.arr, .slice A2_h (SubstStmtF x0 x1 x2).1.write.subs.length c2_h, .int .i64 (SubstStmtF x0 x1 x2).1.value.kind, .int .i64 (SubstStmtF x0 x1 x2).1.value.num, .slice A5_h (SubstStmtF x0 x1 x2).1.value.index.coefs.length c5_h, .int .i64 (SubstStmtF x0 x1 x2).1.value.index.const, .string (SubstStmtF x0 x1 x2).1.value.read.arr, .slice A8_h (SubstStmtF x0 x1 x2).1.value.read.subs.length c8_h, .slice A9_h (SubstStmtF x0 x1 x2).1.value.kids.length c9_h] bsh ∧ w18.heap.size ≤ gh_ ∧ Below w18.heap.size w18 wc)
        case first =>
          go_region_held3 (fun w' => Box9 w' w.heap.size (.string x0.write.arr) (.slice A2_0 x0.write.subs.length c2_0) (.int .i64 x0.value.kind) (.int .i64 x0.value.num) (.slice A5_0 x0.value.index.coefs.length c5_0) (.int .i64 x0.value.index.const) (.string x0.value.read.arr) (.slice A8_0 x0.value.read.subs.length c8_0) (.slice A9_0 x0.value.kids.length c9_0) ∧ Box2 w' (w.heap.size + 1) (.slice A2 n2 c2) (.int .i64 k2)) (first | (refine ⟨P0_18.to ?_, P2_18.to ?_⟩ <;> (repeat (first | with_reducible exact Below.refl _ _ | refine Below.setCell ?_ (by simp; try omega) _ | refine below_al ?_ _ | refine Below.alloc ?_ (by simp [World.setCell]; try omega) _ | refine below_drewN ?_ _ | refine Below.drew ?_ | refine below_tr ?_ ‹Below _ _ _›)); done) | skip)
            (first | (go_at_call_of 17 (Value.agg #[.string x0.write.arr, .slice A2_0 x0.write.subs.length c2_0, .int .i64 x0.value.kind, .int .i64 x0.value.num, .slice A5_0 x0.value.index.coefs.length c5_0, .int .i64 x0.value.index.const, .string x0.value.read.arr, .slice A8_0 x0.value.read.subs.length c8_0, .slice A9_0 x0.value.kids.length c9_0]); refine (toStmt_m (RA0_18.out.below bel) HN0.out).mono ?_; rintro e w19 ⟨A2_19, c2_19, A5_19, c5_19, A8_19, c8_19, A9_19, c9_19, bs19, rfl, r19, nd19, hb19, b19⟩; have z19 := b19.size; (try simp at z19); (first | have q19 : Row w19 w18.heap.size 52 [.string ⟨#[]⟩, .slice none 0 0, .int .i64 0, .int .i64 0, .slice none 0 0, .int .i64 0, .string ⟨#[]⟩, .slice none 0 0, .slice none 0 0] := (Row.new w18.drew [.string ⟨#[]⟩, .slice none 0 0, .int .i64 0, .int .i64 0, .slice none 0 0, .int .i64 0, .string ⟨#[]⟩, .slice none 0 0, .slice none 0 0] 52).to b19 | skip)) | (go_at_call_of 28 (Value.agg #[.slice A2 n2 c2, .int .i64 k2]); refine (toAffine_m (RA2_18.out.below bel) HN2.out).mono ?_; rintro e w20 ⟨A20, n20, c20, k20, bs20, rfl, r20, nd20, hb20, b20⟩; have z20 := b20.size; (try simp at z20); (first | have q20 := Row.to q19 b20 | have q20 := (Row.new w19 [.string ⟨#[]⟩, .slice none 0 0, .int .i64 0, .int .i64 0, .slice none 0 0, .int .i64 0, .string ⟨#[]⟩, .slice none 0 0, .slice none 0 0] 52).to b20 | skip)) | (go_at_call 29; refine (implSubstStmt_c (r19.below bel) (r20.below bel)).mono ?_; rintro e w21 ⟨A2_21, c2_21, A5_21, c5_21, A8_21, c8_21, A9_21, c9_21, bs21, rfl, r21, nd21, hb21, b21⟩; have z21 := b21.size; (try simp at z21); (first | have q21 := Row.to q20 b21 | have q21 := (Row.new w20 [.string ⟨#[]⟩, .slice none 0 0, .int .i64 0, .int .i64 0, .slice none 0 0, .int .i64 0, .string ⟨#[]⟩, .slice none 0 0, .slice none 0 0] 52).to b21 | skip); (try (have q21f0 := q21.frozen 0; have q21f1 := q21.frozen 1; have q21f2 := q21.frozen 2; have q21f3 := q21.frozen 3; have q21f4 := q21.frozen 4; have q21f5 := q21.frozen 5; have q21f6 := q21.frozen 6; have q21f7 := q21.frozen 7; have q21f8 := q21.frozen 8; obtain ⟨q21c0, q21c1, q21c2, q21c3, q21c4, q21c5, q21c6, q21c7, q21c8⟩ := q21.box9; have q21l := lt_of_cell q21c0))))
          all_goals (
            go_wp2_with fail
            go_meet
            exact ⟨_, bs21, A2_21, c2_21, A5_21, c5_21, A8_21, c8_21, A9_21, c9_21, rfl, rfl, ⟨by go_simp, by go_simp, by go_simp, by go_simp, by go_simp, by go_simp, by go_simp, by go_simp, by go_simp⟩, Rep.keep _ r21 (by
              repeat (first | with_reducible exact Keeps.refl _ _ | refine Keeps.setCell ?_ (fun hm => by have := hb21 _ hm; (try simp at this); omega) _ | refine Keeps.alloc ?_ (fun y hy => by have := Rep.lt _ r21 y hy; first | omega | (simp [World.setCell]; try omega)) _)), by first | omega | (simp; try omega), by (repeat (first | with_reducible exact Below.refl _ _ | refine Below.setCell ?_ (by simp; try omega) _ | refine below_al ?_ _ | refine Below.alloc ?_ (by simp [World.setCell]; try omega) _ | refine below_drewN ?_ _ | refine Below.drew ?_ | refine below_tr ?_ ‹Below _ _ _›))⟩)
        case rest =>
          obtain ⟨gh_, bsh, A2_h, c2_h, A5_h, c5_h, A8_h, c8_h, A9_h, c9_h, rfl, rfl, Ph_, Rh_, hgh, bw⟩ := hcut
          rename World => wqh
          have P0_21 := P0_18.to bw; clear P0_18
          have P2_21 := P2_18.to bw; clear P2_18
          have W0_21 := W0_18.to bw; clear W0_18
          have X0_21 := X0_18.to bw; clear X0_18
          have X2_21 := X2_18.to bw; clear X2_18
          have G0_21 := G0_18.to bw; clear G0_18
          have RA0_21 := Lib.hid (RA0_18.out.below bw); clear RA0_18
          have RA2_21 := Lib.hid (RA2_18.out.below bw); clear RA2_18
          have Rw0_21 := Lib.hid (Rw0_18.out.below bw); clear Rw0_18
          have Rg0_21 := Lib.hid (Rg0_18.out.below bw); clear Rg0_18
          have S21 : Below w.heap.size w wqh := below_tr S18 bw
          have Z21 := Lib.hid (bw.size)
          have Th0 := Lib.hid (show ∀ y ∈ bsh, y < wqh.heap.size from Rep.lt _ Rh_)
          have Rhh := Lib.hid Rh_; clear Rh_
          have Lh0_ := Lib.hid (lt_of_cell Ph_.1)
          clear hgh bw
          go_wp2_with fail
          refine (eqStmt_c (Rhh.out.below bel) (Rw0_21.out.below bel)).mono ?_
          rintro e w22 ⟨rfl, b22⟩
          have P0_22 := P0_21.to b22; clear P0_21
          have P2_22 := P2_21.to b22; clear P2_21
          have W0_22 := W0_21.to b22; clear W0_21
          have X0_22 := X0_21.to b22; clear X0_21
          have X2_22 := X2_21.to b22; clear X2_21
          have G0_22 := G0_21.to b22; clear G0_21
          have H0_22 := Ph_.to b22; clear Ph_
          have RA0_22 := Lib.hid (RA0_21.out.below b22); clear RA0_21
          have RA2_22 := Lib.hid (RA2_21.out.below b22); clear RA2_21
          have Rw0_22 := Lib.hid (Rw0_21.out.below b22); clear Rw0_21
          have Rg0_22 := Lib.hid (Rg0_21.out.below b22); clear Rg0_21
          have Rh0_22 := Lib.hid (Rhh.out.below b22); clear Rhh
          have S22 : Below w.heap.size w w22 := below_tr S21 b22
          have Z22 := Lib.hid (b22.size)
          go_wp2_with fail
          refine (heldStmt_n Rg0_22.out (q := 1) (by omega) (by omega)).mono ?_
          rintro e w23 ⟨rfl, b23⟩
          have P0_23 := P0_22.to b23; clear P0_22
          have P2_23 := P2_22.to b23; clear P2_22
          have W0_23 := W0_22.to b23; clear W0_22
          have X0_23 := X0_22.to b23; clear X0_22
          have X2_23 := X2_22.to b23; clear X2_22
          have G0_23 := G0_22.to b23; clear G0_22
          have H0_23 := H0_22.to b23; clear H0_22
          have RA0_23 := Lib.hid (RA0_22.out.below b23); clear RA0_22
          have RA2_23 := Lib.hid (RA2_22.out.below b23); clear RA2_22
          have Rw0_23 := Lib.hid (Rw0_22.out.below b23); clear Rw0_22
          have Rg0_23 := Lib.hid (Rg0_22.out.below b23); clear Rg0_22
          have Rh0_23 := Lib.hid (Rh0_22.out.below b23); clear Rh0_22
          have S23 : Below w.heap.size w w23 := below_tr S22 b23
          have Z23 := Lib.hid (b23.size)
          go_wp2
          go_ret
          exact ⟨rfl, S23⟩
end Go.Proofs.Ytadmmlflngkpiaa
