/- The Go type Stmt: how it reads; the law package's functions on it and on slices of it. Printed by tygen.py. -/
import Derived.Test.YtbhniobgaoncaaaDoorTyExpr
set_option linter.all false
set_option linter.unusedSimpArgs false
set_option linter.unusedVariables false
namespace Go.Proofs.YtbhniobgaoncaaaDoor
open Go.ChangeShapes Go.WideShapes Go.ChangeAt Go.RowKit Go.Deep

structure Stm where
  write : Acc
  value : Ex

def Stm.d (x : Stm) : D := .st [x.write.d, x.value.d]
theorem Stm.d_size (x : Stm) : x.d.size = 9 := by simp only [Stm.d, D.size, D.sizes, Acc.d_size, Ex.d_size]
theorem Rep.stm_iff {w : World} {x : Stm} {cs : List Value} {bs : List Nat} : Rep w x.d cs bs ↔ ∃ (A2 : Option Addr) (c2 : Nat) (A5 : Option Addr) (c5 : Nat) (A8 : Option Addr) (c8 : Nat) (A9 : Option Addr) (c9 : Nat) (d2 : List Nat) (d5 : List Nat) (d8 : List Nat) (d9 : List Nat), cs = [.string x.write.arr, .slice A2 x.write.subs.length c2, .int .i64 x.value.kind, .int .i64 x.value.num, .slice A5 x.value.index.coefs.length c5, .int .i64 x.value.index.const, .string x.value.read.arr, .slice A8 x.value.read.subs.length c8, .slice A9 x.value.kids.length c9] ∧ bs = d2 ++ d5 ++ d8 ++ d9 ∧ x.write.arr.size ≤ maxLen ∧ Rep w (sls Aff.d x.write.subs) [.slice A2 x.write.subs.length c2] d2 ∧ I64 x.value.kind ∧ I64 x.value.num ∧ Rep w (ints x.value.index.coefs) [.slice A5 x.value.index.coefs.length c5] d5 ∧ I64 x.value.index.const ∧ x.value.read.arr.size ≤ maxLen ∧ Rep w (sls Aff.d x.value.read.subs) [.slice A8 x.value.read.subs.length c8] d8 ∧ Rep w (sls Ex.d x.value.kids) [.slice A9 x.value.kids.length c9] d9 := by
  constructor
  · intro h
    replace h : Reps w [x.write.d, x.value.d] cs bs := h
    obtain ⟨_, _, _, _, rfl, rfl, g1, h⟩ := h
    obtain ⟨_, _, _, _, rfl, rfl, g2, h⟩ := h
    obtain ⟨rfl, rfl⟩ := h
    obtain ⟨A2_1, c2_1, d2_1, rfl, rfl, g1_1, g1_2⟩ := Rep.acc_iff.1 g1
    obtain ⟨A3_2, c3_2, A6_2, c6_2, A7_2, c7_2, d3_2, d6_2, d7_2, rfl, rfl, g2_1, g2_2, g2_3, g2_4, g2_5, g2_6, g2_7⟩ := Rep.ex_iff.1 g2
    exact ⟨_, _, _, _, _, _, _, _, _, _, _, _, rfl, by simp, g1_1, g1_2, g2_1, g2_2, g2_3, g2_4, g2_5, g2_6, g2_7⟩
  · rintro ⟨A2, c2, A5, c5, A8, c8, A9, c9, d2, d5, d8, d9, rfl, rfl, g1, g2, g3, g4, g5, g6, g7, g8, g9⟩
    have h : Reps w [x.write.d, x.value.d] _ _ := ⟨_, _, _, _, rfl, rfl, (Rep.acc_iff.2 ⟨_, _, _, rfl, rfl, g1, g2⟩), ⟨_, _, _, _, rfl, rfl, (Rep.ex_iff.2 ⟨_, _, _, _, _, _, _, _, _, rfl, rfl, g3, g4, g5, g6, g7, g8, g9⟩), ⟨rfl, rfl⟩⟩⟩
    simpa using (show Rep w x.d _ _ from h)

theorem Tryd.infoStmt : (Tryd.prog.info? 55).map (fun i => (i.zero, i.size, decide (i.bytes ≤ 1024))) = some (some (.agg #[.string ⟨#[]⟩, .slice none 0 0, .int .i64 0, .int .i64 0, .slice none 0 0, .int .i64 0, .string ⟨#[]⟩, .slice none 0 0, .slice none 0 0]), 9, true) := by kernel_rfl
set_option maxHeartbeats 1000000 in
theorem eqStmt_c {w : World} {x : Stm} {cs cs' : List Value} {bs bs' : List Nat} (h : Rep w x.d cs bs) (h' : Rep w x.d cs' bs') :
    Calls Tryd.prog 21 #[.agg cs.toArray, .agg cs'.toArray] w fun e w' => e = .returned (.bool true) ∧ Below w.heap.size w w' := by
  have H := Lib.hid h
  have H' := Lib.hid h'
  obtain ⟨A2, c2, A5, c5, A8, c8, A9, c9, d2, d5, d8, d9, rfl, rfl, g1, g2, g3, g4, g5, g6, g7, g8, g9⟩ := Rep.stm_iff.1 h
  obtain ⟨A2', c2', A5', c5', A8', c8', A9', c9', d2', d5', d8', d9', rfl, rfl, g1', g2', g3', g4', g5', g6', g7', g8', g9'⟩ := Rep.stm_iff.1 h'
  have G1 := Lib.hid ((Rep.acc_iff (x := x.write)).2 ⟨_, _, _, rfl, rfl, g1, g2⟩)
  have G1' := Lib.hid ((Rep.acc_iff (x := x.write)).2 ⟨_, _, _, rfl, rfl, g1', g2'⟩)
  have G3 := Lib.hid ((Rep.ex_iff (x := x.value)).2 ⟨_, _, _, _, _, _, _, _, _, rfl, rfl, g3, g4, g5, g6, g7, g8, g9⟩)
  have G3' := Lib.hid ((Rep.ex_iff (x := x.value)).2 ⟨_, _, _, _, _, _, _, _, _, rfl, rfl, g3', g4', g5', g6', g7', g8', g9'⟩)
  clear h h' H H' g1 g1' g2 g2' g3 g3' g4 g4' g5 g5' g6 g6' g7 g7' g8 g8' g9 g9'
  go_enter Tryd.func21, Tryd.ntmps21
  go_wp2_with fail
  refine (eqAccess_c (G1.out.below bel) (G1'.out.below bel)).mono ?_
  rintro e w1 ⟨rfl, b1⟩
  have P1 : Box9 w1 w.heap.size (.string x.write.arr) (.slice A2 x.write.subs.length c2) (.int .i64 x.value.kind) (.int .i64 x.value.num) (.slice A5 x.value.index.coefs.length c5) (.int .i64 x.value.index.const) (.string x.value.read.arr) (.slice A8 x.value.read.subs.length c8) (.slice A9 x.value.kids.length c9) := by
    refine ⟨?_, ?_, ?_, ?_, ?_, ?_, ?_, ?_, ?_⟩ <;> (rw [b1.cell (by simp; try omega)]; go_simp)
  have Q1 : Box9 w1 (w.heap.size + 1) (.string x.write.arr) (.slice A2' x.write.subs.length c2') (.int .i64 x.value.kind) (.int .i64 x.value.num) (.slice A5' x.value.index.coefs.length c5') (.int .i64 x.value.index.const) (.string x.value.read.arr) (.slice A8' x.value.read.subs.length c8') (.slice A9' x.value.kids.length c9') := by
    refine ⟨?_, ?_, ?_, ?_, ?_, ?_, ?_, ?_, ?_⟩ <;> (rw [b1.cell (by simp; try omega)]; go_simp)
  have S1 : Below w.heap.size w w1 := bel
  clear b1
  go_wp2_with fail
  refine (eqExpr_c (G3.out.below bel) (G3'.out.below bel)).mono ?_
  rintro e w2 ⟨rfl, b2⟩
  have P2 := P1.to b2; clear P1
  have Q2 := Q1.to b2; clear Q1
  have S2 := below_tr S1 b2
  clear b2
  go_wp2
  go_ret
  exact ⟨rfl, bel⟩


theorem szD_stm (x : Stm) : szD x.d = szD x.write.d + szD x.value.d := by
  have h : szD x.d = szDs [x.write.d, x.value.d] := by simp only [Stm.d, szD]
  rw [h]; simp only [szDs, szD, szD_ints]; omega
set_option maxHeartbeats 2000000 in
theorem szStmt_c {w : World} {x : Stm} {cs : List Value} {bs : List Nat} {left : Int} (h : Rep w x.d cs bs) (h0 : 0 ≤ left) (h1 : left ≤ 1048576) :
    Calls Tryd.prog 17 #[.agg cs.toArray, .int .i64 left] w fun e w' => e = .returned (.int .i64 (szR left (szD x.d))) ∧ Below w.heap.size w w' := by
  obtain ⟨A2, c2, A5, c5, A8, c8, A9, c9, d2, d5, d8, d9, rfl, rfl, g1, g2, g3, g4, g5, g6, g7, g8, g9⟩ := Rep.stm_iff.1 h
  rw [szD_stm x]
  have G1 := Lib.hid ((Rep.acc_iff (x := x.write)).2 ⟨_, _, _, rfl, rfl, g1, g2⟩)
  have G3 := Lib.hid ((Rep.ex_iff (x := x.value)).2 ⟨_, _, _, _, _, _, _, _, _, rfl, rfl, g3, g4, g5, g6, g7, g8, g9⟩)
  clear h g1 g2 g3 g4 g5 g6 g7 g8 g9
  by_cases hs0 : (left : Int) - ((szD x.write.d : Nat) : Int) < 0
  · have HR := Lib.hid (show szR left (szD x.write.d + szD x.value.d) = -1 from szR_neg (by omega))
    have HS0 := Lib.hid (szR_neg hs0)
    go_enter Tryd.func17, Tryd.ntmps17
    go_wp2_with fail
    refine (szAccess_c (G1.out.below bel) (by omega) (by omega)).mono ?_
    rintro e w1 ⟨rfl, b1⟩
    rw [HS0.out]
    have P1 : Box9 w1 w.heap.size (.string x.write.arr) (.slice A2 x.write.subs.length c2) (.int .i64 x.value.kind) (.int .i64 x.value.num) (.slice A5 x.value.index.coefs.length c5) (.int .i64 x.value.index.const) (.string x.value.read.arr) (.slice A8 x.value.read.subs.length c8) (.slice A9 x.value.kids.length c9) := by
      refine ⟨?_, ?_, ?_, ?_, ?_, ?_, ?_, ?_, ?_⟩ <;> (rw [b1.cell (by simp; try omega)]; go_simp)
    have S1 : Below w.heap.size w w1 := bel
    clear b1
    go_wp2
    go_ret
    exact ⟨ret_int HR.out.symm, bel⟩
  · have HS0 := Lib.hid (szR_pos (left := left) (tot := szD x.write.d) (by omega))
    have hp0 : 0 ≤ left - ((szD x.write.d : Nat) : Int) := by omega
    clear hs0
    by_cases hs1 : (left - ((szD x.write.d : Nat) : Int) : Int) - ((szD x.value.d : Nat) : Int) < 0
    · have HR := Lib.hid (show szR left (szD x.write.d + szD x.value.d) = -1 from szR_neg (by omega))
      have HS1 := Lib.hid (szR_neg hs1)
      go_enter Tryd.func17, Tryd.ntmps17
      go_wp2_with fail
      refine (szAccess_c (G1.out.below bel) (by omega) (by omega)).mono ?_
      rintro e w1 ⟨rfl, b1⟩
      rw [HS0.out]
      have P1 : Box9 w1 w.heap.size (.string x.write.arr) (.slice A2 x.write.subs.length c2) (.int .i64 x.value.kind) (.int .i64 x.value.num) (.slice A5 x.value.index.coefs.length c5) (.int .i64 x.value.index.const) (.string x.value.read.arr) (.slice A8 x.value.read.subs.length c8) (.slice A9 x.value.kids.length c9) := by
        refine ⟨?_, ?_, ?_, ?_, ?_, ?_, ?_, ?_, ?_⟩ <;> (rw [b1.cell (by simp; try omega)]; go_simp)
      have S1 : Below w.heap.size w w1 := bel
      clear b1
      go_wp2_with fail
      refine (szExpr_c (G3.out.below bel) (by omega) (by omega)).mono ?_
      rintro e w2 ⟨rfl, b2⟩
      rw [HS1.out]
      have P2 := P1.to b2; clear P1
      have S2 := below_tr S1 b2
      clear b2
      go_wp2
      go_ret
      exact ⟨ret_int HR.out.symm, bel⟩
    · have HS1 := Lib.hid (szR_pos (left := left - ((szD x.write.d : Nat) : Int)) (tot := szD x.value.d) (by omega))
      have hp1 : 0 ≤ left - ((szD x.write.d : Nat) : Int) - ((szD x.value.d : Nat) : Int) := by omega
      clear hs1
      have HR := Lib.hid (show szR left (szD x.write.d + szD x.value.d) = left - ((szD x.write.d : Nat) : Int) - ((szD x.value.d : Nat) : Int) by rw [szR_pos (by omega)] <;> omega)
      go_enter Tryd.func17, Tryd.ntmps17
      go_wp2_with fail
      refine (szAccess_c (G1.out.below bel) (by omega) (by omega)).mono ?_
      rintro e w1 ⟨rfl, b1⟩
      rw [HS0.out]
      have P1 : Box9 w1 w.heap.size (.string x.write.arr) (.slice A2 x.write.subs.length c2) (.int .i64 x.value.kind) (.int .i64 x.value.num) (.slice A5 x.value.index.coefs.length c5) (.int .i64 x.value.index.const) (.string x.value.read.arr) (.slice A8 x.value.read.subs.length c8) (.slice A9 x.value.kids.length c9) := by
        refine ⟨?_, ?_, ?_, ?_, ?_, ?_, ?_, ?_, ?_⟩ <;> (rw [b1.cell (by simp; try omega)]; go_simp)
      have S1 : Below w.heap.size w w1 := bel
      clear b1
      go_wp2_with fail
      refine (szExpr_c (G3.out.below bel) (by omega) (by omega)).mono ?_
      rintro e w2 ⟨rfl, b2⟩
      rw [HS1.out]
      have P2 := P1.to b2; clear P1
      have S2 := below_tr S1 b2
      clear b2
      go_wp2
      go_ret
      exact ⟨ret_int HR.out.symm, bel⟩


set_option maxHeartbeats 4000000 in
set_option maxRecDepth 100000 in
theorem toStmt_c {w : World} {x : Stm} {cs : List Value} {bs : List Nat} (h : Rep w x.d cs bs) (hz : szD x.d ≤ 10000000) :
    Calls Tryd.prog 19 #[.agg cs.toArray] w (MadeT w x.d) := by
  rw [szD_stm] at hz
  obtain ⟨A2, c2, A5, c5, A8, c8, A9, c9, d2, d5, d8, d9, rfl, rfl, g1, g2, g3, g4, g5, g6, g7, g8, g9⟩ := Rep.stm_iff.1 h
  have G1 := Lib.hid ((Rep.acc_iff (x := x.write)).2 ⟨_, _, _, rfl, rfl, g1, g2⟩)
  have Z1 := Lib.hid (show szD x.write.d ≤ 10000000 by omega)
  have G3 := Lib.hid ((Rep.ex_iff (x := x.value)).2 ⟨_, _, _, _, _, _, _, _, _, rfl, rfl, g3, g4, g5, g6, g7, g8, g9⟩)
  have Z3 := Lib.hid (show szD x.value.d ≤ 10000000 by omega)
  have I1 := Lib.hid g1
  have I3 := Lib.hid g3
  have I4 := Lib.hid g4
  have I6 := Lib.hid g6
  have I7 := Lib.hid g7
  clear h hz g1 g2 g3 g4 g5 g6 g7 g8 g9
  go_enter Tryd.func19, Tryd.ntmps19
  go_wp2_with fail
  refine (toAccess_c (G1.out.below bel) Z1.out).mono ?_
  rintro e w1 ⟨cs1, bs1, rfl, r1, nd1, hy1, b1⟩
  obtain ⟨A2r1, c2r1, d2r1, hcs1, _⟩ := Rep.acc_iff.1 r1
  subst hcs1
  have hb1 : ∀ y ∈ bs1, w.heap.size + 3 ≤ y := fun y hy => by have := hy1 y hy; (try simp [World.setCell] at this); omega
  have PA1 : w1.cell? ⟨w.heap.size, 0, none⟩ = some (.string x.write.arr) ∧ w1.cell? ⟨w.heap.size, 1, none⟩ = some (.slice A2 x.write.subs.length c2) ∧ w1.cell? ⟨w.heap.size, 2, none⟩ = some (.int .i64 x.value.kind) ∧ w1.cell? ⟨w.heap.size, 3, none⟩ = some (.int .i64 x.value.num) ∧ w1.cell? ⟨w.heap.size, 4, none⟩ = some (.slice A5 x.value.index.coefs.length c5) ∧ w1.cell? ⟨w.heap.size, 5, none⟩ = some (.int .i64 x.value.index.const) ∧ w1.cell? ⟨w.heap.size, 6, none⟩ = some (.string x.value.read.arr) ∧ w1.cell? ⟨w.heap.size, 7, none⟩ = some (.slice A8 x.value.read.subs.length c8) ∧ w1.cell? ⟨w.heap.size, 8, none⟩ = some (.slice A9 x.value.kids.length c9) := by
    refine ⟨?_, ?_, ?_, ?_, ?_, ?_, ?_, ?_, ?_⟩ <;> (rw [b1.cell (by simp [World.setCell]; try (omega))]; go_simp)
  have PR1 : w1.cell? ⟨w.heap.size + 1, 0, none⟩ = some (.string ⟨#[]⟩) ∧ w1.cell? ⟨w.heap.size + 1, 1, none⟩ = some (.slice none 0 0) ∧ w1.cell? ⟨w.heap.size + 1, 2, none⟩ = some (.int .i64 0) ∧ w1.cell? ⟨w.heap.size + 1, 3, none⟩ = some (.int .i64 0) ∧ w1.cell? ⟨w.heap.size + 1, 4, none⟩ = some (.slice none 0 0) ∧ w1.cell? ⟨w.heap.size + 1, 5, none⟩ = some (.int .i64 0) ∧ w1.cell? ⟨w.heap.size + 1, 6, none⟩ = some (.string ⟨#[]⟩) ∧ w1.cell? ⟨w.heap.size + 1, 7, none⟩ = some (.slice none 0 0) ∧ w1.cell? ⟨w.heap.size + 1, 8, none⟩ = some (.slice none 0 0) := by
    refine ⟨?_, ?_, ?_, ?_, ?_, ?_, ?_, ?_, ?_⟩ <;> (rw [b1.cell (by simp [World.setCell]; try (omega))]; go_simp)
  have PO1 : w1.cell? ⟨w.heap.size + 2, 0, none⟩ = some (.string ⟨#[]⟩) ∧ w1.cell? ⟨w.heap.size + 2, 1, none⟩ = some (.slice none 0 0) ∧ w1.cell? ⟨w.heap.size + 2, 2, none⟩ = some (.int .i64 0) ∧ w1.cell? ⟨w.heap.size + 2, 3, none⟩ = some (.int .i64 0) ∧ w1.cell? ⟨w.heap.size + 2, 4, none⟩ = some (.slice none 0 0) ∧ w1.cell? ⟨w.heap.size + 2, 5, none⟩ = some (.int .i64 0) ∧ w1.cell? ⟨w.heap.size + 2, 6, none⟩ = some (.string ⟨#[]⟩) ∧ w1.cell? ⟨w.heap.size + 2, 7, none⟩ = some (.slice none 0 0) ∧ w1.cell? ⟨w.heap.size + 2, 8, none⟩ = some (.slice none 0 0) := by
    refine ⟨?_, ?_, ?_, ?_, ?_, ?_, ?_, ?_, ?_⟩ <;> (rw [b1.cell (by simp [World.setCell]; try (omega))]; go_simp)
  have F1 : w1.frozen? ⟨w.heap.size + 1, 0, none⟩ = false ∧ w1.frozen? ⟨w.heap.size + 1, 1, none⟩ = false ∧ w1.frozen? ⟨w.heap.size + 1, 2, none⟩ = false ∧ w1.frozen? ⟨w.heap.size + 1, 3, none⟩ = false ∧ w1.frozen? ⟨w.heap.size + 1, 4, none⟩ = false ∧ w1.frozen? ⟨w.heap.size + 1, 5, none⟩ = false ∧ w1.frozen? ⟨w.heap.size + 1, 6, none⟩ = false ∧ w1.frozen? ⟨w.heap.size + 1, 7, none⟩ = false ∧ w1.frozen? ⟨w.heap.size + 1, 8, none⟩ = false ∧ w1.frozen? ⟨w.heap.size + 2, 0, none⟩ = false ∧ w1.frozen? ⟨w.heap.size + 2, 1, none⟩ = false ∧ w1.frozen? ⟨w.heap.size + 2, 2, none⟩ = false ∧ w1.frozen? ⟨w.heap.size + 2, 3, none⟩ = false ∧ w1.frozen? ⟨w.heap.size + 2, 4, none⟩ = false ∧ w1.frozen? ⟨w.heap.size + 2, 5, none⟩ = false ∧ w1.frozen? ⟨w.heap.size + 2, 6, none⟩ = false ∧ w1.frozen? ⟨w.heap.size + 2, 7, none⟩ = false ∧ w1.frozen? ⟨w.heap.size + 2, 8, none⟩ = false := by
    refine ⟨?_, ?_, ?_, ?_, ?_, ?_, ?_, ?_, ?_, ?_, ?_, ?_, ?_, ?_, ?_, ?_, ?_, ?_⟩ <;> (rw [b1.frozen (by simp [World.setCell]; try (omega))]; go_simp)
  have S1 : Below w.heap.size w w1 := bel
  have ZS1 := Lib.hid (show w.heap.size + 3 ≤ w1.heap.size by have := b1.size; (try simp [World.setCell] at this); omega)
  have RR1_1 := Lib.hid r1; have HB1 := Lib.hid hb1; have ND1 := Lib.hid nd1; have LT1 := Lib.hid (Rep.lt _ r1)
  clear r1 hb1 nd1 hy1 b1
  go_wp2_with fail
  refine (toExpr_c (G3.out.below (by first | with_reducible exact S1 | exact S1.setCell (by simp; try omega) _ | exact (S1.setCell (by simp; try omega) _).setCell (by simp; try omega) _ | exact ((S1.setCell (by simp; try omega) _).setCell (by simp; try omega) _).setCell (by simp; try omega) _)) Z3.out).mono ?_
  rintro e w2 ⟨cs2, bs2, rfl, r2, nd2, hy2, b2⟩
  obtain ⟨A3r2, c3r2, A6r2, c6r2, A7r2, c7r2, d3r2, d6r2, d7r2, hcs2, _⟩ := Rep.ex_iff.1 r2
  subst hcs2
  have hb2 : ∀ y ∈ bs2, w.heap.size + 3 ≤ y := fun y hy => by have := hy2 y hy; (try simp [World.setCell] at this); have := ZS1.out; omega
  have hc2 : ∀ y ∈ bs2, w1.heap.size ≤ y := fun y hy => by have := hy2 y hy; (try simp [World.setCell] at this); omega
  have PA2 : w2.cell? ⟨w.heap.size, 0, none⟩ = some (.string x.write.arr) ∧ w2.cell? ⟨w.heap.size, 1, none⟩ = some (.slice A2 x.write.subs.length c2) ∧ w2.cell? ⟨w.heap.size, 2, none⟩ = some (.int .i64 x.value.kind) ∧ w2.cell? ⟨w.heap.size, 3, none⟩ = some (.int .i64 x.value.num) ∧ w2.cell? ⟨w.heap.size, 4, none⟩ = some (.slice A5 x.value.index.coefs.length c5) ∧ w2.cell? ⟨w.heap.size, 5, none⟩ = some (.int .i64 x.value.index.const) ∧ w2.cell? ⟨w.heap.size, 6, none⟩ = some (.string x.value.read.arr) ∧ w2.cell? ⟨w.heap.size, 7, none⟩ = some (.slice A8 x.value.read.subs.length c8) ∧ w2.cell? ⟨w.heap.size, 8, none⟩ = some (.slice A9 x.value.kids.length c9) := by
    refine ⟨?_, ?_, ?_, ?_, ?_, ?_, ?_, ?_, ?_⟩ <;> (rw [b2.cell (by simp [World.setCell]; try (have := ZS1.out; omega))]; go_simp)
  have PR2 : w2.cell? ⟨w.heap.size + 1, 0, none⟩ = some (.string ⟨#[]⟩) ∧ w2.cell? ⟨w.heap.size + 1, 1, none⟩ = some (.slice none 0 0) ∧ w2.cell? ⟨w.heap.size + 1, 2, none⟩ = some (.int .i64 0) ∧ w2.cell? ⟨w.heap.size + 1, 3, none⟩ = some (.int .i64 0) ∧ w2.cell? ⟨w.heap.size + 1, 4, none⟩ = some (.slice none 0 0) ∧ w2.cell? ⟨w.heap.size + 1, 5, none⟩ = some (.int .i64 0) ∧ w2.cell? ⟨w.heap.size + 1, 6, none⟩ = some (.string ⟨#[]⟩) ∧ w2.cell? ⟨w.heap.size + 1, 7, none⟩ = some (.slice none 0 0) ∧ w2.cell? ⟨w.heap.size + 1, 8, none⟩ = some (.slice none 0 0) := by
    refine ⟨?_, ?_, ?_, ?_, ?_, ?_, ?_, ?_, ?_⟩ <;> (rw [b2.cell (by simp [World.setCell]; try (have := ZS1.out; omega))]; go_simp)
  have PO2 : w2.cell? ⟨w.heap.size + 2, 0, none⟩ = some (.string x.write.arr) ∧ w2.cell? ⟨w.heap.size + 2, 1, none⟩ = some (.slice A2r1 x.write.subs.length c2r1) ∧ w2.cell? ⟨w.heap.size + 2, 2, none⟩ = some (.int .i64 0) ∧ w2.cell? ⟨w.heap.size + 2, 3, none⟩ = some (.int .i64 0) ∧ w2.cell? ⟨w.heap.size + 2, 4, none⟩ = some (.slice none 0 0) ∧ w2.cell? ⟨w.heap.size + 2, 5, none⟩ = some (.int .i64 0) ∧ w2.cell? ⟨w.heap.size + 2, 6, none⟩ = some (.string ⟨#[]⟩) ∧ w2.cell? ⟨w.heap.size + 2, 7, none⟩ = some (.slice none 0 0) ∧ w2.cell? ⟨w.heap.size + 2, 8, none⟩ = some (.slice none 0 0) := by
    refine ⟨?_, ?_, ?_, ?_, ?_, ?_, ?_, ?_, ?_⟩ <;> (rw [b2.cell (by simp [World.setCell]; try (have := ZS1.out; omega))]; go_simp)
  have F2 : w2.frozen? ⟨w.heap.size + 1, 0, none⟩ = false ∧ w2.frozen? ⟨w.heap.size + 1, 1, none⟩ = false ∧ w2.frozen? ⟨w.heap.size + 1, 2, none⟩ = false ∧ w2.frozen? ⟨w.heap.size + 1, 3, none⟩ = false ∧ w2.frozen? ⟨w.heap.size + 1, 4, none⟩ = false ∧ w2.frozen? ⟨w.heap.size + 1, 5, none⟩ = false ∧ w2.frozen? ⟨w.heap.size + 1, 6, none⟩ = false ∧ w2.frozen? ⟨w.heap.size + 1, 7, none⟩ = false ∧ w2.frozen? ⟨w.heap.size + 1, 8, none⟩ = false ∧ w2.frozen? ⟨w.heap.size + 2, 0, none⟩ = false ∧ w2.frozen? ⟨w.heap.size + 2, 1, none⟩ = false ∧ w2.frozen? ⟨w.heap.size + 2, 2, none⟩ = false ∧ w2.frozen? ⟨w.heap.size + 2, 3, none⟩ = false ∧ w2.frozen? ⟨w.heap.size + 2, 4, none⟩ = false ∧ w2.frozen? ⟨w.heap.size + 2, 5, none⟩ = false ∧ w2.frozen? ⟨w.heap.size + 2, 6, none⟩ = false ∧ w2.frozen? ⟨w.heap.size + 2, 7, none⟩ = false ∧ w2.frozen? ⟨w.heap.size + 2, 8, none⟩ = false := by
    refine ⟨?_, ?_, ?_, ?_, ?_, ?_, ?_, ?_, ?_, ?_, ?_, ?_, ?_, ?_, ?_, ?_, ?_, ?_⟩ <;> (rw [b2.frozen (by simp [World.setCell]; try (have := ZS1.out; omega))]; go_simp)
  have RR1_2 := Lib.hid (show Rep w2 (x.write.d) [.string x.write.arr, .slice A2r1 x.write.subs.length c2r1] bs1 from Rep.below (Rep.keep _ RR1_1.out (by repeat (first | with_reducible exact Keeps.refl _ _ | refine Keeps.setCell ?_ (fun hm => by have := HB1.out _ hm; dsimp only at this; omega) _))) b2); clear RR1_1
  have S2 : Below w.heap.size w w2 := by
    refine below_tr (a := _) ?_ b2
    exact (by first | with_reducible exact S1 | exact S1.setCell (by simp; try omega) _ | exact (S1.setCell (by simp; try omega) _).setCell (by simp; try omega) _ | exact ((S1.setCell (by simp; try omega) _).setCell (by simp; try omega) _).setCell (by simp; try omega) _)
  have ZS2 := Lib.hid (show w.heap.size + 3 ≤ w2.heap.size by have := b2.size; (try simp [World.setCell] at this); have := ZS1.out; omega)
  have ZT2 := Lib.hid (show w1.heap.size ≤ w2.heap.size by have := b2.size; (try simp [World.setCell] at this); omega)
  have RR2_2 := Lib.hid r2; have HB2 := Lib.hid hb2; have ND2 := Lib.hid nd2; have LT2 := Lib.hid (Rep.lt _ r2); have HC2 := Lib.hid hc2
  clear r2 hb2 nd2 hy2 b2 hc2 PA1 PR1 PO1 F1
  have RALL := Lib.hid (show Rep w2 x.d [.string x.write.arr, .slice A2r1 x.write.subs.length c2r1, .int .i64 x.value.kind, .int .i64 x.value.num, .slice A3r2 x.value.index.coefs.length c3r2, .int .i64 x.value.index.const, .string x.value.read.arr, .slice A6r2 x.value.read.subs.length c6r2, .slice A7r2 x.value.kids.length c7r2] (bs1 ++ bs2) from (show ∀ W, Reps W [x.write.d, x.value.d] ([.string x.write.arr, .slice A2r1 x.write.subs.length c2r1] ++ ([.int .i64 x.value.kind, .int .i64 x.value.num, .slice A3r2 x.value.index.coefs.length c3r2, .int .i64 x.value.index.const, .string x.value.read.arr, .slice A6r2 x.value.read.subs.length c6r2, .slice A7r2 x.value.kids.length c7r2] ++ ([]))) (bs1 ++ (bs2 ++ ([]))) → Rep W x.d [.string x.write.arr, .slice A2r1 x.write.subs.length c2r1, .int .i64 x.value.kind, .int .i64 x.value.num, .slice A3r2 x.value.index.coefs.length c3r2, .int .i64 x.value.index.const, .string x.value.read.arr, .slice A6r2 x.value.read.subs.length c6r2, .slice A7r2 x.value.kids.length c7r2] (bs1 ++ bs2) from fun W hq => by simpa [List.append_assoc] using (show Rep W x.d _ _ from hq)) _ ⟨_, _, _, _, rfl, rfl, RR1_2.out, ⟨_, _, _, _, rfl, rfl, RR2_2.out, ⟨rfl, rfl⟩⟩⟩)
  have NDALL := Lib.hid (show (bs1 ++ bs2 : List Nat).Nodup from List.nodup_append.2 ⟨ND1.out, ND2.out, fun y h1 z h2 e => by
      subst e
      have h3 := HC2.out y h2
      (have := LT1.out y h1; omega)⟩)
  have HBALL := Lib.hid (show ∀ y ∈ (bs1 ++ bs2 : List Nat), w.heap.size + 3 ≤ y from (fun y hy => by
    simp only [List.mem_append] at hy
    rcases hy with hy | hy
    · exact HB1.out y hy
    · exact HB2.out y hy))
  clear RR1_2 HB1 ND1 LT1 RR2_2 HB2 ND2 LT2 HC2 ZT2
  go_wp2
  refine bodyPost_ret (v := .agg #[.string x.write.arr, .slice A2r1 x.write.subs.length c2r1, .int .i64 x.value.kind, .int .i64 x.value.num, .slice A3r2 x.value.index.coefs.length c3r2, .int .i64 x.value.index.const, .string x.value.read.arr, .slice A6r2 x.value.read.subs.length c6r2, .slice A7r2 x.value.kids.length c7r2]) (by simp [results, Tryd.results19, go_sem, PR2, PO2]) rfl ⟨[.string x.write.arr, .slice A2r1 x.write.subs.length c2r1, .int .i64 x.value.kind, .int .i64 x.value.num, .slice A3r2 x.value.index.coefs.length c3r2, .int .i64 x.value.index.const, .string x.value.read.arr, .slice A6r2 x.value.read.subs.length c6r2, .slice A7r2 x.value.kids.length c7r2], bs1 ++ bs2, rfl, ?_, NDALL.out, fun y hy => by have := HBALL.out y hy; omega, ?_⟩
  · exact Rep.keep _ RALL.out (by repeat (first | with_reducible exact Keeps.refl _ _ | refine Keeps.setCell ?_ (fun hm => by have := HBALL.out _ hm; dsimp only at this; omega) _))
  · exact (by repeat (first | with_reducible exact S2 | refine Below.setCell ?_ (by simp; try omega) _))


def Stm.mkE (q : Int) (x : Stm) : Stm := ⟨⟨mtext (q), mkL Aff.mkE Aff.cntE (q + 1) x.write.subs⟩, ⟨q + 1 + ((cntL Aff.cntE x.write.subs : Nat) : Int), q + 1 + ((cntL Aff.cntE x.write.subs : Nat) : Int) + 1, ⟨seqI (q + 1 + ((cntL Aff.cntE x.write.subs : Nat) : Int) + 1 + 1) x.value.index.coefs.length, q + 1 + ((cntL Aff.cntE x.write.subs : Nat) : Int) + 1 + 1 + ((x.value.index.coefs.length : Nat) : Int)⟩, ⟨mtext (q + 1 + ((cntL Aff.cntE x.write.subs : Nat) : Int) + 1 + 1 + ((x.value.index.coefs.length : Nat) : Int) + 1), mkL Aff.mkE Aff.cntE (q + 1 + ((cntL Aff.cntE x.write.subs : Nat) : Int) + 1 + 1 + ((x.value.index.coefs.length : Nat) : Int) + 1 + 1) x.value.read.subs⟩, mkL Ex.mkE Ex.cntE (q + 1 + ((cntL Aff.cntE x.write.subs : Nat) : Int) + 1 + 1 + ((x.value.index.coefs.length : Nat) : Int) + 1 + 1 + ((cntL Aff.cntE x.value.read.subs : Nat) : Int)) x.value.kids⟩⟩
def Stm.cntE (x : Stm) : Nat := 1 + cntL Aff.cntE x.write.subs + 1 + 1 + x.value.index.coefs.length + 1 + 1 + cntL Aff.cntE x.value.read.subs + cntL Ex.cntE x.value.kids

theorem Stm.cnt_le (x : Stm) : x.cntE ≤ 8 * (szD x.d + 1) := by
  have := szD_stm x
  have := szD_acc x.write
  have := szD_ex x.value
  have := szD_aff x.value.index
  have := szD_acc x.value.read
  have := Aff.cnts_le x.write.subs
  have := Aff.cnts_le x.value.read.subs
  have := Ex.cnts_le x.value.kids
  simp only [Stm.cntE]
  omega
theorem Stm.cnts_le (xs : List Stm) : cntL Stm.cntE xs ≤ 8 * szD (sls Stm.d xs) := cntL_le8 xs fun x _ => x.cnt_le



def MadeStm (w : World) (x : Stm) (e : Ending) (w' : World) : Prop := ∃ (A2 : Option Addr) (c2 : Nat) (A5 : Option Addr) (c5 : Nat) (A8 : Option Addr) (c8 : Nat) (A9 : Option Addr) (c9 : Nat) (bs : List Nat), e = .returned (.agg #[.string x.write.arr, .slice A2 x.write.subs.length c2, .int .i64 x.value.kind, .int .i64 x.value.num, .slice A5 x.value.index.coefs.length c5, .int .i64 x.value.index.const, .string x.value.read.arr, .slice A8 x.value.read.subs.length c8, .slice A9 x.value.kids.length c9]) ∧ Rep w' x.d [.string x.write.arr, .slice A2 x.write.subs.length c2, .int .i64 x.value.kind, .int .i64 x.value.num, .slice A5 x.value.index.coefs.length c5, .int .i64 x.value.index.const, .string x.value.read.arr, .slice A8 x.value.read.subs.length c8, .slice A9 x.value.kids.length c9] bs ∧ bs.Nodup ∧ (∀ b ∈ bs, w.heap.size ≤ b) ∧ Below w.heap.size w w'
theorem MadeStm.of {w w' : World} {x : Stm} {e : Ending} (h : MadeT w x.d e w') : MadeStm w x e w' := by
  obtain ⟨cs, bs, rfl, r, h1, h2, h3⟩ := h
  have r2 := r
  obtain ⟨A2, c2, A5, c5, A8, c8, A9, c9, d2, d5, d8, d9, rfl, _⟩ := Rep.stm_iff.1 r2
  exact ⟨_, _, _, _, _, _, _, _, _, rfl, r, h1, h2, h3⟩
theorem toStmt_m {w : World} {x : Stm} {cs : List Value} {bs : List Nat} (h : Rep w x.d cs bs) (hn : szD x.d ≤ 1048576) : Calls Tryd.prog 19 #[.agg cs.toArray] w (MadeStm w x) := (toStmt_c h (by omega)).mono fun _ _ h => MadeStm.of h
theorem szStmt_t {w : World} {x : Stm} {cs : List Value} {bs : List Nat} {left : Int} (h : Rep w x.d cs bs) (h0 : 0 ≤ left) (h1 : left ≤ 1048576) : Calls Tryd.prog 17 #[.agg cs.toArray, .int .i64 left] w fun e w' => e = .returned (.int .i64 (szR left (szD x.d))) ∧ Below w.heap.size w w' := szStmt_c h h0 h1
end Go.Proofs.YtbhniobgaoncaaaDoor
