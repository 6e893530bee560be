/- The Go type Stmt: how it reads; the law package's functions on it and on slices of it. Printed by tygen.py. -/
import Derived.Test.YtbhniobgaoncaaaGreatDoorZpTyExpr
set_option linter.all false
set_option linter.unusedSimpArgs false
set_option linter.unusedVariables false
namespace Go.Proofs.YtbhniobgaoncaaaGreatDoor
open Go.ChangeShapes Go.WideShapes Go.ChangeAt Go.RowKit Go.Deep

structure Stm where
  write : Acc
  value : Ex

def Stm.d (x : Stm) : D := .st [x.write.d, x.value.d]
theorem Stm.d_size (x : Stm) : x.d.size = 9 := by simp only [Stm.d, D.size, D.sizes, Acc.d_size, Ex.d_size]
theorem Rep.stm_iff {w : World} {x : Stm} {cs : List Value} {bs : List Nat} : Rep w x.d cs bs ↔ ∃ (A2 : Option Addr) (c2 : Nat) (A5 : Option Addr) (c5 : Nat) (A8 : Option Addr) (c8 : Nat) (A9 : Option Addr) (c9 : Nat) (d2 : List Nat) (d5 : List Nat) (d8 : List Nat) (d9 : List Nat), cs = [.string x.write.arr, .slice A2 x.write.subs.length c2, .int .i64 x.value.kind, .int .i64 x.value.num, .slice A5 x.value.index.coefs.length c5, .int .i64 x.value.index.const, .string x.value.read.arr, .slice A8 x.value.read.subs.length c8, .slice A9 x.value.kids.length c9] ∧ bs = d2 ++ d5 ++ d8 ++ d9 ∧ x.write.arr.size ≤ maxLen ∧ Rep w (sls Aff.d x.write.subs) [.slice A2 x.write.subs.length c2] d2 ∧ I64 x.value.kind ∧ I64 x.value.num ∧ Rep w (ints x.value.index.coefs) [.slice A5 x.value.index.coefs.length c5] d5 ∧ I64 x.value.index.const ∧ x.value.read.arr.size ≤ maxLen ∧ Rep w (sls Aff.d x.value.read.subs) [.slice A8 x.value.read.subs.length c8] d8 ∧ Rep w (sls Ex.d x.value.kids) [.slice A9 x.value.kids.length c9] d9 := by
  constructor
  · intro h
    replace h : Reps w [x.write.d, x.value.d] cs bs := h
    obtain ⟨_, _, _, _, rfl, rfl, g1, h⟩ := h
    obtain ⟨_, _, _, _, rfl, rfl, g2, h⟩ := h
    obtain ⟨rfl, rfl⟩ := h
    obtain ⟨A2_1, c2_1, d2_1, rfl, rfl, g1_1, g1_2⟩ := Rep.acc_iff.1 g1
    obtain ⟨A3_2, c3_2, A6_2, c6_2, A7_2, c7_2, d3_2, d6_2, d7_2, rfl, rfl, g2_1, g2_2, g2_3, g2_4, g2_5, g2_6, g2_7⟩ := Rep.ex_iff.1 g2
    exact ⟨_, _, _, _, _, _, _, _, _, _, _, _, rfl, by simp, g1_1, g1_2, g2_1, g2_2, g2_3, g2_4, g2_5, g2_6, g2_7⟩
  · rintro ⟨A2, c2, A5, c5, A8, c8, A9, c9, d2, d5, d8, d9, rfl, rfl, g1, g2, g3, g4, g5, g6, g7, g8, g9⟩
    have h : Reps w [x.write.d, x.value.d] _ _ := ⟨_, _, _, _, rfl, rfl, (Rep.acc_iff.2 ⟨_, _, _, rfl, rfl, g1, g2⟩), ⟨_, _, _, _, rfl, rfl, (Rep.ex_iff.2 ⟨_, _, _, _, _, _, _, _, _, rfl, rfl, g3, g4, g5, g6, g7, g8, g9⟩), ⟨rfl, rfl⟩⟩⟩
    simpa using (show Rep w x.d _ _ from h)

set_option maxHeartbeats 1000000 in
theorem eqStmt_c {w : World} {x : Stm} {cs cs' : List Value} {bs bs' : List Nat} (h : Rep w x.d cs bs) (h' : Rep w x.d cs' bs') :
    Calls Tryz.prog 19 #[.agg cs.toArray, .agg cs'.toArray] w fun e w' => e = .returned (.bool true) ∧ Below w.heap.size w w' := by
  have H := Lib.hid h
  have H' := Lib.hid h'
  obtain ⟨A2, c2, A5, c5, A8, c8, A9, c9, d2, d5, d8, d9, rfl, rfl, g1, g2, g3, g4, g5, g6, g7, g8, g9⟩ := Rep.stm_iff.1 h
  obtain ⟨A2', c2', A5', c5', A8', c8', A9', c9', d2', d5', d8', d9', rfl, rfl, g1', g2', g3', g4', g5', g6', g7', g8', g9'⟩ := Rep.stm_iff.1 h'
  have G1 := Lib.hid ((Rep.acc_iff (x := x.write)).2 ⟨_, _, _, rfl, rfl, g1, g2⟩)
  have G1' := Lib.hid ((Rep.acc_iff (x := x.write)).2 ⟨_, _, _, rfl, rfl, g1', g2'⟩)
  have G3 := Lib.hid ((Rep.ex_iff (x := x.value)).2 ⟨_, _, _, _, _, _, _, _, _, rfl, rfl, g3, g4, g5, g6, g7, g8, g9⟩)
  have G3' := Lib.hid ((Rep.ex_iff (x := x.value)).2 ⟨_, _, _, _, _, _, _, _, _, rfl, rfl, g3', g4', g5', g6', g7', g8', g9'⟩)
  clear h h' H H' g1 g1' g2 g2' g3 g3' g4 g4' g5 g5' g6 g6' g7 g7' g8 g8' g9 g9'
  go_enter Tryz.func19, Tryz.ntmps19
  go_wp2_with fail
  refine (eqAccess_c (G1.out.below bel) (G1'.out.below bel)).mono ?_
  rintro e w1 ⟨rfl, b1⟩
  have P1 : Box9 w1 w.heap.size (.string x.write.arr) (.slice A2 x.write.subs.length c2) (.int .i64 x.value.kind) (.int .i64 x.value.num) (.slice A5 x.value.index.coefs.length c5) (.int .i64 x.value.index.const) (.string x.value.read.arr) (.slice A8 x.value.read.subs.length c8) (.slice A9 x.value.kids.length c9) := by
    refine ⟨?_, ?_, ?_, ?_, ?_, ?_, ?_, ?_, ?_⟩ <;> (rw [b1.cell (by simp; try omega)]; go_simp)
  have Q1 : Box9 w1 (w.heap.size + 1) (.string x.write.arr) (.slice A2' x.write.subs.length c2') (.int .i64 x.value.kind) (.int .i64 x.value.num) (.slice A5' x.value.index.coefs.length c5') (.int .i64 x.value.index.const) (.string x.value.read.arr) (.slice A8' x.value.read.subs.length c8') (.slice A9' x.value.kids.length c9') := by
    refine ⟨?_, ?_, ?_, ?_, ?_, ?_, ?_, ?_, ?_⟩ <;> (rw [b1.cell (by simp; try omega)]; go_simp)
  have S1 : Below w.heap.size w w1 := bel
  clear b1
  go_wp2_with fail
  refine (eqExpr_c (G3.out.below bel) (G3'.out.below bel)).mono ?_
  rintro e w2 ⟨rfl, b2⟩
  have P2 := P1.to b2; clear P1
  have Q2 := Q1.to b2; clear Q1
  have S2 := below_tr S1 b2
  clear b2
  go_wp2
  go_ret
  exact ⟨rfl, bel⟩

set_option maxHeartbeats 1000000 in
theorem eqStmtS_c {w : World} {xs : List Stm} {A B : Option Addr} {n m c d : Nat} {bs bs' : List Nat} (hA : Rep w (sls Stm.d xs) [.slice A n c] bs) (hB : Rep w (sls Stm.d xs) [.slice B m d] bs') :
    Calls Tryz.prog 137 #[.slice A n c, .slice B m d] w fun e w' => e = .returned (.bool true) ∧ Below w.heap.size w w' := by
  obtain ⟨rfl, h1, h2⟩ := hA.sls_len
  obtain ⟨rfl, _, _⟩ := hB.sls_len
  have hn : xs.length ≤ 9223372036854775807 := Nat.le_trans h1 h2
  clear h1 h2
  have hl1 : ((xs.length : Int) != (xs.length : Int)) = false := by simp
  have HA := Lib.hid hA; clear hA
  have HB := Lib.hid hB; clear hB
  go_enter Tryz.func137, Tryz.ntmps137
  go_wp2
  go_loopw [5] (fun i wr => ∃ k : Nat, k ≤ xs.length ∧ i = .int .i64 k ∧ Below w.heap.size w wr) (fun i _ => xs.length - (intOf i).toNat)
  case atStart => exact ⟨0, Nat.zero_le _, rfl, Below.refl _ _⟩
  case round =>
    obtain ⟨k, hk, rfl, hb⟩ := hrel
    by_cases hlt : k < xs.length
    · obtain ⟨b, o, cs, l, rfl, hbl, hr, _, _, hc⟩ := (HA.out.below hb).sls_at Stm.d_size hlt
      have G := Lib.hid hr
      obtain ⟨A2, c2, A5, c5, A8, c8, A9, c9, d2, d5, d8, d9, rfl, rfl, g1, g2, g3, g4, g5, g6, g7, g8, g9⟩ := Rep.stm_iff.1 hr
      have k0 := (hc 0 _ rfl).1; rw [Nat.add_zero] at k0
      have k1 := (hc 1 _ rfl).1
      have k2 := (hc 2 _ rfl).1
      have k3 := (hc 3 _ rfl).1
      have k4 := (hc 4 _ rfl).1
      have k5 := (hc 5 _ rfl).1
      have k6 := (hc 6 _ rfl).1
      have k7 := (hc 7 _ rfl).1
      have k8 := (hc 8 _ rfl).1
      clear hc hr g1 g2 g3 g4 g5 g6 g7 g8 g9
      obtain ⟨b', o', cs', l', rfl, hbl', hr', _, _, hc'⟩ := (HB.out.below hb).sls_at Stm.d_size hlt
      have G' := Lib.hid hr'
      obtain ⟨A2', c2', A5', c5', A8', c8', A9', c9', d2', d5', d8', d9', rfl, rfl, g1', g2', g3', g4', g5', g6', g7', g8', g9'⟩ := Rep.stm_iff.1 hr'
      have k0' := (hc' 0 _ rfl).1; rw [Nat.add_zero] at k0'
      have k1' := (hc' 1 _ rfl).1
      have k2' := (hc' 2 _ rfl).1
      have k3' := (hc' 3 _ rfl).1
      have k4' := (hc' 4 _ rfl).1
      have k5' := (hc' 5 _ rfl).1
      have k6' := (hc' 6 _ rfl).1
      have k7' := (hc' 7 _ rfl).1
      have k8' := (hc' 8 _ rfl).1
      clear hc' hr' g1' g2' g3' g4' g5' g6' g7' g8' g9'
      go_wp2_with fail
      go_region_held3 (fun w' => w'.cell? ⟨b, o + k * 9, none⟩ = some (.string xs[k].write.arr) ∧ w'.cell? ⟨b, o + k * 9 + 1, none⟩ = some (.slice A2 xs[k].write.subs.length c2) ∧ w'.cell? ⟨b, o + k * 9 + 2, none⟩ = some (.int .i64 xs[k].value.kind) ∧ w'.cell? ⟨b, o + k * 9 + 3, none⟩ = some (.int .i64 xs[k].value.num) ∧ w'.cell? ⟨b, o + k * 9 + 4, none⟩ = some (.slice A5 xs[k].value.index.coefs.length c5) ∧ w'.cell? ⟨b, o + k * 9 + 5, none⟩ = some (.int .i64 xs[k].value.index.const) ∧ w'.cell? ⟨b, o + k * 9 + 6, none⟩ = some (.string xs[k].value.read.arr) ∧ w'.cell? ⟨b, o + k * 9 + 7, none⟩ = some (.slice A8 xs[k].value.read.subs.length c8) ∧ w'.cell? ⟨b, o + k * 9 + 8, none⟩ = some (.slice A9 xs[k].value.kids.length c9) ∧ w'.cell? ⟨b', o' + k * 9, none⟩ = some (.string xs[k].write.arr) ∧ w'.cell? ⟨b', o' + k * 9 + 1, none⟩ = some (.slice A2' xs[k].write.subs.length c2') ∧ w'.cell? ⟨b', o' + k * 9 + 2, none⟩ = some (.int .i64 xs[k].value.kind) ∧ w'.cell? ⟨b', o' + k * 9 + 3, none⟩ = some (.int .i64 xs[k].value.num) ∧ w'.cell? ⟨b', o' + k * 9 + 4, none⟩ = some (.slice A5' xs[k].value.index.coefs.length c5') ∧ w'.cell? ⟨b', o' + k * 9 + 5, none⟩ = some (.int .i64 xs[k].value.index.const) ∧ w'.cell? ⟨b', o' + k * 9 + 6, none⟩ = some (.string xs[k].value.read.arr) ∧ w'.cell? ⟨b', o' + k * 9 + 7, none⟩ = some (.slice A8' xs[k].value.read.subs.length c8') ∧ w'.cell? ⟨b', o' + k * 9 + 8, none⟩ = some (.slice A9' xs[k].value.kids.length c9')) (first | exact ⟨k0, k1, k2, k3, k4, k5, k6, k7, k8, k0', k1', k2', k3', k4', k5', k6', k7', k8'⟩ | exact ⟨(by rw [b1.cell hbl]; exact k0), (by rw [b1.cell hbl]; exact k1), (by rw [b1.cell hbl]; exact k2), (by rw [b1.cell hbl]; exact k3), (by rw [b1.cell hbl]; exact k4), (by rw [b1.cell hbl]; exact k5), (by rw [b1.cell hbl]; exact k6), (by rw [b1.cell hbl]; exact k7), (by rw [b1.cell hbl]; exact k8), (by rw [b1.cell hbl']; exact k0'), (by rw [b1.cell hbl']; exact k1'), (by rw [b1.cell hbl']; exact k2'), (by rw [b1.cell hbl']; exact k3'), (by rw [b1.cell hbl']; exact k4'), (by rw [b1.cell hbl']; exact k5'), (by rw [b1.cell hbl']; exact k6'), (by rw [b1.cell hbl']; exact k7'), (by rw [b1.cell hbl']; exact k8')⟩ | skip)
        (first | (go_at_call 19; refine (eqStmt_c (G.out.drewN 1) (G'.out.drewN 1)).mono ?_; rintro e w1 ⟨rfl, b1⟩; replace b1 := of_drew b1))
      have S1 := below_tr hb b1
      clear b1
      go_wp2
      go_roundw
      case rel => exact ⟨k + 1, by omega, by go_num, S1⟩
      case measure => simp [intOf]; omega
    · go_wp2
      go_ret
      exact ⟨rfl, hb⟩

theorem szD_stm (x : Stm) : szD x.d = szD x.write.d + szD x.value.d := by
  have h : szD x.d = szDs [x.write.d, x.value.d] := by simp only [Stm.d, szD]
  rw [h]; simp only [szDs, szD, szD_ints]; omega
set_option maxHeartbeats 2000000 in
theorem szStmt_c {w : World} {x : Stm} {cs : List Value} {bs : List Nat} {left : Int} (h : Rep w x.d cs bs) (h0 : 0 ≤ left) (h1 : left ≤ 1048576) :
    Calls Tryz.prog 167 #[.agg cs.toArray, .int .i64 left] w fun e w' => e = .returned (.int .i64 (szR left (szD x.d))) ∧ Below w.heap.size w w' := by
  obtain ⟨A2, c2, A5, c5, A8, c8, A9, c9, d2, d5, d8, d9, rfl, rfl, g1, g2, g3, g4, g5, g6, g7, g8, g9⟩ := Rep.stm_iff.1 h
  rw [szD_stm x]
  have G1 := Lib.hid ((Rep.acc_iff (x := x.write)).2 ⟨_, _, _, rfl, rfl, g1, g2⟩)
  have G3 := Lib.hid ((Rep.ex_iff (x := x.value)).2 ⟨_, _, _, _, _, _, _, _, _, rfl, rfl, g3, g4, g5, g6, g7, g8, g9⟩)
  clear h g1 g2 g3 g4 g5 g6 g7 g8 g9
  by_cases hs0 : (left : Int) - ((szD x.write.d : Nat) : Int) < 0
  · have HR := Lib.hid (show szR left (szD x.write.d + szD x.value.d) = -1 from szR_neg (by omega))
    have HS0 := Lib.hid (szR_neg hs0)
    go_enter Tryz.func167, Tryz.ntmps167
    go_wp2_with fail
    refine (szAccess_c (G1.out.below bel) (by omega) (by omega)).mono ?_
    rintro e w1 ⟨rfl, b1⟩
    rw [HS0.out]
    have P1 : Box9 w1 w.heap.size (.string x.write.arr) (.slice A2 x.write.subs.length c2) (.int .i64 x.value.kind) (.int .i64 x.value.num) (.slice A5 x.value.index.coefs.length c5) (.int .i64 x.value.index.const) (.string x.value.read.arr) (.slice A8 x.value.read.subs.length c8) (.slice A9 x.value.kids.length c9) := by
      refine ⟨?_, ?_, ?_, ?_, ?_, ?_, ?_, ?_, ?_⟩ <;> (rw [b1.cell (by simp; try omega)]; go_simp)
    have S1 : Below w.heap.size w w1 := bel
    clear b1
    go_wp2
    go_ret
    exact ⟨ret_int HR.out.symm, bel⟩
  · have HS0 := Lib.hid (szR_pos (left := left) (tot := szD x.write.d) (by omega))
    have hp0 : 0 ≤ left - ((szD x.write.d : Nat) : Int) := by omega
    clear hs0
    by_cases hs1 : (left - ((szD x.write.d : Nat) : Int) : Int) - ((szD x.value.d : Nat) : Int) < 0
    · have HR := Lib.hid (show szR left (szD x.write.d + szD x.value.d) = -1 from szR_neg (by omega))
      have HS1 := Lib.hid (szR_neg hs1)
      go_enter Tryz.func167, Tryz.ntmps167
      go_wp2_with fail
      refine (szAccess_c (G1.out.below bel) (by omega) (by omega)).mono ?_
      rintro e w1 ⟨rfl, b1⟩
      rw [HS0.out]
      have P1 : Box9 w1 w.heap.size (.string x.write.arr) (.slice A2 x.write.subs.length c2) (.int .i64 x.value.kind) (.int .i64 x.value.num) (.slice A5 x.value.index.coefs.length c5) (.int .i64 x.value.index.const) (.string x.value.read.arr) (.slice A8 x.value.read.subs.length c8) (.slice A9 x.value.kids.length c9) := by
        refine ⟨?_, ?_, ?_, ?_, ?_, ?_, ?_, ?_, ?_⟩ <;> (rw [b1.cell (by simp; try omega)]; go_simp)
      have S1 : Below w.heap.size w w1 := bel
      clear b1
      go_wp2_with fail
      refine (szExpr_c (G3.out.below bel) (by omega) (by omega)).mono ?_
      rintro e w2 ⟨rfl, b2⟩
      rw [HS1.out]
      have P2 := P1.to b2; clear P1
      have S2 := below_tr S1 b2
      clear b2
      go_wp2
      go_ret
      exact ⟨ret_int HR.out.symm, bel⟩
    · have HS1 := Lib.hid (szR_pos (left := left - ((szD x.write.d : Nat) : Int)) (tot := szD x.value.d) (by omega))
      have hp1 : 0 ≤ left - ((szD x.write.d : Nat) : Int) - ((szD x.value.d : Nat) : Int) := by omega
      clear hs1
      have HR := Lib.hid (show szR left (szD x.write.d + szD x.value.d) = left - ((szD x.write.d : Nat) : Int) - ((szD x.value.d : Nat) : Int) by rw [szR_pos (by omega)] <;> omega)
      go_enter Tryz.func167, Tryz.ntmps167
      go_wp2_with fail
      refine (szAccess_c (G1.out.below bel) (by omega) (by omega)).mono ?_
      rintro e w1 ⟨rfl, b1⟩
      rw [HS0.out]
      have P1 : Box9 w1 w.heap.size (.string x.write.arr) (.slice A2 x.write.subs.length c2) (.int .i64 x.value.kind) (.int .i64 x.value.num) (.slice A5 x.value.index.coefs.length c5) (.int .i64 x.value.index.const) (.string x.value.read.arr) (.slice A8 x.value.read.subs.length c8) (.slice A9 x.value.kids.length c9) := by
        refine ⟨?_, ?_, ?_, ?_, ?_, ?_, ?_, ?_, ?_⟩ <;> (rw [b1.cell (by simp; try omega)]; go_simp)
      have S1 : Below w.heap.size w w1 := bel
      clear b1
      go_wp2_with fail
      refine (szExpr_c (G3.out.below bel) (by omega) (by omega)).mono ?_
      rintro e w2 ⟨rfl, b2⟩
      rw [HS1.out]
      have P2 := P1.to b2; clear P1
      have S2 := below_tr S1 b2
      clear b2
      go_wp2
      go_ret
      exact ⟨ret_int HR.out.symm, bel⟩

set_option maxHeartbeats 2000000 in
theorem szStmtS_c {w : World} {xs : List Stm} {A : Option Addr} {n c : Nat} {bs : List Nat} {left : Int} (h : Rep w (sls Stm.d xs) [.slice A n c] bs) (h0 : 0 ≤ left) (h1 : left ≤ 1048576) :
    Calls Tryz.prog 119 #[.slice A n c, .int .i64 left] w fun e w' => e = .returned (.int .i64 (szR left (szD (sls Stm.d xs)))) ∧ Below w.heap.size w w' := by
  obtain ⟨rfl, h2, h3⟩ := h.sls_len
  have hn : xs.length ≤ 9223372036854775807 := Nat.le_trans h2 h3
  have H := Lib.hid h; clear h h2 h3
  have HT := Lib.hid (szD_sls Stm.d xs)
  by_cases hs : left - ((xs.length : Nat) : Int) < 0
  · have hr := Lib.hid (show szR left (szD (sls Stm.d xs)) = -1 from szR_neg (by rw [HT.out]; omega))
    go_enter Tryz.func119, Tryz.ntmps119
    go_wp2
    go_ret
    exact ⟨ret_int hr.out.symm, bel⟩
  have hp : 0 ≤ left - ((xs.length : Nat) : Int) := by omega
  clear hs
  go_enter Tryz.func119, Tryz.ntmps119
  go_wp2
  go_loopw [1, 5] (fun u i wr => ∃ j : Nat, j ≤ xs.length ∧ i = .int .i64 j ∧ u = .int .i64 (left - ((xs.length : Nat) : Int) - ((szTo Stm.d xs j : Nat) : Int)) ∧ 0 ≤ left - ((xs.length : Nat) : Int) - ((szTo Stm.d xs j : Nat) : Int) ∧ Below w.heap.size w wr) (fun _ i _ => xs.length - (intOf i).toNat)
  case atStart => exact ⟨0, Nat.zero_le _, rfl, int_eq (by simp [szTo_zero]), by rw [szTo_zero]; omega, Below.refl _ _⟩
  case round =>
    obtain ⟨j, hj, rfl, rfl, hge, hb⟩ := hrel
    by_cases hlt : j < xs.length
    · have HD := Lib.hid (szTo_succ Stm.d hlt)
      have HE := Lib.hid (szTo_le Stm.d (xs := xs) (j + 1))
      obtain ⟨b, o, cs, l, rfl, hbl, hr, _, _, hc⟩ := (H.out.below hb).sls_at Stm.d_size (k := j) hlt
      have G := Lib.hid hr
      obtain ⟨A2, c2, A5, c5, A8, c8, A9, c9, d2, d5, d8, d9, rfl, rfl, g1, g2, g3, g4, g5, g6, g7, g8, g9⟩ := Rep.stm_iff.1 hr
      have k0 := (hc 0 _ rfl).1; rw [Nat.add_zero] at k0
      have k1 := (hc 1 _ rfl).1
      have k2 := (hc 2 _ rfl).1
      have k3 := (hc 3 _ rfl).1
      have k4 := (hc 4 _ rfl).1
      have k5 := (hc 5 _ rfl).1
      have k6 := (hc 6 _ rfl).1
      have k7 := (hc 7 _ rfl).1
      have k8 := (hc 8 _ rfl).1
      clear hc hr g1 g2 g3 g4 g5 g6 g7 g8 g9
      by_cases hx : left - ((xs.length : Nat) : Int) - ((szTo Stm.d xs j : Nat) : Int) - ((szD (Stm.d xs[j]) : Nat) : Int) < 0
      · have HN := Lib.hid (szR_neg hx)
        have hr2 := Lib.hid (show szR left (szD (sls Stm.d xs)) = -1 from szR_neg (by have h4 := HE.out; rw [HD.out] at h4; rw [HT.out]; omega))
        go_wp2_with fail
        refine (szStmt_c G.out (by omega) (by omega)).mono ?_
        rintro e w1 ⟨rfl, b1⟩
        rw [HN.out]
        go_wp2
        go_ret
        exact ⟨ret_int hr2.out.symm, below_tr hb b1⟩
      · have HN := Lib.hid (szR_pos (left := left - ((xs.length : Nat) : Int) - ((szTo Stm.d xs j : Nat) : Int)) (tot := szD (Stm.d xs[j])) (by omega))
        have hge2 : 0 ≤ left - ((xs.length : Nat) : Int) - ((szTo Stm.d xs j : Nat) : Int) - ((szD (Stm.d xs[j]) : Nat) : Int) := by omega
        go_wp2_with fail
        refine (szStmt_c G.out (by omega) (by omega)).mono ?_
        rintro e w1 ⟨rfl, b1⟩
        rw [HN.out]
        go_wp2
        go_roundw
        case rel => exact ⟨j + 1, by omega, by go_num, int_eq (by rw [HD.out]; omega), by rw [HD.out]; omega, below_tr hb b1⟩
        case measure => simp [intOf]; omega
    · have hjj : j = xs.length := by omega
      subst hjj
      have hr2 := Lib.hid (show szR left (szD (sls Stm.d xs)) = left - ((xs.length : Nat) : Int) - ((szTo Stm.d xs xs.length : Nat) : Int) by rw [szTo_all, szR_pos (by rw [HT.out]; rw [szTo_all] at hge; omega), HT.out]; omega)
      go_wp2
      go_ret
      exact ⟨ret_int hr2.out.symm, hb⟩

set_option maxHeartbeats 4000000 in
set_option maxRecDepth 100000 in
theorem toStmt_c {w : World} {x : Stm} {cs : List Value} {bs : List Nat} (h : Rep w x.d cs bs) (hz : szD x.d ≤ 10000000) :
    Calls Tryz.prog 174 #[.agg cs.toArray] w (MadeT w x.d) := by
  rw [szD_stm] at hz
  obtain ⟨A2, c2, A5, c5, A8, c8, A9, c9, d2, d5, d8, d9, rfl, rfl, g1, g2, g3, g4, g5, g6, g7, g8, g9⟩ := Rep.stm_iff.1 h
  have G1 := Lib.hid ((Rep.acc_iff (x := x.write)).2 ⟨_, _, _, rfl, rfl, g1, g2⟩)
  have Z1 := Lib.hid (show szD x.write.d ≤ 10000000 by omega)
  have G3 := Lib.hid ((Rep.ex_iff (x := x.value)).2 ⟨_, _, _, _, _, _, _, _, _, rfl, rfl, g3, g4, g5, g6, g7, g8, g9⟩)
  have Z3 := Lib.hid (show szD x.value.d ≤ 10000000 by omega)
  have I1 := Lib.hid g1
  have I3 := Lib.hid g3
  have I4 := Lib.hid g4
  have I6 := Lib.hid g6
  have I7 := Lib.hid g7
  clear h hz g1 g2 g3 g4 g5 g6 g7 g8 g9
  go_enter Tryz.func174, Tryz.ntmps174
  go_wp2_with fail
  refine (toAccess_c (G1.out.below bel) Z1.out).mono ?_
  rintro e w1 ⟨cs1, bs1, rfl, r1, nd1, hy1, b1⟩
  obtain ⟨A2r1, c2r1, d2r1, hcs1, _⟩ := Rep.acc_iff.1 r1
  subst hcs1
  have hb1 : ∀ y ∈ bs1, w.heap.size + 3 ≤ y := fun y hy => by have := hy1 y hy; (try simp [World.setCell] at this); omega
  have PA1 : w1.cell? ⟨w.heap.size, 0, none⟩ = some (.string x.write.arr) ∧ w1.cell? ⟨w.heap.size, 1, none⟩ = some (.slice A2 x.write.subs.length c2) ∧ w1.cell? ⟨w.heap.size, 2, none⟩ = some (.int .i64 x.value.kind) ∧ w1.cell? ⟨w.heap.size, 3, none⟩ = some (.int .i64 x.value.num) ∧ w1.cell? ⟨w.heap.size, 4, none⟩ = some (.slice A5 x.value.index.coefs.length c5) ∧ w1.cell? ⟨w.heap.size, 5, none⟩ = some (.int .i64 x.value.index.const) ∧ w1.cell? ⟨w.heap.size, 6, none⟩ = some (.string x.value.read.arr) ∧ w1.cell? ⟨w.heap.size, 7, none⟩ = some (.slice A8 x.value.read.subs.length c8) ∧ w1.cell? ⟨w.heap.size, 8, none⟩ = some (.slice A9 x.value.kids.length c9) := by
    refine ⟨?_, ?_, ?_, ?_, ?_, ?_, ?_, ?_, ?_⟩ <;> (rw [b1.cell (by simp [World.setCell]; try (omega))]; go_simp)
  have PR1 : w1.cell? ⟨w.heap.size + 1, 0, none⟩ = some (.string ⟨#[]⟩) ∧ w1.cell? ⟨w.heap.size + 1, 1, none⟩ = some (.slice none 0 0) ∧ w1.cell? ⟨w.heap.size + 1, 2, none⟩ = some (.int .i64 0) ∧ w1.cell? ⟨w.heap.size + 1, 3, none⟩ = some (.int .i64 0) ∧ w1.cell? ⟨w.heap.size + 1, 4, none⟩ = some (.slice none 0 0) ∧ w1.cell? ⟨w.heap.size + 1, 5, none⟩ = some (.int .i64 0) ∧ w1.cell? ⟨w.heap.size + 1, 6, none⟩ = some (.string ⟨#[]⟩) ∧ w1.cell? ⟨w.heap.size + 1, 7, none⟩ = some (.slice none 0 0) ∧ w1.cell? ⟨w.heap.size + 1, 8, none⟩ = some (.slice none 0 0) := by
    refine ⟨?_, ?_, ?_, ?_, ?_, ?_, ?_, ?_, ?_⟩ <;> (rw [b1.cell (by simp [World.setCell]; try (omega))]; go_simp)
  have PO1 : w1.cell? ⟨w.heap.size + 2, 0, none⟩ = some (.string ⟨#[]⟩) ∧ w1.cell? ⟨w.heap.size + 2, 1, none⟩ = some (.slice none 0 0) ∧ w1.cell? ⟨w.heap.size + 2, 2, none⟩ = some (.int .i64 0) ∧ w1.cell? ⟨w.heap.size + 2, 3, none⟩ = some (.int .i64 0) ∧ w1.cell? ⟨w.heap.size + 2, 4, none⟩ = some (.slice none 0 0) ∧ w1.cell? ⟨w.heap.size + 2, 5, none⟩ = some (.int .i64 0) ∧ w1.cell? ⟨w.heap.size + 2, 6, none⟩ = some (.string ⟨#[]⟩) ∧ w1.cell? ⟨w.heap.size + 2, 7, none⟩ = some (.slice none 0 0) ∧ w1.cell? ⟨w.heap.size + 2, 8, none⟩ = some (.slice none 0 0) := by
    refine ⟨?_, ?_, ?_, ?_, ?_, ?_, ?_, ?_, ?_⟩ <;> (rw [b1.cell (by simp [World.setCell]; try (omega))]; go_simp)
  have F1 : w1.frozen? ⟨w.heap.size + 1, 0, none⟩ = false ∧ w1.frozen? ⟨w.heap.size + 1, 1, none⟩ = false ∧ w1.frozen? ⟨w.heap.size + 1, 2, none⟩ = false ∧ w1.frozen? ⟨w.heap.size + 1, 3, none⟩ = false ∧ w1.frozen? ⟨w.heap.size + 1, 4, none⟩ = false ∧ w1.frozen? ⟨w.heap.size + 1, 5, none⟩ = false ∧ w1.frozen? ⟨w.heap.size + 1, 6, none⟩ = false ∧ w1.frozen? ⟨w.heap.size + 1, 7, none⟩ = false ∧ w1.frozen? ⟨w.heap.size + 1, 8, none⟩ = false ∧ w1.frozen? ⟨w.heap.size + 2, 0, none⟩ = false ∧ w1.frozen? ⟨w.heap.size + 2, 1, none⟩ = false ∧ w1.frozen? ⟨w.heap.size + 2, 2, none⟩ = false ∧ w1.frozen? ⟨w.heap.size + 2, 3, none⟩ = false ∧ w1.frozen? ⟨w.heap.size + 2, 4, none⟩ = false ∧ w1.frozen? ⟨w.heap.size + 2, 5, none⟩ = false ∧ w1.frozen? ⟨w.heap.size + 2, 6, none⟩ = false ∧ w1.frozen? ⟨w.heap.size + 2, 7, none⟩ = false ∧ w1.frozen? ⟨w.heap.size + 2, 8, none⟩ = false := by
    refine ⟨?_, ?_, ?_, ?_, ?_, ?_, ?_, ?_, ?_, ?_, ?_, ?_, ?_, ?_, ?_, ?_, ?_, ?_⟩ <;> (rw [b1.frozen (by simp [World.setCell]; try (omega))]; go_simp)
  have S1 : Below w.heap.size w w1 := bel
  have ZS1 := Lib.hid (show w.heap.size + 3 ≤ w1.heap.size by have := b1.size; (try simp [World.setCell] at this); omega)
  have RR1_1 := Lib.hid r1; have HB1 := Lib.hid hb1; have ND1 := Lib.hid nd1; have LT1 := Lib.hid (Rep.lt _ r1)
  clear r1 hb1 nd1 hy1 b1
  go_wp2_with fail
  refine (toExpr_c (G3.out.below (by first | with_reducible exact S1 | exact S1.setCell (by simp; try omega) _ | exact (S1.setCell (by simp; try omega) _).setCell (by simp; try omega) _ | exact ((S1.setCell (by simp; try omega) _).setCell (by simp; try omega) _).setCell (by simp; try omega) _)) Z3.out).mono ?_
  rintro e w2 ⟨cs2, bs2, rfl, r2, nd2, hy2, b2⟩
  obtain ⟨A3r2, c3r2, A6r2, c6r2, A7r2, c7r2, d3r2, d6r2, d7r2, hcs2, _⟩ := Rep.ex_iff.1 r2
  subst hcs2
  have hb2 : ∀ y ∈ bs2, w.heap.size + 3 ≤ y := fun y hy => by have := hy2 y hy; (try simp [World.setCell] at this); have := ZS1.out; omega
  have hc2 : ∀ y ∈ bs2, w1.heap.size ≤ y := fun y hy => by have := hy2 y hy; (try simp [World.setCell] at this); omega
  have PA2 : w2.cell? ⟨w.heap.size, 0, none⟩ = some (.string x.write.arr) ∧ w2.cell? ⟨w.heap.size, 1, none⟩ = some (.slice A2 x.write.subs.length c2) ∧ w2.cell? ⟨w.heap.size, 2, none⟩ = some (.int .i64 x.value.kind) ∧ w2.cell? ⟨w.heap.size, 3, none⟩ = some (.int .i64 x.value.num) ∧ w2.cell? ⟨w.heap.size, 4, none⟩ = some (.slice A5 x.value.index.coefs.length c5) ∧ w2.cell? ⟨w.heap.size, 5, none⟩ = some (.int .i64 x.value.index.const) ∧ w2.cell? ⟨w.heap.size, 6, none⟩ = some (.string x.value.read.arr) ∧ w2.cell? ⟨w.heap.size, 7, none⟩ = some (.slice A8 x.value.read.subs.length c8) ∧ w2.cell? ⟨w.heap.size, 8, none⟩ = some (.slice A9 x.value.kids.length c9) := by
    refine ⟨?_, ?_, ?_, ?_, ?_, ?_, ?_, ?_, ?_⟩ <;> (rw [b2.cell (by simp [World.setCell]; try (have := ZS1.out; omega))]; go_simp)
  have PR2 : w2.cell? ⟨w.heap.size + 1, 0, none⟩ = some (.string ⟨#[]⟩) ∧ w2.cell? ⟨w.heap.size + 1, 1, none⟩ = some (.slice none 0 0) ∧ w2.cell? ⟨w.heap.size + 1, 2, none⟩ = some (.int .i64 0) ∧ w2.cell? ⟨w.heap.size + 1, 3, none⟩ = some (.int .i64 0) ∧ w2.cell? ⟨w.heap.size + 1, 4, none⟩ = some (.slice none 0 0) ∧ w2.cell? ⟨w.heap.size + 1, 5, none⟩ = some (.int .i64 0) ∧ w2.cell? ⟨w.heap.size + 1, 6, none⟩ = some (.string ⟨#[]⟩) ∧ w2.cell? ⟨w.heap.size + 1, 7, none⟩ = some (.slice none 0 0) ∧ w2.cell? ⟨w.heap.size + 1, 8, none⟩ = some (.slice none 0 0) := by
    refine ⟨?_, ?_, ?_, ?_, ?_, ?_, ?_, ?_, ?_⟩ <;> (rw [b2.cell (by simp [World.setCell]; try (have := ZS1.out; omega))]; go_simp)
  have PO2 : w2.cell? ⟨w.heap.size + 2, 0, none⟩ = some (.string x.write.arr) ∧ w2.cell? ⟨w.heap.size + 2, 1, none⟩ = some (.slice A2r1 x.write.subs.length c2r1) ∧ w2.cell? ⟨w.heap.size + 2, 2, none⟩ = some (.int .i64 0) ∧ w2.cell? ⟨w.heap.size + 2, 3, none⟩ = some (.int .i64 0) ∧ w2.cell? ⟨w.heap.size + 2, 4, none⟩ = some (.slice none 0 0) ∧ w2.cell? ⟨w.heap.size + 2, 5, none⟩ = some (.int .i64 0) ∧ w2.cell? ⟨w.heap.size + 2, 6, none⟩ = some (.string ⟨#[]⟩) ∧ w2.cell? ⟨w.heap.size + 2, 7, none⟩ = some (.slice none 0 0) ∧ w2.cell? ⟨w.heap.size + 2, 8, none⟩ = some (.slice none 0 0) := by
    refine ⟨?_, ?_, ?_, ?_, ?_, ?_, ?_, ?_, ?_⟩ <;> (rw [b2.cell (by simp [World.setCell]; try (have := ZS1.out; omega))]; go_simp)
  have F2 : w2.frozen? ⟨w.heap.size + 1, 0, none⟩ = false ∧ w2.frozen? ⟨w.heap.size + 1, 1, none⟩ = false ∧ w2.frozen? ⟨w.heap.size + 1, 2, none⟩ = false ∧ w2.frozen? ⟨w.heap.size + 1, 3, none⟩ = false ∧ w2.frozen? ⟨w.heap.size + 1, 4, none⟩ = false ∧ w2.frozen? ⟨w.heap.size + 1, 5, none⟩ = false ∧ w2.frozen? ⟨w.heap.size + 1, 6, none⟩ = false ∧ w2.frozen? ⟨w.heap.size + 1, 7, none⟩ = false ∧ w2.frozen? ⟨w.heap.size + 1, 8, none⟩ = false ∧ w2.frozen? ⟨w.heap.size + 2, 0, none⟩ = false ∧ w2.frozen? ⟨w.heap.size + 2, 1, none⟩ = false ∧ w2.frozen? ⟨w.heap.size + 2, 2, none⟩ = false ∧ w2.frozen? ⟨w.heap.size + 2, 3, none⟩ = false ∧ w2.frozen? ⟨w.heap.size + 2, 4, none⟩ = false ∧ w2.frozen? ⟨w.heap.size + 2, 5, none⟩ = false ∧ w2.frozen? ⟨w.heap.size + 2, 6, none⟩ = false ∧ w2.frozen? ⟨w.heap.size + 2, 7, none⟩ = false ∧ w2.frozen? ⟨w.heap.size + 2, 8, none⟩ = false := by
    refine ⟨?_, ?_, ?_, ?_, ?_, ?_, ?_, ?_, ?_, ?_, ?_, ?_, ?_, ?_, ?_, ?_, ?_, ?_⟩ <;> (rw [b2.frozen (by simp [World.setCell]; try (have := ZS1.out; omega))]; go_simp)
  have RR1_2 := Lib.hid (show Rep w2 (x.write.d) [.string x.write.arr, .slice A2r1 x.write.subs.length c2r1] bs1 from Rep.below (Rep.keep _ RR1_1.out (by repeat (first | with_reducible exact Keeps.refl _ _ | refine Keeps.setCell ?_ (fun hm => by have := HB1.out _ hm; dsimp only at this; omega) _))) b2); clear RR1_1
  have S2 : Below w.heap.size w w2 := by
    refine below_tr (a := _) ?_ b2
    exact (by first | with_reducible exact S1 | exact S1.setCell (by simp; try omega) _ | exact (S1.setCell (by simp; try omega) _).setCell (by simp; try omega) _ | exact ((S1.setCell (by simp; try omega) _).setCell (by simp; try omega) _).setCell (by simp; try omega) _)
  have ZS2 := Lib.hid (show w.heap.size + 3 ≤ w2.heap.size by have := b2.size; (try simp [World.setCell] at this); have := ZS1.out; omega)
  have ZT2 := Lib.hid (show w1.heap.size ≤ w2.heap.size by have := b2.size; (try simp [World.setCell] at this); omega)
  have RR2_2 := Lib.hid r2; have HB2 := Lib.hid hb2; have ND2 := Lib.hid nd2; have LT2 := Lib.hid (Rep.lt _ r2); have HC2 := Lib.hid hc2
  clear r2 hb2 nd2 hy2 b2 hc2 PA1 PR1 PO1 F1
  have RALL := Lib.hid (show Rep w2 x.d [.string x.write.arr, .slice A2r1 x.write.subs.length c2r1, .int .i64 x.value.kind, .int .i64 x.value.num, .slice A3r2 x.value.index.coefs.length c3r2, .int .i64 x.value.index.const, .string x.value.read.arr, .slice A6r2 x.value.read.subs.length c6r2, .slice A7r2 x.value.kids.length c7r2] (bs1 ++ bs2) from (show ∀ W, Reps W [x.write.d, x.value.d] ([.string x.write.arr, .slice A2r1 x.write.subs.length c2r1] ++ ([.int .i64 x.value.kind, .int .i64 x.value.num, .slice A3r2 x.value.index.coefs.length c3r2, .int .i64 x.value.index.const, .string x.value.read.arr, .slice A6r2 x.value.read.subs.length c6r2, .slice A7r2 x.value.kids.length c7r2] ++ ([]))) (bs1 ++ (bs2 ++ ([]))) → Rep W x.d [.string x.write.arr, .slice A2r1 x.write.subs.length c2r1, .int .i64 x.value.kind, .int .i64 x.value.num, .slice A3r2 x.value.index.coefs.length c3r2, .int .i64 x.value.index.const, .string x.value.read.arr, .slice A6r2 x.value.read.subs.length c6r2, .slice A7r2 x.value.kids.length c7r2] (bs1 ++ bs2) from fun W hq => by simpa [List.append_assoc] using (show Rep W x.d _ _ from hq)) _ ⟨_, _, _, _, rfl, rfl, RR1_2.out, ⟨_, _, _, _, rfl, rfl, RR2_2.out, ⟨rfl, rfl⟩⟩⟩)
  have NDALL := Lib.hid (show (bs1 ++ bs2 : List Nat).Nodup from List.nodup_append.2 ⟨ND1.out, ND2.out, fun y h1 z h2 e => by
      subst e
      have h3 := HC2.out y h2
      (have := LT1.out y h1; omega)⟩)
  have HBALL := Lib.hid (show ∀ y ∈ (bs1 ++ bs2 : List Nat), w.heap.size + 3 ≤ y from (fun y hy => by
    simp only [List.mem_append] at hy
    rcases hy with hy | hy
    · exact HB1.out y hy
    · exact HB2.out y hy))
  clear RR1_2 HB1 ND1 LT1 RR2_2 HB2 ND2 LT2 HC2 ZT2
  go_wp2
  refine bodyPost_ret (v := .agg #[.string x.write.arr, .slice A2r1 x.write.subs.length c2r1, .int .i64 x.value.kind, .int .i64 x.value.num, .slice A3r2 x.value.index.coefs.length c3r2, .int .i64 x.value.index.const, .string x.value.read.arr, .slice A6r2 x.value.read.subs.length c6r2, .slice A7r2 x.value.kids.length c7r2]) (by simp [results, Tryz.results174, go_sem, PR2, PO2]) rfl ⟨[.string x.write.arr, .slice A2r1 x.write.subs.length c2r1, .int .i64 x.value.kind, .int .i64 x.value.num, .slice A3r2 x.value.index.coefs.length c3r2, .int .i64 x.value.index.const, .string x.value.read.arr, .slice A6r2 x.value.read.subs.length c6r2, .slice A7r2 x.value.kids.length c7r2], bs1 ++ bs2, rfl, ?_, NDALL.out, fun y hy => by have := HBALL.out y hy; omega, ?_⟩
  · exact Rep.keep _ RALL.out (by repeat (first | with_reducible exact Keeps.refl _ _ | refine Keeps.setCell ?_ (fun hm => by have := HBALL.out _ hm; dsimp only at this; omega) _))
  · exact (by repeat (first | with_reducible exact S2 | refine Below.setCell ?_ (by simp; try omega) _))

theorem Tryz.makeStmt : (Tryz.prog.info? 51).map (fun i => (i.zero, i.size, decide (i.bytes ≤ 1024))) = some (some (.agg #[.string ⟨#[]⟩, .slice none 0 0, .int .i64 0, .int .i64 0, .slice none 0 0, .int .i64 0, .string ⟨#[]⟩, .slice none 0 0, .slice none 0 0]), 9, true) := by kernel_rfl
set_option maxHeartbeats 2000000 in
theorem toStmtS_c {w : World} {xs : List Stm} {A : Option Addr} {n c : Nat} {bs : List Nat} (h : Rep w (sls Stm.d xs) [.slice A n c] bs) (hz : szD (sls Stm.d xs) ≤ 10000000) :
    Calls Tryz.prog 126 #[.slice A n c] w (MadeS w (sls Stm.d xs)) := by
  obtain ⟨rfl, h2, h3⟩ := h.sls_len
  have hn : xs.length ≤ 9223372036854775807 := Nat.le_trans h2 h3
  have H := Lib.hid h; clear h h2 h3
  have HZ := Lib.hid (show xs.length + szDs (xs.map Stm.d) ≤ 10000000 by rw [← szD_sls]; exact hz); clear hz
  obtain ⟨i0, hi, hzz⟩ := Option.map_eq_some_iff.1 Tryz.makeStmt
  simp only [Prod.mk.injEq, decide_eq_true_iff] at hzz
  have hmk := fun W => run_make_rows (P := Tryz.prog) 66 51 (.agg #[.string ⟨#[]⟩, .slice none 0 0, .int .i64 0, .int .i64 0, .slice none 0 0, .int .i64 0, .string ⟨#[]⟩, .slice none 0 0, .slice none 0 0]) 9 i0.bytes Tryz.underlying66 (by rw [hi, Option.map_some, hzz.1, hzz.2.1]) .i64 .i64 xs.length (by
    have h1 := HZ.out
    have h2 := Nat.mul_le_mul hzz.2.2 (show xs.length ≤ 10000000 by omega)
    omega) (by omega) W
  clear hi hzz
  go_enter Tryz.func126, Tryz.ntmps126
  go_wp2
  clear hmk
  have hrow0 := Row.made w (Value.agg #[.string ⟨#[]⟩, .slice none 0 0, .int .i64 0, .int .i64 0, .slice none 0 0, .int .i64 0, .string ⟨#[]⟩, .slice none 0 0, .slice none 0 0]).cells (xs.length * 9) 51
  have hlen0 : (madeCells (Value.agg #[.string ⟨#[]⟩, .slice none 0 0, .int .i64 0, .int .i64 0, .slice none 0 0, .int .i64 0, .string ⟨#[]⟩, .slice none 0 0, .slice none 0 0]).cells (xs.length * 9)).toList.length = xs.length * 9 := by simp [size_madeCells]
  have HR0 := Lib.hid (And.intro hrow0 hlen0); clear hrow0 hlen0
  go_loopw [4] (fun i wr => ∃ (j : Nat) (es rest : List Value) (cb : List Nat), j ≤ xs.length ∧ i = .int .i64 j ∧ Row wr w.heap.size 51 (es ++ rest) ∧ es.length = j * 9 ∧ rest.length + j * 9 = xs.length * 9 ∧ Reps wr ((xs.take j).map Stm.d) es cb ∧ cb.Nodup ∧ (∀ y ∈ cb, w.heap.size + 1 ≤ y) ∧ Below w.heap.size w wr) (fun i _ => xs.length - (intOf i).toNat)
  case atStart => exact ⟨0, [], _, [], Nat.zero_le _, rfl, HR0.out.1, by simp, by simp; simpa using HR0.out.2, by simp [Reps], by simp, by simp, bel⟩
  case round =>
    obtain ⟨j, es, rest, cb, hj, rfl, hrow, hes, hrest, hreps, hnd, hcb, hb⟩ := hrel
    have HE := Lib.hid (And.intro hes (And.intro hrest (And.intro hreps (And.intro hnd hcb)))); clear hes hrest hreps hnd hcb
    have HROW := Lib.hid hrow; clear hrow
    by_cases hlt : j < xs.length
    · have hsz1 := szTo_succ Stm.d hlt
      have hsz2 := szTo_le Stm.d (xs := xs) (j + 1)
      have HX := Lib.hid (show szD (Stm.d xs[j]) ≤ 10000000 by have := HZ.out; omega); clear hsz1 hsz2
      obtain ⟨b, o, cs, l, rfl, hbl, hr, _, _, hc⟩ := (H.out.below hb).sls_at Stm.d_size (k := j) hlt
      have G := Lib.hid hr
      obtain ⟨A2, c2, A5, c5, A8, c8, A9, c9, d2, d5, d8, d9, rfl, rfl, g1, g2, g3, g4, g5, g6, g7, g8, g9⟩ := Rep.stm_iff.1 hr
      have k0 := (hc 0 _ rfl).1; rw [Nat.add_zero] at k0
      have k1 := (hc 1 _ rfl).1
      have k2 := (hc 2 _ rfl).1
      have k3 := (hc 3 _ rfl).1
      have k4 := (hc 4 _ rfl).1
      have k5 := (hc 5 _ rfl).1
      have k6 := (hc 6 _ rfl).1
      have k7 := (hc 7 _ rfl).1
      have k8 := (hc 8 _ rfl).1
      clear hc hr g1 g2 g3 g4 g5 g6 g7 g8 g9
      go_wp2_with fail
      refine (toStmt_c G.out HX.out).mono ?_
      rintro e w1 ⟨cs1, bs1, rfl, r1', nd1, hb1, b1⟩
      have R1 := Lib.hid r1'
      obtain ⟨A2r, c2r, A5r, c5r, A8r, c8r, A9r, c9r, d2r, d5r, d8r, d9r, hcs1, _⟩ := Rep.stm_iff.1 r1'
      subst hcs1
      clear r1'
      obtain ⟨hes, hrest, hreps, hnd, hcb⟩ := HE.out
      have hzr := hb.size
      have hg0 := HROW.out.lt
      have hrow1 := HROW.out.to b1
      rcases rest with _ | ⟨u0, rest⟩
      · simp only [List.length_nil] at hrest; omega
      rcases rest with _ | ⟨u1, rest⟩
      · simp only [List.length_cons, List.length_nil] at hrest; omega
      rcases rest with _ | ⟨u2, rest⟩
      · simp only [List.length_cons, List.length_nil] at hrest; omega
      rcases rest with _ | ⟨u3, rest⟩
      · simp only [List.length_cons, List.length_nil] at hrest; omega
      rcases rest with _ | ⟨u4, rest⟩
      · simp only [List.length_cons, List.length_nil] at hrest; omega
      rcases rest with _ | ⟨u5, rest⟩
      · simp only [List.length_cons, List.length_nil] at hrest; omega
      rcases rest with _ | ⟨u6, rest⟩
      · simp only [List.length_cons, List.length_nil] at hrest; omega
      rcases rest with _ | ⟨u7, rest⟩
      · simp only [List.length_cons, List.length_nil] at hrest; omega
      rcases rest with _ | ⟨u8, rest⟩
      · simp only [List.length_cons, List.length_nil] at hrest; omega
      have o0 : w1.cell? ⟨w.heap.size, j * 9, none⟩ = some u0 := by rw [hrow1.cell, List.getElem?_append_right (by omega), hes]; simp
      have f0 : w1.frozen? ⟨w.heap.size, j * 9, none⟩ = false := hrow1.frozen _
      have o1 : w1.cell? ⟨w.heap.size, j * 9 + 1, none⟩ = some u1 := by rw [hrow1.cell, List.getElem?_append_right (by omega), hes]; simp
      have f1 : w1.frozen? ⟨w.heap.size, j * 9 + 1, none⟩ = false := hrow1.frozen _
      have o2 : w1.cell? ⟨w.heap.size, j * 9 + 2, none⟩ = some u2 := by rw [hrow1.cell, List.getElem?_append_right (by omega), hes]; simp
      have f2 : w1.frozen? ⟨w.heap.size, j * 9 + 2, none⟩ = false := hrow1.frozen _
      have o3 : w1.cell? ⟨w.heap.size, j * 9 + 3, none⟩ = some u3 := by rw [hrow1.cell, List.getElem?_append_right (by omega), hes]; simp
      have f3 : w1.frozen? ⟨w.heap.size, j * 9 + 3, none⟩ = false := hrow1.frozen _
      have o4 : w1.cell? ⟨w.heap.size, j * 9 + 4, none⟩ = some u4 := by rw [hrow1.cell, List.getElem?_append_right (by omega), hes]; simp
      have f4 : w1.frozen? ⟨w.heap.size, j * 9 + 4, none⟩ = false := hrow1.frozen _
      have o5 : w1.cell? ⟨w.heap.size, j * 9 + 5, none⟩ = some u5 := by rw [hrow1.cell, List.getElem?_append_right (by omega), hes]; simp
      have f5 : w1.frozen? ⟨w.heap.size, j * 9 + 5, none⟩ = false := hrow1.frozen _
      have o6 : w1.cell? ⟨w.heap.size, j * 9 + 6, none⟩ = some u6 := by rw [hrow1.cell, List.getElem?_append_right (by omega), hes]; simp
      have f6 : w1.frozen? ⟨w.heap.size, j * 9 + 6, none⟩ = false := hrow1.frozen _
      have o7 : w1.cell? ⟨w.heap.size, j * 9 + 7, none⟩ = some u7 := by rw [hrow1.cell, List.getElem?_append_right (by omega), hes]; simp
      have f7 : w1.frozen? ⟨w.heap.size, j * 9 + 7, none⟩ = false := hrow1.frozen _
      have o8 : w1.cell? ⟨w.heap.size, j * 9 + 8, none⟩ = some u8 := by rw [hrow1.cell, List.getElem?_append_right (by omega), hes]; simp
      have f8 : w1.frozen? ⟨w.heap.size, j * 9 + 8, none⟩ = false := hrow1.frozen _
      have s0 : Row w1 w.heap.size 51 (es ++ u0 :: u1 :: u2 :: u3 :: u4 :: u5 :: u6 :: u7 :: u8 :: rest) := hrow1
      have s1 := s0.set_in (.string xs[j].write.arr)
      rw [show (es : List Value).length = j * 9 by simp [hes]] at s1
      have s2 := s1.set_in (.slice A2r xs[j].write.subs.length c2r)
      rw [show (es ++ [.string xs[j].write.arr] : List Value).length = j * 9 + 1 by simp [hes]] at s2
      have s3 := s2.set_in (.int .i64 xs[j].value.kind)
      rw [show (es ++ [.string xs[j].write.arr] ++ [.slice A2r xs[j].write.subs.length c2r] : List Value).length = j * 9 + 2 by simp [hes]] at s3
      have s4 := s3.set_in (.int .i64 xs[j].value.num)
      rw [show (es ++ [.string xs[j].write.arr] ++ [.slice A2r xs[j].write.subs.length c2r] ++ [.int .i64 xs[j].value.kind] : List Value).length = j * 9 + 3 by simp [hes]] at s4
      have s5 := s4.set_in (.slice A5r xs[j].value.index.coefs.length c5r)
      rw [show (es ++ [.string xs[j].write.arr] ++ [.slice A2r xs[j].write.subs.length c2r] ++ [.int .i64 xs[j].value.kind] ++ [.int .i64 xs[j].value.num] : List Value).length = j * 9 + 4 by simp [hes]] at s5
      have s6 := s5.set_in (.int .i64 xs[j].value.index.const)
      rw [show (es ++ [.string xs[j].write.arr] ++ [.slice A2r xs[j].write.subs.length c2r] ++ [.int .i64 xs[j].value.kind] ++ [.int .i64 xs[j].value.num] ++ [.slice A5r xs[j].value.index.coefs.length c5r] : List Value).length = j * 9 + 5 by simp [hes]] at s6
      have s7 := s6.set_in (.string xs[j].value.read.arr)
      rw [show (es ++ [.string xs[j].write.arr] ++ [.slice A2r xs[j].write.subs.length c2r] ++ [.int .i64 xs[j].value.kind] ++ [.int .i64 xs[j].value.num] ++ [.slice A5r xs[j].value.index.coefs.length c5r] ++ [.int .i64 xs[j].value.index.const] : List Value).length = j * 9 + 6 by simp [hes]] at s7
      have s8 := s7.set_in (.slice A8r xs[j].value.read.subs.length c8r)
      rw [show (es ++ [.string xs[j].write.arr] ++ [.slice A2r xs[j].write.subs.length c2r] ++ [.int .i64 xs[j].value.kind] ++ [.int .i64 xs[j].value.num] ++ [.slice A5r xs[j].value.index.coefs.length c5r] ++ [.int .i64 xs[j].value.index.const] ++ [.string xs[j].value.read.arr] : List Value).length = j * 9 + 7 by simp [hes]] at s8
      have s9 := s8.set_in (.slice A9r xs[j].value.kids.length c9r)
      rw [show (es ++ [.string xs[j].write.arr] ++ [.slice A2r xs[j].write.subs.length c2r] ++ [.int .i64 xs[j].value.kind] ++ [.int .i64 xs[j].value.num] ++ [.slice A5r xs[j].value.index.coefs.length c5r] ++ [.int .i64 xs[j].value.index.const] ++ [.string xs[j].value.read.arr] ++ [.slice A8r xs[j].value.read.subs.length c8r] : List Value).length = j * 9 + 8 by simp [hes]] at s9
      have HS := Lib.hid s9; clear s0 s1 s2 s3 s4 s5 s6 s7 s8 s9 hrow1 HROW
      have HM := Lib.hid (And.intro hes (And.intro hrest (And.intro hreps (And.intro hnd (And.intro hcb (And.intro nd1 (And.intro hb1 (And.intro hb b1)))))))); clear hes hrest hreps hnd hcb nd1 hb1 hb b1
      go_wp2
      go_roundw
      case rel =>
        obtain ⟨hes, hrest, hreps, hnd, hcb, nd1, hb1, hb, b1⟩ := HM.out
        have hn1 : w.heap.size ∉ bs1 := fun hm => by have := hb1 _ hm; omega
        have hn2 : w.heap.size ∉ cb := fun hm => by have := hcb _ hm; omega
        refine ⟨j + 1, _, rest, cb ++ bs1, by omega, by go_num, HS.out, by simp [hes]; omega, by simp only [List.length_cons] at hrest; omega, ?_, ?_, ?_, ?_⟩
        · rw [List.take_succ_eq_append_getElem hlt, List.map_append]
          have hk1 := Reps.keep _ hreps (Keeps.of_below b1 (Reps.lt _ hreps))
          rw [show (es ++ [.string xs[j].write.arr] ++ [.slice A2r xs[j].write.subs.length c2r] ++ [.int .i64 xs[j].value.kind] ++ [.int .i64 xs[j].value.num] ++ [.slice A5r xs[j].value.index.coefs.length c5r] ++ [.int .i64 xs[j].value.index.const] ++ [.string xs[j].value.read.arr] ++ [.slice A8r xs[j].value.read.subs.length c8r] ++ [.slice A9r xs[j].value.kids.length c9r] : List Value) = es ++ [.string xs[j].write.arr, .slice A2r xs[j].write.subs.length c2r, .int .i64 xs[j].value.kind, .int .i64 xs[j].value.num, .slice A5r xs[j].value.index.coefs.length c5r, .int .i64 xs[j].value.index.const, .string xs[j].value.read.arr, .slice A8r xs[j].value.read.subs.length c8r, .slice A9r xs[j].value.kids.length c9r] by simp]
          exact reps_snoc (Reps.keep _ hk1 ((((((((((Keeps.refl _ _).setCell hn2 _).setCell hn2 _).setCell hn2 _).setCell hn2 _).setCell hn2 _).setCell hn2 _).setCell hn2 _).setCell hn2 _).setCell hn2 _)) (Rep.keep _ R1.out ((((((((((Keeps.refl _ _).setCell hn1 _).setCell hn1 _).setCell hn1 _).setCell hn1 _).setCell hn1 _).setCell hn1 _).setCell hn1 _).setCell hn1 _).setCell hn1 _))
        · refine List.nodup_append.2 ⟨hnd, nd1, fun y h1 z h2 e => ?_⟩
          subst e
          have q1 := Reps.lt _ hreps y h1
          have q2 := hb1 y h2
          omega
        · intro y hy
          rcases List.mem_append.1 hy with hy | hy
          · exact hcb y hy
          · have := hb1 y hy; omega
        · exact ((((((((((below_tr hb b1).setCell (Nat.le_refl _) _).setCell (Nat.le_refl _) _).setCell (Nat.le_refl _) _).setCell (Nat.le_refl _) _).setCell (Nat.le_refl _) _).setCell (Nat.le_refl _) _).setCell (Nat.le_refl _) _).setCell (Nat.le_refl _) _).setCell (Nat.le_refl _) _)
      case measure => simp [intOf]; omega
    · have hjj : j = xs.length := by omega
      subst hjj
      obtain ⟨hes, hrest, hreps, hnd, hcb⟩ := HE.out
      rw [List.take_length] at hreps
      have hres := Row.rep HROW.out hreps (c := xs.length) (by simp) (by have := HZ.out; unfold maxLen; omega)
      rw [List.length_map] at hres
      have HF := Lib.hid (And.intro hres (And.intro hnd hcb)); clear hres hnd hcb hreps hes hrest
      go_wp2
      go_ret
      obtain ⟨hres, hnd, hcb⟩ := HF.out
      exact ⟨_, _, _, _, rfl, hres, List.nodup_cons.2 ⟨fun hm => by have := hcb _ hm; omega, hnd⟩, fun y hy => by
        rcases List.mem_cons.1 hy with rfl | hy
        · exact Nat.le_refl _
        · have := hcb y hy; omega, hb⟩

end Go.Proofs.YtbhniobgaoncaaaGreatDoor
