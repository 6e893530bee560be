/- The Go type Stmt: how it reads; the law package's functions on it and on slices of it. Printed by tygen.py. -/
import Derived.Test.YtpmgmekbnbligaaGreatZdTyExpr
set_option linter.all false
set_option linter.unusedSimpArgs false
set_option linter.unusedVariables false
namespace Go.Proofs.YtpmgmekbnbligaaGreat
open Go.ChangeShapes Go.WideShapes Go.ChangeAt Go.RowKit Go.Deep

structure Stm where
  write : Acc
  value : Ex

def Stm.d (x : Stm) : D := .st [x.write.d, x.value.d]
theorem Stm.d_size (x : Stm) : x.d.size = 9 := by simp only [Stm.d, D.size, D.sizes, Acc.d_size, Ex.d_size]
theorem Rep.stm_iff {w : World} {x : Stm} {cs : List Value} {bs : List Nat} : Rep w x.d cs bs ↔ ∃ (A2 : Option Addr) (c2 : Nat) (A5 : Option Addr) (c5 : Nat) (A8 : Option Addr) (c8 : Nat) (A9 : Option Addr) (c9 : Nat) (d2 : List Nat) (d5 : List Nat) (d8 : List Nat) (d9 : List Nat), cs = [.string x.write.arr, .slice A2 x.write.subs.length c2, .int .i64 x.value.kind, .int .i64 x.value.num, .slice A5 x.value.index.coefs.length c5, .int .i64 x.value.index.const, .string x.value.read.arr, .slice A8 x.value.read.subs.length c8, .slice A9 x.value.kids.length c9] ∧ bs = d2 ++ d5 ++ d8 ++ d9 ∧ x.write.arr.size ≤ maxLen ∧ Rep w (sls Aff.d x.write.subs) [.slice A2 x.write.subs.length c2] d2 ∧ I64 x.value.kind ∧ I64 x.value.num ∧ Rep w (ints x.value.index.coefs) [.slice A5 x.value.index.coefs.length c5] d5 ∧ I64 x.value.index.const ∧ x.value.read.arr.size ≤ maxLen ∧ Rep w (sls Aff.d x.value.read.subs) [.slice A8 x.value.read.subs.length c8] d8 ∧ Rep w (sls Ex.d x.value.kids) [.slice A9 x.value.kids.length c9] d9 := by
  constructor
  · intro h
    replace h : Reps w [x.write.d, x.value.d] cs bs := h
    obtain ⟨_, _, _, _, rfl, rfl, g1, h⟩ := h
    obtain ⟨_, _, _, _, rfl, rfl, g2, h⟩ := h
    obtain ⟨rfl, rfl⟩ := h
    obtain ⟨A2_1, c2_1, d2_1, rfl, rfl, g1_1, g1_2⟩ := Rep.acc_iff.1 g1
    obtain ⟨A3_2, c3_2, A6_2, c6_2, A7_2, c7_2, d3_2, d6_2, d7_2, rfl, rfl, g2_1, g2_2, g2_3, g2_4, g2_5, g2_6, g2_7⟩ := Rep.ex_iff.1 g2
    exact ⟨_, _, _, _, _, _, _, _, _, _, _, _, rfl, by simp, g1_1, g1_2, g2_1, g2_2, g2_3, g2_4, g2_5, g2_6, g2_7⟩
  · rintro ⟨A2, c2, A5, c5, A8, c8, A9, c9, d2, d5, d8, d9, rfl, rfl, g1, g2, g3, g4, g5, g6, g7, g8, g9⟩
    have h : Reps w [x.write.d, x.value.d] _ _ := ⟨_, _, _, _, rfl, rfl, (Rep.acc_iff.2 ⟨_, _, _, rfl, rfl, g1, g2⟩), ⟨_, _, _, _, rfl, rfl, (Rep.ex_iff.2 ⟨_, _, _, _, _, _, _, _, _, rfl, rfl, g3, g4, g5, g6, g7, g8, g9⟩), ⟨rfl, rfl⟩⟩⟩
    simpa using (show Rep w x.d _ _ from h)

set_option maxHeartbeats 1000000 in
theorem eqStmt_c {w : World} {x : Stm} {cs cs' : List Value} {bs bs' : List Nat} (h : Rep w x.d cs bs) (h' : Rep w x.d cs' bs') :
    Calls Tryz.prog 107 #[.agg cs.toArray, .agg cs'.toArray] w fun e w' => e = .returned (.bool true) ∧ Below w.heap.size w w' := by
  have H := Lib.hid h
  have H' := Lib.hid h'
  obtain ⟨A2, c2, A5, c5, A8, c8, A9, c9, d2, d5, d8, d9, rfl, rfl, g1, g2, g3, g4, g5, g6, g7, g8, g9⟩ := Rep.stm_iff.1 h
  obtain ⟨A2', c2', A5', c5', A8', c8', A9', c9', d2', d5', d8', d9', rfl, rfl, g1', g2', g3', g4', g5', g6', g7', g8', g9'⟩ := Rep.stm_iff.1 h'
  have G1 := Lib.hid ((Rep.acc_iff (x := x.write)).2 ⟨_, _, _, rfl, rfl, g1, g2⟩)
  have G1' := Lib.hid ((Rep.acc_iff (x := x.write)).2 ⟨_, _, _, rfl, rfl, g1', g2'⟩)
  have G3 := Lib.hid ((Rep.ex_iff (x := x.value)).2 ⟨_, _, _, _, _, _, _, _, _, rfl, rfl, g3, g4, g5, g6, g7, g8, g9⟩)
  have G3' := Lib.hid ((Rep.ex_iff (x := x.value)).2 ⟨_, _, _, _, _, _, _, _, _, rfl, rfl, g3', g4', g5', g6', g7', g8', g9'⟩)
  clear h h' H H' g1 g1' g2 g2' g3 g3' g4 g4' g5 g5' g6 g6' g7 g7' g8 g8' g9 g9'
  go_enter Tryz.func107, Tryz.ntmps107
  go_wp2_with fail
  refine (eqAccess_c (G1.out.below bel) (G1'.out.below bel)).mono ?_
  rintro e w1 ⟨rfl, b1⟩
  have P1 : Box9 w1 w.heap.size (.string x.write.arr) (.slice A2 x.write.subs.length c2) (.int .i64 x.value.kind) (.int .i64 x.value.num) (.slice A5 x.value.index.coefs.length c5) (.int .i64 x.value.index.const) (.string x.value.read.arr) (.slice A8 x.value.read.subs.length c8) (.slice A9 x.value.kids.length c9) := by
    refine ⟨?_, ?_, ?_, ?_, ?_, ?_, ?_, ?_, ?_⟩ <;> (rw [b1.cell (by simp; try omega)]; go_simp)
  have Q1 : Box9 w1 (w.heap.size + 1) (.string x.write.arr) (.slice A2' x.write.subs.length c2') (.int .i64 x.value.kind) (.int .i64 x.value.num) (.slice A5' x.value.index.coefs.length c5') (.int .i64 x.value.index.const) (.string x.value.read.arr) (.slice A8' x.value.read.subs.length c8') (.slice A9' x.value.kids.length c9') := by
    refine ⟨?_, ?_, ?_, ?_, ?_, ?_, ?_, ?_, ?_⟩ <;> (rw [b1.cell (by simp; try omega)]; go_simp)
  have S1 : Below w.heap.size w w1 := bel
  clear b1
  go_wp2_with fail
  refine (eqExpr_c (G3.out.below bel) (G3'.out.below bel)).mono ?_
  rintro e w2 ⟨rfl, b2⟩
  have P2 := P1.to b2; clear P1
  have Q2 := Q1.to b2; clear Q1
  have S2 := below_tr S1 b2
  clear b2
  go_wp2
  go_ret
  exact ⟨rfl, bel⟩

set_option maxHeartbeats 1000000 in
theorem eqStmtS_c {w : World} {xs : List Stm} {A B : Option Addr} {n m c d : Nat} {bs bs' : List Nat} (hA : Rep w (sls Stm.d xs) [.slice A n c] bs) (hB : Rep w (sls Stm.d xs) [.slice B m d] bs') :
    Calls Tryz.prog 74 #[.slice A n c, .slice B m d] w fun e w' => e = .returned (.bool true) ∧ Below w.heap.size w w' := by
  obtain ⟨rfl, h1, h2⟩ := hA.sls_len
  obtain ⟨rfl, _, _⟩ := hB.sls_len
  have hn : xs.length ≤ 9223372036854775807 := Nat.le_trans h1 h2
  clear h1 h2
  have hl1 : ((xs.length : Int) != (xs.length : Int)) = false := by simp
  have HA := Lib.hid hA; clear hA
  have HB := Lib.hid hB; clear hB
  go_enter Tryz.func74, Tryz.ntmps74
  go_wp2
  go_loopw [5] (fun i wr => ∃ k : Nat, k ≤ xs.length ∧ i = .int .i64 k ∧ Below w.heap.size w wr) (fun i _ => xs.length - (intOf i).toNat)
  case atStart => exact ⟨0, Nat.zero_le _, rfl, Below.refl _ _⟩
  case round =>
    obtain ⟨k, hk, rfl, hb⟩ := hrel
    by_cases hlt : k < xs.length
    · obtain ⟨b, o, cs, l, rfl, hbl, hr, _, _, hc⟩ := (HA.out.below hb).sls_at Stm.d_size hlt
      have G := Lib.hid hr
      obtain ⟨A2, c2, A5, c5, A8, c8, A9, c9, d2, d5, d8, d9, rfl, rfl, g1, g2, g3, g4, g5, g6, g7, g8, g9⟩ := Rep.stm_iff.1 hr
      have k0 := (hc 0 _ rfl).1; rw [Nat.add_zero] at k0
      have k1 := (hc 1 _ rfl).1
      have k2 := (hc 2 _ rfl).1
      have k3 := (hc 3 _ rfl).1
      have k4 := (hc 4 _ rfl).1
      have k5 := (hc 5 _ rfl).1
      have k6 := (hc 6 _ rfl).1
      have k7 := (hc 7 _ rfl).1
      have k8 := (hc 8 _ rfl).1
      clear hc hr g1 g2 g3 g4 g5 g6 g7 g8 g9
      obtain ⟨b', o', cs', l', rfl, hbl', hr', _, _, hc'⟩ := (HB.out.below hb).sls_at Stm.d_size hlt
      have G' := Lib.hid hr'
      obtain ⟨A2', c2', A5', c5', A8', c8', A9', c9', d2', d5', d8', d9', rfl, rfl, g1', g2', g3', g4', g5', g6', g7', g8', g9'⟩ := Rep.stm_iff.1 hr'
      have k0' := (hc' 0 _ rfl).1; rw [Nat.add_zero] at k0'
      have k1' := (hc' 1 _ rfl).1
      have k2' := (hc' 2 _ rfl).1
      have k3' := (hc' 3 _ rfl).1
      have k4' := (hc' 4 _ rfl).1
      have k5' := (hc' 5 _ rfl).1
      have k6' := (hc' 6 _ rfl).1
      have k7' := (hc' 7 _ rfl).1
      have k8' := (hc' 8 _ rfl).1
      clear hc' hr' g1' g2' g3' g4' g5' g6' g7' g8' g9'
      go_wp2_with fail
      go_region_held3 (fun w' => w'.cell? ⟨b, o + k * 9, none⟩ = some (.string xs[k].write.arr) ∧ w'.cell? ⟨b, o + k * 9 + 1, none⟩ = some (.slice A2 xs[k].write.subs.length c2) ∧ w'.cell? ⟨b, o + k * 9 + 2, none⟩ = some (.int .i64 xs[k].value.kind) ∧ w'.cell? ⟨b, o + k * 9 + 3, none⟩ = some (.int .i64 xs[k].value.num) ∧ w'.cell? ⟨b, o + k * 9 + 4, none⟩ = some (.slice A5 xs[k].value.index.coefs.length c5) ∧ w'.cell? ⟨b, o + k * 9 + 5, none⟩ = some (.int .i64 xs[k].value.index.const) ∧ w'.cell? ⟨b, o + k * 9 + 6, none⟩ = some (.string xs[k].value.read.arr) ∧ w'.cell? ⟨b, o + k * 9 + 7, none⟩ = some (.slice A8 xs[k].value.read.subs.length c8) ∧ w'.cell? ⟨b, o + k * 9 + 8, none⟩ = some (.slice A9 xs[k].value.kids.length c9) ∧ w'.cell? ⟨b', o' + k * 9, none⟩ = some (.string xs[k].write.arr) ∧ w'.cell? ⟨b', o' + k * 9 + 1, none⟩ = some (.slice A2' xs[k].write.subs.length c2') ∧ w'.cell? ⟨b', o' + k * 9 + 2, none⟩ = some (.int .i64 xs[k].value.kind) ∧ w'.cell? ⟨b', o' + k * 9 + 3, none⟩ = some (.int .i64 xs[k].value.num) ∧ w'.cell? ⟨b', o' + k * 9 + 4, none⟩ = some (.slice A5' xs[k].value.index.coefs.length c5') ∧ w'.cell? ⟨b', o' + k * 9 + 5, none⟩ = some (.int .i64 xs[k].value.index.const) ∧ w'.cell? ⟨b', o' + k * 9 + 6, none⟩ = some (.string xs[k].value.read.arr) ∧ w'.cell? ⟨b', o' + k * 9 + 7, none⟩ = some (.slice A8' xs[k].value.read.subs.length c8') ∧ w'.cell? ⟨b', o' + k * 9 + 8, none⟩ = some (.slice A9' xs[k].value.kids.length c9')) (first | exact ⟨k0, k1, k2, k3, k4, k5, k6, k7, k8, k0', k1', k2', k3', k4', k5', k6', k7', k8'⟩ | exact ⟨(by rw [b1.cell hbl]; exact k0), (by rw [b1.cell hbl]; exact k1), (by rw [b1.cell hbl]; exact k2), (by rw [b1.cell hbl]; exact k3), (by rw [b1.cell hbl]; exact k4), (by rw [b1.cell hbl]; exact k5), (by rw [b1.cell hbl]; exact k6), (by rw [b1.cell hbl]; exact k7), (by rw [b1.cell hbl]; exact k8), (by rw [b1.cell hbl']; exact k0'), (by rw [b1.cell hbl']; exact k1'), (by rw [b1.cell hbl']; exact k2'), (by rw [b1.cell hbl']; exact k3'), (by rw [b1.cell hbl']; exact k4'), (by rw [b1.cell hbl']; exact k5'), (by rw [b1.cell hbl']; exact k6'), (by rw [b1.cell hbl']; exact k7'), (by rw [b1.cell hbl']; exact k8')⟩ | skip)
        (first | (go_at_call 107; refine (eqStmt_c (G.out.drewN 1) (G'.out.drewN 1)).mono ?_; rintro e w1 ⟨rfl, b1⟩; replace b1 := of_drew b1))
      have S1 := below_tr hb b1
      clear b1
      go_wp2
      go_roundw
      case rel => exact ⟨k + 1, by omega, by go_num, S1⟩
      case measure => simp [intOf]; omega
    · go_wp2
      go_ret
      exact ⟨rfl, hb⟩

theorem szD_stm (x : Stm) : szD x.d = szD x.write.d + szD x.value.d := by
  have h : szD x.d = szDs [x.write.d, x.value.d] := by simp only [Stm.d, szD]
  rw [h]; simp only [szDs, szD, szD_ints]; omega
set_option maxHeartbeats 2000000 in
theorem szStmt_c {w : World} {x : Stm} {cs : List Value} {bs : List Nat} {left : Int} (h : Rep w x.d cs bs) (h0 : 0 ≤ left) (h1 : left ≤ 1048576) :
    Calls Tryz.prog 102 #[.agg cs.toArray, .int .i64 left] w fun e w' => e = .returned (.int .i64 (szR left (szD x.d))) ∧ Below w.heap.size w w' := by
  obtain ⟨A2, c2, A5, c5, A8, c8, A9, c9, d2, d5, d8, d9, rfl, rfl, g1, g2, g3, g4, g5, g6, g7, g8, g9⟩ := Rep.stm_iff.1 h
  rw [szD_stm x]
  have G1 := Lib.hid ((Rep.acc_iff (x := x.write)).2 ⟨_, _, _, rfl, rfl, g1, g2⟩)
  have G3 := Lib.hid ((Rep.ex_iff (x := x.value)).2 ⟨_, _, _, _, _, _, _, _, _, rfl, rfl, g3, g4, g5, g6, g7, g8, g9⟩)
  clear h g1 g2 g3 g4 g5 g6 g7 g8 g9
  by_cases hs0 : (left : Int) - ((szD x.write.d : Nat) : Int) < 0
  · have HR := Lib.hid (show szR left (szD x.write.d + szD x.value.d) = -1 from szR_neg (by omega))
    have HS0 := Lib.hid (szR_neg hs0)
    go_enter Tryz.func102, Tryz.ntmps102
    go_wp2_with fail
    refine (szAccess_c (G1.out.below bel) (by omega) (by omega)).mono ?_
    rintro e w1 ⟨rfl, b1⟩
    rw [HS0.out]
    have P1 : Box9 w1 w.heap.size (.string x.write.arr) (.slice A2 x.write.subs.length c2) (.int .i64 x.value.kind) (.int .i64 x.value.num) (.slice A5 x.value.index.coefs.length c5) (.int .i64 x.value.index.const) (.string x.value.read.arr) (.slice A8 x.value.read.subs.length c8) (.slice A9 x.value.kids.length c9) := by
      refine ⟨?_, ?_, ?_, ?_, ?_, ?_, ?_, ?_, ?_⟩ <;> (rw [b1.cell (by simp; try omega)]; go_simp)
    have S1 : Below w.heap.size w w1 := bel
    clear b1
    go_wp2
    go_ret
    exact ⟨ret_int HR.out.symm, bel⟩
  · have HS0 := Lib.hid (szR_pos (left := left) (tot := szD x.write.d) (by omega))
    have hp0 : 0 ≤ left - ((szD x.write.d : Nat) : Int) := by omega
    clear hs0
    by_cases hs1 : (left - ((szD x.write.d : Nat) : Int) : Int) - ((szD x.value.d : Nat) : Int) < 0
    · have HR := Lib.hid (show szR left (szD x.write.d + szD x.value.d) = -1 from szR_neg (by omega))
      have HS1 := Lib.hid (szR_neg hs1)
      go_enter Tryz.func102, Tryz.ntmps102
      go_wp2_with fail
      refine (szAccess_c (G1.out.below bel) (by omega) (by omega)).mono ?_
      rintro e w1 ⟨rfl, b1⟩
      rw [HS0.out]
      have P1 : Box9 w1 w.heap.size (.string x.write.arr) (.slice A2 x.write.subs.length c2) (.int .i64 x.value.kind) (.int .i64 x.value.num) (.slice A5 x.value.index.coefs.length c5) (.int .i64 x.value.index.const) (.string x.value.read.arr) (.slice A8 x.value.read.subs.length c8) (.slice A9 x.value.kids.length c9) := by
        refine ⟨?_, ?_, ?_, ?_, ?_, ?_, ?_, ?_, ?_⟩ <;> (rw [b1.cell (by simp; try omega)]; go_simp)
      have S1 : Below w.heap.size w w1 := bel
      clear b1
      go_wp2_with fail
      refine (szExpr_c (G3.out.below bel) (by omega) (by omega)).mono ?_
      rintro e w2 ⟨rfl, b2⟩
      rw [HS1.out]
      have P2 := P1.to b2; clear P1
      have S2 := below_tr S1 b2
      clear b2
      go_wp2
      go_ret
      exact ⟨ret_int HR.out.symm, bel⟩
    · have HS1 := Lib.hid (szR_pos (left := left - ((szD x.write.d : Nat) : Int)) (tot := szD x.value.d) (by omega))
      have hp1 : 0 ≤ left - ((szD x.write.d : Nat) : Int) - ((szD x.value.d : Nat) : Int) := by omega
      clear hs1
      have HR := Lib.hid (show szR left (szD x.write.d + szD x.value.d) = left - ((szD x.write.d : Nat) : Int) - ((szD x.value.d : Nat) : Int) by rw [szR_pos (by omega)] <;> omega)
      go_enter Tryz.func102, Tryz.ntmps102
      go_wp2_with fail
      refine (szAccess_c (G1.out.below bel) (by omega) (by omega)).mono ?_
      rintro e w1 ⟨rfl, b1⟩
      rw [HS0.out]
      have P1 : Box9 w1 w.heap.size (.string x.write.arr) (.slice A2 x.write.subs.length c2) (.int .i64 x.value.kind) (.int .i64 x.value.num) (.slice A5 x.value.index.coefs.length c5) (.int .i64 x.value.index.const) (.string x.value.read.arr) (.slice A8 x.value.read.subs.length c8) (.slice A9 x.value.kids.length c9) := by
        refine ⟨?_, ?_, ?_, ?_, ?_, ?_, ?_, ?_, ?_⟩ <;> (rw [b1.cell (by simp; try omega)]; go_simp)
      have S1 : Below w.heap.size w w1 := bel
      clear b1
      go_wp2_with fail
      refine (szExpr_c (G3.out.below bel) (by omega) (by omega)).mono ?_
      rintro e w2 ⟨rfl, b2⟩
      rw [HS1.out]
      have P2 := P1.to b2; clear P1
      have S2 := below_tr S1 b2
      clear b2
      go_wp2
      go_ret
      exact ⟨ret_int HR.out.symm, bel⟩

set_option maxHeartbeats 2000000 in
theorem szStmtS_c {w : World} {xs : List Stm} {A : Option Addr} {n c : Nat} {bs : List Nat} {left : Int} (h : Rep w (sls Stm.d xs) [.slice A n c] bs) (h0 : 0 ≤ left) (h1 : left ≤ 1048576) :
    Calls Tryz.prog 67 #[.slice A n c, .int .i64 left] w fun e w' => e = .returned (.int .i64 (szR left (szD (sls Stm.d xs)))) ∧ Below w.heap.size w w' := by
  obtain ⟨rfl, h2, h3⟩ := h.sls_len
  have hn : xs.length ≤ 9223372036854775807 := Nat.le_trans h2 h3
  have H := Lib.hid h; clear h h2 h3
  have HT := Lib.hid (szD_sls Stm.d xs)
  by_cases hs : left - ((xs.length : Nat) : Int) < 0
  · have hr := Lib.hid (show szR left (szD (sls Stm.d xs)) = -1 from szR_neg (by rw [HT.out]; omega))
    go_enter Tryz.func67, Tryz.ntmps67
    go_wp2
    go_ret
    exact ⟨ret_int hr.out.symm, bel⟩
  have hp : 0 ≤ left - ((xs.length : Nat) : Int) := by omega
  clear hs
  go_enter Tryz.func67, Tryz.ntmps67
  go_wp2
  go_loopw [1, 5] (fun u i wr => ∃ j : Nat, j ≤ xs.length ∧ i = .int .i64 j ∧ u = .int .i64 (left - ((xs.length : Nat) : Int) - ((szTo Stm.d xs j : Nat) : Int)) ∧ 0 ≤ left - ((xs.length : Nat) : Int) - ((szTo Stm.d xs j : Nat) : Int) ∧ Below w.heap.size w wr) (fun _ i _ => xs.length - (intOf i).toNat)
  case atStart => exact ⟨0, Nat.zero_le _, rfl, int_eq (by simp [szTo_zero]), by rw [szTo_zero]; omega, Below.refl _ _⟩
  case round =>
    obtain ⟨j, hj, rfl, rfl, hge, hb⟩ := hrel
    by_cases hlt : j < xs.length
    · have HD := Lib.hid (szTo_succ Stm.d hlt)
      have HE := Lib.hid (szTo_le Stm.d (xs := xs) (j + 1))
      obtain ⟨b, o, cs, l, rfl, hbl, hr, _, _, hc⟩ := (H.out.below hb).sls_at Stm.d_size (k := j) hlt
      have G := Lib.hid hr
      obtain ⟨A2, c2, A5, c5, A8, c8, A9, c9, d2, d5, d8, d9, rfl, rfl, g1, g2, g3, g4, g5, g6, g7, g8, g9⟩ := Rep.stm_iff.1 hr
      have k0 := (hc 0 _ rfl).1; rw [Nat.add_zero] at k0
      have k1 := (hc 1 _ rfl).1
      have k2 := (hc 2 _ rfl).1
      have k3 := (hc 3 _ rfl).1
      have k4 := (hc 4 _ rfl).1
      have k5 := (hc 5 _ rfl).1
      have k6 := (hc 6 _ rfl).1
      have k7 := (hc 7 _ rfl).1
      have k8 := (hc 8 _ rfl).1
      clear hc hr g1 g2 g3 g4 g5 g6 g7 g8 g9
      by_cases hx : left - ((xs.length : Nat) : Int) - ((szTo Stm.d xs j : Nat) : Int) - ((szD (Stm.d xs[j]) : Nat) : Int) < 0
      · have HN := Lib.hid (szR_neg hx)
        have hr2 := Lib.hid (show szR left (szD (sls Stm.d xs)) = -1 from szR_neg (by have h4 := HE.out; rw [HD.out] at h4; rw [HT.out]; omega))
        go_wp2_with fail
        refine (szStmt_c G.out (by omega) (by omega)).mono ?_
        rintro e w1 ⟨rfl, b1⟩
        rw [HN.out]
        go_wp2
        go_ret
        exact ⟨ret_int hr2.out.symm, below_tr hb b1⟩
      · have HN := Lib.hid (szR_pos (left := left - ((xs.length : Nat) : Int) - ((szTo Stm.d xs j : Nat) : Int)) (tot := szD (Stm.d xs[j])) (by omega))
        have hge2 : 0 ≤ left - ((xs.length : Nat) : Int) - ((szTo Stm.d xs j : Nat) : Int) - ((szD (Stm.d xs[j]) : Nat) : Int) := by omega
        go_wp2_with fail
        refine (szStmt_c G.out (by omega) (by omega)).mono ?_
        rintro e w1 ⟨rfl, b1⟩
        rw [HN.out]
        go_wp2
        go_roundw
        case rel => exact ⟨j + 1, by omega, by go_num, int_eq (by rw [HD.out]; omega), by rw [HD.out]; omega, below_tr hb b1⟩
        case measure => simp [intOf]; omega
    · have hjj : j = xs.length := by omega
      subst hjj
      have hr2 := Lib.hid (show szR left (szD (sls Stm.d xs)) = left - ((xs.length : Nat) : Int) - ((szTo Stm.d xs xs.length : Nat) : Int) by rw [szTo_all, szR_pos (by rw [HT.out]; rw [szTo_all] at hge; omega), HT.out]; omega)
      go_wp2
      go_ret
      exact ⟨ret_int hr2.out.symm, hb⟩

set_option maxHeartbeats 4000000 in
set_option maxRecDepth 100000 in
theorem toStmt_c {w : World} {x : Stm} {cs : List Value} {bs : List Nat} (h : Rep w x.d cs bs) (hz : szD x.d ≤ 10000000) :
    Calls Tryz.prog 104 #[.agg cs.toArray] w (MadeT w x.d) := by
  rw [szD_stm] at hz
  obtain ⟨A2, c2, A5, c5, A8, c8, A9, c9, d2, d5, d8, d9, rfl, rfl, g1, g2, g3, g4, g5, g6, g7, g8, g9⟩ := Rep.stm_iff.1 h
  have G1 := Lib.hid ((Rep.acc_iff (x := x.write)).2 ⟨_, _, _, rfl, rfl, g1, g2⟩)
  have Z1 := Lib.hid (show szD x.write.d ≤ 10000000 by omega)
  have G3 := Lib.hid ((Rep.ex_iff (x := x.value)).2 ⟨_, _, _, _, _, _, _, _, _, rfl, rfl, g3, g4, g5, g6, g7, g8, g9⟩)
  have Z3 := Lib.hid (show szD x.value.d ≤ 10000000 by omega)
  have I1 := Lib.hid g1
  have I3 := Lib.hid g3
  have I4 := Lib.hid g4
  have I6 := Lib.hid g6
  have I7 := Lib.hid g7
  clear h hz g1 g2 g3 g4 g5 g6 g7 g8 g9
  go_enter Tryz.func104, Tryz.ntmps104
  go_wp2_with fail
  refine (toAccess_c (G1.out.below bel) Z1.out).mono ?_
  rintro e w1 ⟨cs1, bs1, rfl, r1, nd1, hy1, b1⟩
  obtain ⟨A2r1, c2r1, d2r1, hcs1, _⟩ := Rep.acc_iff.1 r1
  subst hcs1
  have hb1 : ∀ y ∈ bs1, w.heap.size + 3 ≤ y := fun y hy => by have := hy1 y hy; (try simp [World.setCell] at this); omega
  have PA1 : w1.cell? ⟨w.heap.size, 0, none⟩ = some (.string x.write.arr) ∧ w1.cell? ⟨w.heap.size, 1, none⟩ = some (.slice A2 x.write.subs.length c2) ∧ w1.cell? ⟨w.heap.size, 2, none⟩ = some (.int .i64 x.value.kind) ∧ w1.cell? ⟨w.heap.size, 3, none⟩ = some (.int .i64 x.value.num) ∧ w1.cell? ⟨w.heap.size, 4, none⟩ = some (.slice A5 x.value.index.coefs.length c5) ∧ w1.cell? ⟨w.heap.size, 5, none⟩ = some (.int .i64 x.value.index.const) ∧ w1.cell? ⟨w.heap.size, 6, none⟩ = some (.string x.value.read.arr) ∧ w1.cell? ⟨w.heap.size, 7, none⟩ = some (.slice A8 x.value.read.subs.length c8) ∧ w1.cell? ⟨w.heap.size, 8, none⟩ = some (.slice A9 x.value.kids.length c9) := by
    refine ⟨?_, ?_, ?_, ?_, ?_, ?_, ?_, ?_, ?_⟩ <;> (rw [b1.cell (by simp [World.setCell]; try (omega))]; go_simp)
  have PR1 : w1.cell? ⟨w.heap.size + 1, 0, none⟩ = some (.string ⟨#[]⟩) ∧ w1.cell? ⟨w.heap.size + 1, 1, none⟩ = some (.slice none 0 0) ∧ w1.cell? ⟨w.heap.size + 1, 2, none⟩ = some (.int .i64 0) ∧ w1.cell? ⟨w.heap.size + 1, 3, none⟩ = some (.int .i64 0) ∧ w1.cell? ⟨w.heap.size + 1, 4, none⟩ = some (.slice none 0 0) ∧ w1.cell? ⟨w.heap.size + 1, 5, none⟩ = some (.int .i64 0) ∧ w1.cell? ⟨w.heap.size + 1, 6, none⟩ = some (.string ⟨#[]⟩) ∧ w1.cell? ⟨w.heap.size + 1, 7, none⟩ = some (.slice none 0 0) ∧ w1.cell? ⟨w.heap.size + 1, 8, none⟩ = some (.slice none 0 0) := by
    refine ⟨?_, ?_, ?_, ?_, ?_, ?_, ?_, ?_, ?_⟩ <;> (rw [b1.cell (by simp [World.setCell]; try (omega))]; go_simp)
  have PO1 : w1.cell? ⟨w.heap.size + 2, 0, none⟩ = some (.string ⟨#[]⟩) ∧ w1.cell? ⟨w.heap.size + 2, 1, none⟩ = some (.slice none 0 0) ∧ w1.cell? ⟨w.heap.size + 2, 2, none⟩ = some (.int .i64 0) ∧ w1.cell? ⟨w.heap.size + 2, 3, none⟩ = some (.int .i64 0) ∧ w1.cell? ⟨w.heap.size + 2, 4, none⟩ = some (.slice none 0 0) ∧ w1.cell? ⟨w.heap.size + 2, 5, none⟩ = some (.int .i64 0) ∧ w1.cell? ⟨w.heap.size + 2, 6, none⟩ = some (.string ⟨#[]⟩) ∧ w1.cell? ⟨w.heap.size + 2, 7, none⟩ = some (.slice none 0 0) ∧ w1.cell? ⟨w.heap.size + 2, 8, none⟩ = some (.slice none 0 0) := by
    refine ⟨?_, ?_, ?_, ?_, ?_, ?_, ?_, ?_, ?_⟩ <;> (rw [b1.cell (by simp [World.setCell]; try (omega))]; go_simp)
  have F1 : w1.frozen? ⟨w.heap.size + 1, 0, none⟩ = false ∧ w1.frozen? ⟨w.heap.size + 1, 1, none⟩ = false ∧ w1.frozen? ⟨w.heap.size + 1, 2, none⟩ = false ∧ w1.frozen? ⟨w.heap.size + 1, 3, none⟩ = false ∧ w1.frozen? ⟨w.heap.size + 1, 4, none⟩ = false ∧ w1.frozen? ⟨w.heap.size + 1, 5, none⟩ = false ∧ w1.frozen? ⟨w.heap.size + 1, 6, none⟩ = false ∧ w1.frozen? ⟨w.heap.size + 1, 7, none⟩ = false ∧ w1.frozen? ⟨w.heap.size + 1, 8, none⟩ = false ∧ w1.frozen? ⟨w.heap.size + 2, 0, none⟩ = false ∧ w1.frozen? ⟨w.heap.size + 2, 1, none⟩ = false ∧ w1.frozen? ⟨w.heap.size + 2, 2, none⟩ = false ∧ w1.frozen? ⟨w.heap.size + 2, 3, none⟩ = false ∧ w1.frozen? ⟨w.heap.size + 2, 4, none⟩ = false ∧ w1.frozen? ⟨w.heap.size + 2, 5, none⟩ = false ∧ w1.frozen? ⟨w.heap.size + 2, 6, none⟩ = false ∧ w1.frozen? ⟨w.heap.size + 2, 7, none⟩ = false ∧ w1.frozen? ⟨w.heap.size + 2, 8, none⟩ = false := by
    refine ⟨?_, ?_, ?_, ?_, ?_, ?_, ?_, ?_, ?_, ?_, ?_, ?_, ?_, ?_, ?_, ?_, ?_, ?_⟩ <;> (rw [b1.frozen (by simp [World.setCell]; try (omega))]; go_simp)
  have S1 : Below w.heap.size w w1 := bel
  have ZS1 := Lib.hid (show w.heap.size + 3 ≤ w1.heap.size by have := b1.size; (try simp [World.setCell] at this); omega)
  have RR1_1 := Lib.hid r1; have HB1 := Lib.hid hb1; have ND1 := Lib.hid nd1; have LT1 := Lib.hid (Rep.lt _ r1)
  clear r1 hb1 nd1 hy1 b1
  go_wp2_with fail
  refine (toExpr_c (G3.out.below (by first | with_reducible exact S1 | exact S1.setCell (by simp; try omega) _ | exact (S1.setCell (by simp; try omega) _).setCell (by simp; try omega) _ | exact ((S1.setCell (by simp; try omega) _).setCell (by simp; try omega) _).setCell (by simp; try omega) _)) Z3.out).mono ?_
  rintro e w2 ⟨cs2, bs2, rfl, r2, nd2, hy2, b2⟩
  obtain ⟨A3r2, c3r2, A6r2, c6r2, A7r2, c7r2, d3r2, d6r2, d7r2, hcs2, _⟩ := Rep.ex_iff.1 r2
  subst hcs2
  have hb2 : ∀ y ∈ bs2, w.heap.size + 3 ≤ y := fun y hy => by have := hy2 y hy; (try simp [World.setCell] at this); have := ZS1.out; omega
  have hc2 : ∀ y ∈ bs2, w1.heap.size ≤ y := fun y hy => by have := hy2 y hy; (try simp [World.setCell] at this); omega
  have PA2 : w2.cell? ⟨w.heap.size, 0, none⟩ = some (.string x.write.arr) ∧ w2.cell? ⟨w.heap.size, 1, none⟩ = some (.slice A2 x.write.subs.length c2) ∧ w2.cell? ⟨w.heap.size, 2, none⟩ = some (.int .i64 x.value.kind) ∧ w2.cell? ⟨w.heap.size, 3, none⟩ = some (.int .i64 x.value.num) ∧ w2.cell? ⟨w.heap.size, 4, none⟩ = some (.slice A5 x.value.index.coefs.length c5) ∧ w2.cell? ⟨w.heap.size, 5, none⟩ = some (.int .i64 x.value.index.const) ∧ w2.cell? ⟨w.heap.size, 6, none⟩ = some (.string x.value.read.arr) ∧ w2.cell? ⟨w.heap.size, 7, none⟩ = some (.slice A8 x.value.read.subs.length c8) ∧ w2.cell? ⟨w.heap.size, 8, none⟩ = some (.slice A9 x.value.kids.length c9) := by
    refine ⟨?_, ?_, ?_, ?_, ?_, ?_, ?_, ?_, ?_⟩ <;> (rw [b2.cell (by simp [World.setCell]; try (have := ZS1.out; omega))]; go_simp)
  have PR2 : w2.cell? ⟨w.heap.size + 1, 0, none⟩ = some (.string ⟨#[]⟩) ∧ w2.cell? ⟨w.heap.size + 1, 1, none⟩ = some (.slice none 0 0) ∧ w2.cell? ⟨w.heap.size + 1, 2, none⟩ = some (.int .i64 0) ∧ w2.cell? ⟨w.heap.size + 1, 3, none⟩ = some (.int .i64 0) ∧ w2.cell? ⟨w.heap.size + 1, 4, none⟩ = some (.slice none 0 0) ∧ w2.cell? ⟨w.heap.size + 1, 5, none⟩ = some (.int .i64 0) ∧ w2.cell? ⟨w.heap.size + 1, 6, none⟩ = some (.string ⟨#[]⟩) ∧ w2.cell? ⟨w.heap.size + 1, 7, none⟩ = some (.slice none 0 0) ∧ w2.cell? ⟨w.heap.size + 1, 8, none⟩ = some (.slice none 0 0) := by
    refine ⟨?_, ?_, ?_, ?_, ?_, ?_, ?_, ?_, ?_⟩ <;> (rw [b2.cell (by simp [World.setCell]; try (have := ZS1.out; omega))]; go_simp)
  have PO2 : w2.cell? ⟨w.heap.size + 2, 0, none⟩ = some (.string x.write.arr) ∧ w2.cell? ⟨w.heap.size + 2, 1, none⟩ = some (.slice A2r1 x.write.subs.length c2r1) ∧ w2.cell? ⟨w.heap.size + 2, 2, none⟩ = some (.int .i64 0) ∧ w2.cell? ⟨w.heap.size + 2, 3, none⟩ = some (.int .i64 0) ∧ w2.cell? ⟨w.heap.size + 2, 4, none⟩ = some (.slice none 0 0) ∧ w2.cell? ⟨w.heap.size + 2, 5, none⟩ = some (.int .i64 0) ∧ w2.cell? ⟨w.heap.size + 2, 6, none⟩ = some (.string ⟨#[]⟩) ∧ w2.cell? ⟨w.heap.size + 2, 7, none⟩ = some (.slice none 0 0) ∧ w2.cell? ⟨w.heap.size + 2, 8, none⟩ = some (.slice none 0 0) := by
    refine ⟨?_, ?_, ?_, ?_, ?_, ?_, ?_, ?_, ?_⟩ <;> (rw [b2.cell (by simp [World.setCell]; try (have := ZS1.out; omega))]; go_simp)
  have F2 : w2.frozen? ⟨w.heap.size + 1, 0, none⟩ = false ∧ w2.frozen? ⟨w.heap.size + 1, 1, none⟩ = false ∧ w2.frozen? ⟨w.heap.size + 1, 2, none⟩ = false ∧ w2.frozen? ⟨w.heap.size + 1, 3, none⟩ = false ∧ w2.frozen? ⟨w.heap.size + 1, 4, none⟩ = false ∧ w2.frozen? ⟨w.heap.size + 1, 5, none⟩ = false ∧ w2.frozen? ⟨w.heap.size + 1, 6, none⟩ = false ∧ w2.frozen? ⟨w.heap.size + 1, 7, none⟩ = false ∧ w2.frozen? ⟨w.heap.size + 1, 8, none⟩ = false ∧ w2.frozen? ⟨w.heap.size + 2, 0, none⟩ = false ∧ w2.frozen? ⟨w.heap.size + 2, 1, none⟩ = false ∧ w2.frozen? ⟨w.heap.size + 2, 2, none⟩ = false ∧ w2.frozen? ⟨w.heap.size + 2, 3, none⟩ = false ∧ w2.frozen? ⟨w.heap.size + 2, 4, none⟩ = false ∧ w2.frozen? ⟨w.heap.size + 2, 5, none⟩ = false ∧ w2.frozen? ⟨w.heap.size + 2, 6, none⟩ = false ∧ w2.frozen? ⟨w.heap.size + 2, 7, none⟩ = false ∧ w2.frozen? ⟨w.heap.size + 2, 8, none⟩ = false := by
    refine ⟨?_, ?_, ?_, ?_, ?_, ?_, ?_, ?_, ?_, ?_, ?_, ?_, ?_, ?_, ?_, ?_, ?_, ?_⟩ <;> (rw [b2.frozen (by simp [World.setCell]; try (have := ZS1.out; omega))]; go_simp)
  have RR1_2 := Lib.hid (show Rep w2 (x.write.d) [.string x.write.arr, .slice A2r1 x.write.subs.length c2r1] bs1 from Rep.below (Rep.keep _ RR1_1.out (by repeat (first | with_reducible exact Keeps.refl _ _ | refine Keeps.setCell ?_ (fun hm => by have := HB1.out _ hm; dsimp only at this; omega) _))) b2); clear RR1_1
  have S2 : Below w.heap.size w w2 := by
    refine below_tr (a := _) ?_ b2
    exact (by first | with_reducible exact S1 | exact S1.setCell (by simp; try omega) _ | exact (S1.setCell (by simp; try omega) _).setCell (by simp; try omega) _ | exact ((S1.setCell (by simp; try omega) _).setCell (by simp; try omega) _).setCell (by simp; try omega) _)
  have ZS2 := Lib.hid (show w.heap.size + 3 ≤ w2.heap.size by have := b2.size; (try simp [World.setCell] at this); have := ZS1.out; omega)
  have ZT2 := Lib.hid (show w1.heap.size ≤ w2.heap.size by have := b2.size; (try simp [World.setCell] at this); omega)
  have RR2_2 := Lib.hid r2; have HB2 := Lib.hid hb2; have ND2 := Lib.hid nd2; have LT2 := Lib.hid (Rep.lt _ r2); have HC2 := Lib.hid hc2
  clear r2 hb2 nd2 hy2 b2 hc2 PA1 PR1 PO1 F1
  have RALL := Lib.hid (show Rep w2 x.d [.string x.write.arr, .slice A2r1 x.write.subs.length c2r1, .int .i64 x.value.kind, .int .i64 x.value.num, .slice A3r2 x.value.index.coefs.length c3r2, .int .i64 x.value.index.const, .string x.value.read.arr, .slice A6r2 x.value.read.subs.length c6r2, .slice A7r2 x.value.kids.length c7r2] (bs1 ++ bs2) from (show ∀ W, Reps W [x.write.d, x.value.d] ([.string x.write.arr, .slice A2r1 x.write.subs.length c2r1] ++ ([.int .i64 x.value.kind, .int .i64 x.value.num, .slice A3r2 x.value.index.coefs.length c3r2, .int .i64 x.value.index.const, .string x.value.read.arr, .slice A6r2 x.value.read.subs.length c6r2, .slice A7r2 x.value.kids.length c7r2] ++ ([]))) (bs1 ++ (bs2 ++ ([]))) → Rep W x.d [.string x.write.arr, .slice A2r1 x.write.subs.length c2r1, .int .i64 x.value.kind, .int .i64 x.value.num, .slice A3r2 x.value.index.coefs.length c3r2, .int .i64 x.value.index.const, .string x.value.read.arr, .slice A6r2 x.value.read.subs.length c6r2, .slice A7r2 x.value.kids.length c7r2] (bs1 ++ bs2) from fun W hq => by simpa [List.append_assoc] using (show Rep W x.d _ _ from hq)) _ ⟨_, _, _, _, rfl, rfl, RR1_2.out, ⟨_, _, _, _, rfl, rfl, RR2_2.out, ⟨rfl, rfl⟩⟩⟩)
  have NDALL := Lib.hid (show (bs1 ++ bs2 : List Nat).Nodup from List.nodup_append.2 ⟨ND1.out, ND2.out, fun y h1 z h2 e => by
      subst e
      have h3 := HC2.out y h2
      (have := LT1.out y h1; omega)⟩)
  have HBALL := Lib.hid (show ∀ y ∈ (bs1 ++ bs2 : List Nat), w.heap.size + 3 ≤ y from (fun y hy => by
    simp only [List.mem_append] at hy
    rcases hy with hy | hy
    · exact HB1.out y hy
    · exact HB2.out y hy))
  clear RR1_2 HB1 ND1 LT1 RR2_2 HB2 ND2 LT2 HC2 ZT2
  go_wp2
  refine bodyPost_ret (v := .agg #[.string x.write.arr, .slice A2r1 x.write.subs.length c2r1, .int .i64 x.value.kind, .int .i64 x.value.num, .slice A3r2 x.value.index.coefs.length c3r2, .int .i64 x.value.index.const, .string x.value.read.arr, .slice A6r2 x.value.read.subs.length c6r2, .slice A7r2 x.value.kids.length c7r2]) (by simp [results, Tryz.results104, go_sem, PR2, PO2]) rfl ⟨[.string x.write.arr, .slice A2r1 x.write.subs.length c2r1, .int .i64 x.value.kind, .int .i64 x.value.num, .slice A3r2 x.value.index.coefs.length c3r2, .int .i64 x.value.index.const, .string x.value.read.arr, .slice A6r2 x.value.read.subs.length c6r2, .slice A7r2 x.value.kids.length c7r2], bs1 ++ bs2, rfl, ?_, NDALL.out, fun y hy => by have := HBALL.out y hy; omega, ?_⟩
  · exact Rep.keep _ RALL.out (by repeat (first | with_reducible exact Keeps.refl _ _ | refine Keeps.setCell ?_ (fun hm => by have := HBALL.out _ hm; dsimp only at this; omega) _))
  · exact (by repeat (first | with_reducible exact S2 | refine Below.setCell ?_ (by simp; try omega) _))

theorem Tryz.makeStmt : (Tryz.prog.info? 129).map (fun i => (i.zero, i.size, decide (i.bytes ≤ 1024))) = some (some (.agg #[.string ⟨#[]⟩, .slice none 0 0, .int .i64 0, .int .i64 0, .slice none 0 0, .int .i64 0, .string ⟨#[]⟩, .slice none 0 0, .slice none 0 0]), 9, true) := by kernel_rfl
set_option maxHeartbeats 2000000 in
theorem toStmtS_c {w : World} {xs : List Stm} {A : Option Addr} {n c : Nat} {bs : List Nat} (h : Rep w (sls Stm.d xs) [.slice A n c] bs) (hz : szD (sls Stm.d xs) ≤ 10000000) :
    Calls Tryz.prog 70 #[.slice A n c] w (MadeS w (sls Stm.d xs)) := by
  obtain ⟨rfl, h2, h3⟩ := h.sls_len
  have hn : xs.length ≤ 9223372036854775807 := Nat.le_trans h2 h3
  have H := Lib.hid h; clear h h2 h3
  have HZ := Lib.hid (show xs.length + szDs (xs.map Stm.d) ≤ 10000000 by rw [← szD_sls]; exact hz); clear hz
  obtain ⟨i0, hi, hzz⟩ := Option.map_eq_some_iff.1 Tryz.makeStmt
  simp only [Prod.mk.injEq, decide_eq_true_iff] at hzz
  have hmk := fun W => run_make_rows (P := Tryz.prog) 72 129 (.agg #[.string ⟨#[]⟩, .slice none 0 0, .int .i64 0, .int .i64 0, .slice none 0 0, .int .i64 0, .string ⟨#[]⟩, .slice none 0 0, .slice none 0 0]) 9 i0.bytes Tryz.underlying72 (by rw [hi, Option.map_some, hzz.1, hzz.2.1]) .i64 .i64 xs.length (by
    have h1 := HZ.out
    have h2 := Nat.mul_le_mul hzz.2.2 (show xs.length ≤ 10000000 by omega)
    omega) (by omega) W
  clear hi hzz
  go_enter Tryz.func70, Tryz.ntmps70
  go_wp2
  clear hmk
  have hrow0 := Row.made w (Value.agg #[.string ⟨#[]⟩, .slice none 0 0, .int .i64 0, .int .i64 0, .slice none 0 0, .int .i64 0, .string ⟨#[]⟩, .slice none 0 0, .slice none 0 0]).cells (xs.length * 9) 129
  have hlen0 : (madeCells (Value.agg #[.string ⟨#[]⟩, .slice none 0 0, .int .i64 0, .int .i64 0, .slice none 0 0, .int .i64 0, .string ⟨#[]⟩, .slice none 0 0, .slice none 0 0]).cells (xs.length * 9)).toList.length = xs.length * 9 := by simp [size_madeCells]
  have HR0 := Lib.hid (And.intro hrow0 hlen0); clear hrow0 hlen0
  go_loopw [4] (fun i wr => ∃ (j : Nat) (es rest : List Value) (cb : List Nat), j ≤ xs.length ∧ i = .int .i64 j ∧ Row wr w.heap.size 129 (es ++ rest) ∧ es.length = j * 9 ∧ rest.length + j * 9 = xs.length * 9 ∧ Reps wr ((xs.take j).map Stm.d) es cb ∧ cb.Nodup ∧ (∀ y ∈ cb, w.heap.size + 1 ≤ y) ∧ Below w.heap.size w wr) (fun i _ => xs.length - (intOf i).toNat)
  case atStart => exact ⟨0, [], _, [], Nat.zero_le _, rfl, HR0.out.1, by simp, by simp; simpa using HR0.out.2, by simp [Reps], by simp, by simp, bel⟩
  case round =>
    obtain ⟨j, es, rest, cb, hj, rfl, hrow, hes, hrest, hreps, hnd, hcb, hb⟩ := hrel
    have HE := Lib.hid (And.intro hes (And.intro hrest (And.intro hreps (And.intro hnd hcb)))); clear hes hrest hreps hnd hcb
    have HROW := Lib.hid hrow; clear hrow
    by_cases hlt : j < xs.length
    · have hsz1 := szTo_succ Stm.d hlt
      have hsz2 := szTo_le Stm.d (xs := xs) (j + 1)
      have HX := Lib.hid (show szD (Stm.d xs[j]) ≤ 10000000 by have := HZ.out; omega); clear hsz1 hsz2
      obtain ⟨b, o, cs, l, rfl, hbl, hr, _, _, hc⟩ := (H.out.below hb).sls_at Stm.d_size (k := j) hlt
      have G := Lib.hid hr
      obtain ⟨A2, c2, A5, c5, A8, c8, A9, c9, d2, d5, d8, d9, rfl, rfl, g1, g2, g3, g4, g5, g6, g7, g8, g9⟩ := Rep.stm_iff.1 hr
      have k0 := (hc 0 _ rfl).1; rw [Nat.add_zero] at k0
      have k1 := (hc 1 _ rfl).1
      have k2 := (hc 2 _ rfl).1
      have k3 := (hc 3 _ rfl).1
      have k4 := (hc 4 _ rfl).1
      have k5 := (hc 5 _ rfl).1
      have k6 := (hc 6 _ rfl).1
      have k7 := (hc 7 _ rfl).1
      have k8 := (hc 8 _ rfl).1
      clear hc hr g1 g2 g3 g4 g5 g6 g7 g8 g9
      go_wp2_with fail
      refine (toStmt_c G.out HX.out).mono ?_
      rintro e w1 ⟨cs1, bs1, rfl, r1', nd1, hb1, b1⟩
      have R1 := Lib.hid r1'
      obtain ⟨A2r, c2r, A5r, c5r, A8r, c8r, A9r, c9r, d2r, d5r, d8r, d9r, hcs1, _⟩ := Rep.stm_iff.1 r1'
      subst hcs1
      clear r1'
      obtain ⟨hes, hrest, hreps, hnd, hcb⟩ := HE.out
      have hzr := hb.size
      have hg0 := HROW.out.lt
      have hrow1 := HROW.out.to b1
      rcases rest with _ | ⟨u0, rest⟩
      · simp only [List.length_nil] at hrest; omega
      rcases rest with _ | ⟨u1, rest⟩
      · simp only [List.length_cons, List.length_nil] at hrest; omega
      rcases rest with _ | ⟨u2, rest⟩
      · simp only [List.length_cons, List.length_nil] at hrest; omega
      rcases rest with _ | ⟨u3, rest⟩
      · simp only [List.length_cons, List.length_nil] at hrest; omega
      rcases rest with _ | ⟨u4, rest⟩
      · simp only [List.length_cons, List.length_nil] at hrest; omega
      rcases rest with _ | ⟨u5, rest⟩
      · simp only [List.length_cons, List.length_nil] at hrest; omega
      rcases rest with _ | ⟨u6, rest⟩
      · simp only [List.length_cons, List.length_nil] at hrest; omega
      rcases rest with _ | ⟨u7, rest⟩
      · simp only [List.length_cons, List.length_nil] at hrest; omega
      rcases rest with _ | ⟨u8, rest⟩
      · simp only [List.length_cons, List.length_nil] at hrest; omega
      have o0 : w1.cell? ⟨w.heap.size, j * 9, none⟩ = some u0 := by rw [hrow1.cell, List.getElem?_append_right (by omega), hes]; simp
      have f0 : w1.frozen? ⟨w.heap.size, j * 9, none⟩ = false := hrow1.frozen _
      have o1 : w1.cell? ⟨w.heap.size, j * 9 + 1, none⟩ = some u1 := by rw [hrow1.cell, List.getElem?_append_right (by omega), hes]; simp
      have f1 : w1.frozen? ⟨w.heap.size, j * 9 + 1, none⟩ = false := hrow1.frozen _
      have o2 : w1.cell? ⟨w.heap.size, j * 9 + 2, none⟩ = some u2 := by rw [hrow1.cell, List.getElem?_append_right (by omega), hes]; simp
      have f2 : w1.frozen? ⟨w.heap.size, j * 9 + 2, none⟩ = false := hrow1.frozen _
      have o3 : w1.cell? ⟨w.heap.size, j * 9 + 3, none⟩ = some u3 := by rw [hrow1.cell, List.getElem?_append_right (by omega), hes]; simp
      have f3 : w1.frozen? ⟨w.heap.size, j * 9 + 3, none⟩ = false := hrow1.frozen _
      have o4 : w1.cell? ⟨w.heap.size, j * 9 + 4, none⟩ = some u4 := by rw [hrow1.cell, List.getElem?_append_right (by omega), hes]; simp
      have f4 : w1.frozen? ⟨w.heap.size, j * 9 + 4, none⟩ = false := hrow1.frozen _
      have o5 : w1.cell? ⟨w.heap.size, j * 9 + 5, none⟩ = some u5 := by rw [hrow1.cell, List.getElem?_append_right (by omega), hes]; simp
      have f5 : w1.frozen? ⟨w.heap.size, j * 9 + 5, none⟩ = false := hrow1.frozen _
      have o6 : w1.cell? ⟨w.heap.size, j * 9 + 6, none⟩ = some u6 := by rw [hrow1.cell, List.getElem?_append_right (by omega), hes]; simp
      have f6 : w1.frozen? ⟨w.heap.size, j * 9 + 6, none⟩ = false := hrow1.frozen _
      have o7 : w1.cell? ⟨w.heap.size, j * 9 + 7, none⟩ = some u7 := by rw [hrow1.cell, List.getElem?_append_right (by omega), hes]; simp
      have f7 : w1.frozen? ⟨w.heap.size, j * 9 + 7, none⟩ = false := hrow1.frozen _
      have o8 : w1.cell? ⟨w.heap.size, j * 9 + 8, none⟩ = some u8 := by rw [hrow1.cell, List.getElem?_append_right (by omega), hes]; simp
      have f8 : w1.frozen? ⟨w.heap.size, j * 9 + 8, none⟩ = false := hrow1.frozen _
      have s0 : Row w1 w.heap.size 129 (es ++ u0 :: u1 :: u2 :: u3 :: u4 :: u5 :: u6 :: u7 :: u8 :: rest) := hrow1
      have s1 := s0.set_in (.string xs[j].write.arr)
      rw [show (es : List Value).length = j * 9 by simp [hes]] at s1
      have s2 := s1.set_in (.slice A2r xs[j].write.subs.length c2r)
      rw [show (es ++ [.string xs[j].write.arr] : List Value).length = j * 9 + 1 by simp [hes]] at s2
      have s3 := s2.set_in (.int .i64 xs[j].value.kind)
      rw [show (es ++ [.string xs[j].write.arr] ++ [.slice A2r xs[j].write.subs.length c2r] : List Value).length = j * 9 + 2 by simp [hes]] at s3
      have s4 := s3.set_in (.int .i64 xs[j].value.num)
      rw [show (es ++ [.string xs[j].write.arr] ++ [.slice A2r xs[j].write.subs.length c2r] ++ [.int .i64 xs[j].value.kind] : List Value).length = j * 9 + 3 by simp [hes]] at s4
      have s5 := s4.set_in (.slice A5r xs[j].value.index.coefs.length c5r)
      rw [show (es ++ [.string xs[j].write.arr] ++ [.slice A2r xs[j].write.subs.length c2r] ++ [.int .i64 xs[j].value.kind] ++ [.int .i64 xs[j].value.num] : List Value).length = j * 9 + 4 by simp [hes]] at s5
      have s6 := s5.set_in (.int .i64 xs[j].value.index.const)
      rw [show (es ++ [.string xs[j].write.arr] ++ [.slice A2r xs[j].write.subs.length c2r] ++ [.int .i64 xs[j].value.kind] ++ [.int .i64 xs[j].value.num] ++ [.slice A5r xs[j].value.index.coefs.length c5r] : List Value).length = j * 9 + 5 by simp [hes]] at s6
      have s7 := s6.set_in (.string xs[j].value.read.arr)
      rw [show (es ++ [.string xs[j].write.arr] ++ [.slice A2r xs[j].write.subs.length c2r] ++ [.int .i64 xs[j].value.kind] ++ [.int .i64 xs[j].value.num] ++ [.slice A5r xs[j].value.index.coefs.length c5r] ++ [.int .i64 xs[j].value.index.const] : List Value).length = j * 9 + 6 by simp [hes]] at s7
      have s8 := s7.set_in (.slice A8r xs[j].value.read.subs.length c8r)
      rw [show (es ++ [.string xs[j].write.arr] ++ [.slice A2r xs[j].write.subs.length c2r] ++ [.int .i64 xs[j].value.kind] ++ [.int .i64 xs[j].value.num] ++ [.slice A5r xs[j].value.index.coefs.length c5r] ++ [.int .i64 xs[j].value.index.const] ++ [.string xs[j].value.read.arr] : List Value).length = j * 9 + 7 by simp [hes]] at s8
      have s9 := s8.set_in (.slice A9r xs[j].value.kids.length c9r)
      rw [show (es ++ [.string xs[j].write.arr] ++ [.slice A2r xs[j].write.subs.length c2r] ++ [.int .i64 xs[j].value.kind] ++ [.int .i64 xs[j].value.num] ++ [.slice A5r xs[j].value.index.coefs.length c5r] ++ [.int .i64 xs[j].value.index.const] ++ [.string xs[j].value.read.arr] ++ [.slice A8r xs[j].value.read.subs.length c8r] : List Value).length = j * 9 + 8 by simp [hes]] at s9
      have HS := Lib.hid s9; clear s0 s1 s2 s3 s4 s5 s6 s7 s8 s9 hrow1 HROW
      have HM := Lib.hid (And.intro hes (And.intro hrest (And.intro hreps (And.intro hnd (And.intro hcb (And.intro nd1 (And.intro hb1 (And.intro hb b1)))))))); clear hes hrest hreps hnd hcb nd1 hb1 hb b1
      go_wp2
      go_roundw
      case rel =>
        obtain ⟨hes, hrest, hreps, hnd, hcb, nd1, hb1, hb, b1⟩ := HM.out
        have hn1 : w.heap.size ∉ bs1 := fun hm => by have := hb1 _ hm; omega
        have hn2 : w.heap.size ∉ cb := fun hm => by have := hcb _ hm; omega
        refine ⟨j + 1, _, rest, cb ++ bs1, by omega, by go_num, HS.out, by simp [hes]; omega, by simp only [List.length_cons] at hrest; omega, ?_, ?_, ?_, ?_⟩
        · rw [List.take_succ_eq_append_getElem hlt, List.map_append]
          have hk1 := Reps.keep _ hreps (Keeps.of_below b1 (Reps.lt _ hreps))
          rw [show (es ++ [.string xs[j].write.arr] ++ [.slice A2r xs[j].write.subs.length c2r] ++ [.int .i64 xs[j].value.kind] ++ [.int .i64 xs[j].value.num] ++ [.slice A5r xs[j].value.index.coefs.length c5r] ++ [.int .i64 xs[j].value.index.const] ++ [.string xs[j].value.read.arr] ++ [.slice A8r xs[j].value.read.subs.length c8r] ++ [.slice A9r xs[j].value.kids.length c9r] : List Value) = es ++ [.string xs[j].write.arr, .slice A2r xs[j].write.subs.length c2r, .int .i64 xs[j].value.kind, .int .i64 xs[j].value.num, .slice A5r xs[j].value.index.coefs.length c5r, .int .i64 xs[j].value.index.const, .string xs[j].value.read.arr, .slice A8r xs[j].value.read.subs.length c8r, .slice A9r xs[j].value.kids.length c9r] by simp]
          exact reps_snoc (Reps.keep _ hk1 ((((((((((Keeps.refl _ _).setCell hn2 _).setCell hn2 _).setCell hn2 _).setCell hn2 _).setCell hn2 _).setCell hn2 _).setCell hn2 _).setCell hn2 _).setCell hn2 _)) (Rep.keep _ R1.out ((((((((((Keeps.refl _ _).setCell hn1 _).setCell hn1 _).setCell hn1 _).setCell hn1 _).setCell hn1 _).setCell hn1 _).setCell hn1 _).setCell hn1 _).setCell hn1 _))
        · refine List.nodup_append.2 ⟨hnd, nd1, fun y h1 z h2 e => ?_⟩
          subst e
          have q1 := Reps.lt _ hreps y h1
          have q2 := hb1 y h2
          omega
        · intro y hy
          rcases List.mem_append.1 hy with hy | hy
          · exact hcb y hy
          · have := hb1 y hy; omega
        · exact ((((((((((below_tr hb b1).setCell (Nat.le_refl _) _).setCell (Nat.le_refl _) _).setCell (Nat.le_refl _) _).setCell (Nat.le_refl _) _).setCell (Nat.le_refl _) _).setCell (Nat.le_refl _) _).setCell (Nat.le_refl _) _).setCell (Nat.le_refl _) _).setCell (Nat.le_refl _) _)
      case measure => simp [intOf]; omega
    · have hjj : j = xs.length := by omega
      subst hjj
      obtain ⟨hes, hrest, hreps, hnd, hcb⟩ := HE.out
      rw [List.take_length] at hreps
      have hres := Row.rep HROW.out hreps (c := xs.length) (by simp) (by have := HZ.out; unfold maxLen; omega)
      rw [List.length_map] at hres
      have HF := Lib.hid (And.intro hres (And.intro hnd hcb)); clear hres hnd hcb hreps hes hrest
      go_wp2
      go_ret
      obtain ⟨hres, hnd, hcb⟩ := HF.out
      exact ⟨_, _, _, _, rfl, hres, List.nodup_cons.2 ⟨fun hm => by have := hcb _ hm; omega, hnd⟩, fun y hy => by
        rcases List.mem_cons.1 hy with rfl | hy
        · exact Nat.le_refl _
        · have := hcb y hy; omega, hb⟩

def Stm.mkE (q : Int) (x : Stm) : Stm := ⟨⟨mtext (q), mkL Aff.mkE Aff.cntE (q + 1) x.write.subs⟩, ⟨q + 1 + ((cntL Aff.cntE x.write.subs : Nat) : Int), q + 1 + ((cntL Aff.cntE x.write.subs : Nat) : Int) + 1, ⟨seqI (q + 1 + ((cntL Aff.cntE x.write.subs : Nat) : Int) + 1 + 1) x.value.index.coefs.length, q + 1 + ((cntL Aff.cntE x.write.subs : Nat) : Int) + 1 + 1 + ((x.value.index.coefs.length : Nat) : Int)⟩, ⟨mtext (q + 1 + ((cntL Aff.cntE x.write.subs : Nat) : Int) + 1 + 1 + ((x.value.index.coefs.length : Nat) : Int) + 1), mkL Aff.mkE Aff.cntE (q + 1 + ((cntL Aff.cntE x.write.subs : Nat) : Int) + 1 + 1 + ((x.value.index.coefs.length : Nat) : Int) + 1 + 1) x.value.read.subs⟩, mkL Ex.mkE Ex.cntE (q + 1 + ((cntL Aff.cntE x.write.subs : Nat) : Int) + 1 + 1 + ((x.value.index.coefs.length : Nat) : Int) + 1 + 1 + ((cntL Aff.cntE x.value.read.subs : Nat) : Int)) x.value.kids⟩⟩
def Stm.cntE (x : Stm) : Nat := 1 + cntL Aff.cntE x.write.subs + 1 + 1 + x.value.index.coefs.length + 1 + 1 + cntL Aff.cntE x.value.read.subs + cntL Ex.cntE x.value.kids

theorem Stm.cnt_le (x : Stm) : x.cntE ≤ 8 * (szD x.d + 1) := by
  have := szD_stm x
  have := szD_acc x.write
  have := szD_ex x.value
  have := szD_aff x.value.index
  have := szD_acc x.value.read
  have := Aff.cnts_le x.write.subs
  have := Aff.cnts_le x.value.read.subs
  have := Ex.cnts_le x.value.kids
  simp only [Stm.cntE]
  omega
theorem Stm.cnts_le (xs : List Stm) : cntL Stm.cntE xs ≤ 8 * szD (sls Stm.d xs) := cntL_le8 xs fun x _ => x.cnt_le

set_option maxRecDepth 100000 in
set_option maxHeartbeats 2000000 in
theorem markStmtS_c {w : World} {xs : List Stm} {A : Option Addr} {n c : Nat} {bs : List Nat} {q : Int} (h : Rep w (sls Stm.d xs) [.slice A n c] bs) (hnd : bs.Nodup) (h0 : 0 ≤ q) (h1 : q + ((cntL Stm.cntE xs : Nat) : Int) ≤ 4611686018427387904) :
    Calls Tryz.prog 50 #[.slice A n c, .int .i64 q] w fun e w' => e = .returned (.int .i64 (q + ((cntL Stm.cntE xs : Nat) : Int))) ∧ Rep w' (sls Stm.d (mkL Stm.mkE Stm.cntE q xs)) [.slice A n c] bs ∧ Touch bs w w' := by
  obtain ⟨rfl, h2, h3⟩ := h.sls_len
  have hn : xs.length ≤ 9223372036854775807 := Nat.le_trans h2 h3
  have ND := Lib.hid hnd; clear hnd
  clear h2 h3
  go_enter Tryz.func50, Tryz.ntmps50
  go_wp2
  go_loopw [1, 5] (fun u i wr => ∃ j : Nat, j ≤ xs.length ∧ i = .int .i64 j ∧ u = .int .i64 (q + ((cntL Stm.cntE (xs.take j) : Nat) : Int)) ∧ Rep wr (sls Stm.d (mkTo Stm.mkE Stm.cntE q xs j)) [.slice A xs.length c] bs ∧ Touch bs w wr) (fun _ i _ => xs.length - (intOf i).toNat)
  case atStart => exact ⟨0, Nat.zero_le _, rfl, int_eq (by simp [cntL]), by rw [mkTo_zero]; exact h, Touch.refl _ _⟩
  case round =>
    obtain ⟨j, hj, rfl, rfl, hr0, ht⟩ := hrel
    by_cases hlt : j < xs.length
    · have hlen : (mkTo Stm.mkE Stm.cntE q xs j).length = xs.length := mkTo_len _ _ _ _ hj
      obtain ⟨b, o, cs, l, rfl, hbl, hr, hbb, hlb, hnl, hbn, hc, hset⟩ := hr0.sls_focus Stm.d_size ND.out (k := j) (by rw [hlen]; exact hlt)
      rw [mkTo_get hlt] at hr
      have hcnt := cntL_take (cnt := Stm.cntE) hlt
      have hle := cntL_le (cnt := Stm.cntE) (xs := xs) (j + 1)
      rw [hcnt] at hle
      have HC := Lib.hid hcnt; clear hcnt hr0 hlen
      obtain ⟨A2, c2, A5, c5, A8, c8, A9, c9, d2, d5, d8, d9, rfl, rfl, g1, g2, g3, g4, g5, g6, g7, g8, g9⟩ := Rep.stm_iff.1 hr
      have k0 := (hc 0 _ rfl).1; rw [Nat.add_zero] at k0
      have z0 := (hc 0 _ rfl).2; rw [Nat.add_zero] at z0
      have k1 := (hc 1 _ rfl).1
      have z1 := (hc 1 _ rfl).2
      have k2 := (hc 2 _ rfl).1
      have z2 := (hc 2 _ rfl).2
      have k3 := (hc 3 _ rfl).1
      have z3 := (hc 3 _ rfl).2
      have k4 := (hc 4 _ rfl).1
      have z4 := (hc 4 _ rfl).2
      have k5 := (hc 5 _ rfl).1
      have z5 := (hc 5 _ rfl).2
      have k6 := (hc 6 _ rfl).1
      have z6 := (hc 6 _ rfl).2
      have k7 := (hc 7 _ rfl).1
      have z7 := (hc 7 _ rfl).2
      have k8 := (hc 8 _ rfl).1
      have z8 := (hc 8 _ rfl).2
      have HS := Lib.hid hset; clear hset hc hr
      have B1 : q + ((cntL Stm.cntE (xs.take j) : Nat) : Int) + 1 + ((cntL Aff.cntE xs[j].write.subs : Nat) : Int) + 1 + 1 + ((xs[j].value.index.coefs.length : Nat) : Int) + 1 + 1 + ((cntL Aff.cntE xs[j].value.read.subs : Nat) : Int) + ((cntL Ex.cntE xs[j].value.kids : Nat) : Int) ≤ 4611686018427387904 := by simp only [Stm.cntE] at hle; omega
      have B0 : 0 ≤ q + ((cntL Stm.cntE (xs.take j) : Nat) : Int) := by omega
      obtain ⟨nx3, nd_d9, nj3⟩ := nd_app hnl
      obtain ⟨nx2, nd_d8, nj2⟩ := nd_app nx3
      obtain ⟨nx1, nd_d5, nj1⟩ := nd_app nx2
      have nd_d2 := nx1
      have mb2 : b ∉ d2 := fun hm => hbn (by first | exact hm | simp [hm])
      have sb2 : ∀ y ∈ d2, y ∈ (d2 ++ d5 ++ d8 ++ d9 : List Nat) := fun y hm => by first | exact hm | simp [hm]
      have lt2 := Rep.lt _ g2
      have mb5 : b ∉ d5 := fun hm => hbn (by first | exact hm | simp [hm])
      have sb5 : ∀ y ∈ d5, y ∈ (d2 ++ d5 ++ d8 ++ d9 : List Nat) := fun y hm => by first | exact hm | simp [hm]
      have lt5 := Rep.lt _ g5
      have mb8 : b ∉ d8 := fun hm => hbn (by first | exact hm | simp [hm])
      have sb8 : ∀ y ∈ d8, y ∈ (d2 ++ d5 ++ d8 ++ d9 : List Nat) := fun y hm => by first | exact hm | simp [hm]
      have lt8 := Rep.lt _ g8
      have mb9 : b ∉ d9 := fun hm => hbn (by first | exact hm | simp [hm])
      have sb9 : ∀ y ∈ d9, y ∈ (d2 ++ d5 ++ d8 ++ d9 : List Nat) := fun y hm => by first | exact hm | simp [hm]
      have lt9 := Rep.lt _ g9
      have dj_d2_d5 : ∀ y ∈ d2, y ∉ d5 := fun y hm => nj1 y (by simp [hm])
      have dj_d2_d8 : ∀ y ∈ d2, y ∉ d8 := fun y hm => nj2 y (by simp [hm])
      have dj_d2_d9 : ∀ y ∈ d2, y ∉ d9 := fun y hm => nj3 y (by simp [hm])
      have dj_d5_d2 : ∀ y ∈ d5, y ∉ d2 := fun y hm hx => nj1 y (by simp [hx]) hm
      have dj_d5_d8 : ∀ y ∈ d5, y ∉ d8 := fun y hm => nj2 y (by simp [hm])
      have dj_d5_d9 : ∀ y ∈ d5, y ∉ d9 := fun y hm => nj3 y (by simp [hm])
      have dj_d8_d2 : ∀ y ∈ d8, y ∉ d2 := fun y hm hx => nj2 y (by simp [hx]) hm
      have dj_d8_d5 : ∀ y ∈ d8, y ∉ d5 := fun y hm hx => nj2 y (by simp [hx]) hm
      have dj_d8_d9 : ∀ y ∈ d8, y ∉ d9 := fun y hm => nj3 y (by simp [hm])
      have dj_d9_d2 : ∀ y ∈ d9, y ∉ d2 := fun y hm hx => nj3 y (by simp [hx]) hm
      have dj_d9_d5 : ∀ y ∈ d9, y ∉ d5 := fun y hm hx => nj3 y (by simp [hx]) hm
      have dj_d9_d8 : ∀ y ∈ d9, y ∉ d8 := fun y hm hx => nj3 y (by simp [hx]) hm
      have hlow : ∀ y ∈ (d2 ++ d5 ++ d8 ++ d9 : List Nat), y ∈ bs := hlb
      have HND := Lib.hid (And.intro hnl (And.intro hbn hlb)); clear hnl hbn hlb
      clear nj1 nj2 nj3
      have R1_0 := Lib.hid g1; clear g1
      have R2_0 := Lib.hid g2; clear g2
      have R3_0 := Lib.hid g3; clear g3
      have R4_0 := Lib.hid g4; clear g4
      have R5_0 := Lib.hid g5; clear g5
      have R6_0 := Lib.hid g6; clear g6
      have R7_0 := Lib.hid g7; clear g7
      have R8_0 := Lib.hid g8; clear g8
      have R9_0 := Lib.hid g9; clear g9
      have M0 := Mk.refl wr b (o + j * 9) (o + j * 9 + 9) (d2 ++ d5 ++ d8 ++ d9)
      have L0 := hbl
      have Hmb2 := Lib.hid mb2; clear mb2
      have Hsb2 := Lib.hid sb2; clear sb2
      have Hlt2 := Lib.hid lt2; clear lt2
      have Hnd_d2 := Lib.hid nd_d2; clear nd_d2
      have Hmb5 := Lib.hid mb5; clear mb5
      have Hsb5 := Lib.hid sb5; clear sb5
      have Hlt5 := Lib.hid lt5; clear lt5
      have Hnd_d5 := Lib.hid nd_d5; clear nd_d5
      have Hmb8 := Lib.hid mb8; clear mb8
      have Hsb8 := Lib.hid sb8; clear sb8
      have Hlt8 := Lib.hid lt8; clear lt8
      have Hnd_d8 := Lib.hid nd_d8; clear nd_d8
      have Hmb9 := Lib.hid mb9; clear mb9
      have Hsb9 := Lib.hid sb9; clear sb9
      have Hlt9 := Lib.hid lt9; clear lt9
      have Hnd_d9 := Lib.hid nd_d9; clear nd_d9
      have Hdj_d2_d5 := Lib.hid dj_d2_d5; clear dj_d2_d5
      have Hdj_d2_d8 := Lib.hid dj_d2_d8; clear dj_d2_d8
      have Hdj_d2_d9 := Lib.hid dj_d2_d9; clear dj_d2_d9
      have Hdj_d5_d2 := Lib.hid dj_d5_d2; clear dj_d5_d2
      have Hdj_d5_d8 := Lib.hid dj_d5_d8; clear dj_d5_d8
      have Hdj_d5_d9 := Lib.hid dj_d5_d9; clear dj_d5_d9
      have Hdj_d8_d2 := Lib.hid dj_d8_d2; clear dj_d8_d2
      have Hdj_d8_d5 := Lib.hid dj_d8_d5; clear dj_d8_d5
      have Hdj_d8_d9 := Lib.hid dj_d8_d9; clear dj_d8_d9
      have Hdj_d9_d2 := Lib.hid dj_d9_d2; clear dj_d9_d2
      have Hdj_d9_d5 := Lib.hid dj_d9_d5; clear dj_d9_d5
      have Hdj_d9_d8 := Lib.hid dj_d9_d8; clear dj_d9_d8
      have Hhlow := Lib.hid hlow; clear hlow
      go_wp2_with fail
      refine (markText_c (k := q + ((cntL Stm.cntE (xs.take j) : Nat) : Int)) (by have := h1; simp only [Stm.cntE] at hle; omega) (by have := h1; simp only [Stm.cntE] at hle; omega)).mono ?_
      rintro e w1 ⟨rfl, t1⟩
      have M1 := M0.below t1 (Nat.lt_of_lt_of_le hbl M0.touch.size)
      have k0_1 := (t1.cell (p := ⟨b, o + j * 9, none⟩) (Nat.lt_of_lt_of_le hbl M0.touch.size)).trans k0; clear k0
      have z0_1 := (t1.frozen (p := ⟨b, o + j * 9, none⟩) (Nat.lt_of_lt_of_le hbl M0.touch.size)).trans z0; clear z0
      have k1_1 := (t1.cell (p := ⟨b, o + j * 9 + 1, none⟩) (Nat.lt_of_lt_of_le hbl M0.touch.size)).trans k1; clear k1
      have z1_1 := (t1.frozen (p := ⟨b, o + j * 9 + 1, none⟩) (Nat.lt_of_lt_of_le hbl M0.touch.size)).trans z1; clear z1
      have k2_1 := (t1.cell (p := ⟨b, o + j * 9 + 2, none⟩) (Nat.lt_of_lt_of_le hbl M0.touch.size)).trans k2; clear k2
      have z2_1 := (t1.frozen (p := ⟨b, o + j * 9 + 2, none⟩) (Nat.lt_of_lt_of_le hbl M0.touch.size)).trans z2; clear z2
      have k3_1 := (t1.cell (p := ⟨b, o + j * 9 + 3, none⟩) (Nat.lt_of_lt_of_le hbl M0.touch.size)).trans k3; clear k3
      have z3_1 := (t1.frozen (p := ⟨b, o + j * 9 + 3, none⟩) (Nat.lt_of_lt_of_le hbl M0.touch.size)).trans z3; clear z3
      have k4_1 := (t1.cell (p := ⟨b, o + j * 9 + 4, none⟩) (Nat.lt_of_lt_of_le hbl M0.touch.size)).trans k4; clear k4
      have z4_1 := (t1.frozen (p := ⟨b, o + j * 9 + 4, none⟩) (Nat.lt_of_lt_of_le hbl M0.touch.size)).trans z4; clear z4
      have k5_1 := (t1.cell (p := ⟨b, o + j * 9 + 5, none⟩) (Nat.lt_of_lt_of_le hbl M0.touch.size)).trans k5; clear k5
      have z5_1 := (t1.frozen (p := ⟨b, o + j * 9 + 5, none⟩) (Nat.lt_of_lt_of_le hbl M0.touch.size)).trans z5; clear z5
      have k6_1 := (t1.cell (p := ⟨b, o + j * 9 + 6, none⟩) (Nat.lt_of_lt_of_le hbl M0.touch.size)).trans k6; clear k6
      have z6_1 := (t1.frozen (p := ⟨b, o + j * 9 + 6, none⟩) (Nat.lt_of_lt_of_le hbl M0.touch.size)).trans z6; clear z6
      have k7_1 := (t1.cell (p := ⟨b, o + j * 9 + 7, none⟩) (Nat.lt_of_lt_of_le hbl M0.touch.size)).trans k7; clear k7
      have z7_1 := (t1.frozen (p := ⟨b, o + j * 9 + 7, none⟩) (Nat.lt_of_lt_of_le hbl M0.touch.size)).trans z7; clear z7
      have k8_1 := (t1.cell (p := ⟨b, o + j * 9 + 8, none⟩) (Nat.lt_of_lt_of_le hbl M0.touch.size)).trans k8; clear k8
      have z8_1 := (t1.frozen (p := ⟨b, o + j * 9 + 8, none⟩) (Nat.lt_of_lt_of_le hbl M0.touch.size)).trans z8; clear z8
      have R2_1 := Lib.hid (R2_0.out.below t1); clear R2_0
      have R5_1 := Lib.hid (R5_0.out.below t1); clear R5_0
      have R8_1 := Lib.hid (R8_0.out.below t1); clear R8_0
      have R9_1 := Lib.hid (R9_0.out.below t1); clear R9_0
      clear t1
      have X2 := Lib.hid (show ∃ W, W = w1.setCell ⟨b, o + j * 9, none⟩ (.string (mtext (q + ((cntL Stm.cntE (xs.take j) : Nat) : Int)))) from ⟨_, rfl⟩)
      have M2 := M1.store (i := o + j * 9) (by omega) (by omega) (.string (mtext (q + ((cntL Stm.cntE (xs.take j) : Nat) : Int))))
      have k0_2 := World.cell?_setCell_same (w := w1) (a := ⟨b, o + j * 9, none⟩) (v := .string (mtext (q + ((cntL Stm.cntE (xs.take j) : Nat) : Int)))) k0_1
      have z0_2 := (World.frozen?_setCell (w := w1) (a := ⟨b, o + j * 9, none⟩) (v := .string (mtext (q + ((cntL Stm.cntE (xs.take j) : Nat) : Int)))) (b := ⟨b, o + j * 9, none⟩)).trans z0_1
      have k1_2 := (World.cell?_setCell_other (w := w1) (a := ⟨b, o + j * 9, none⟩) (v := .string (mtext (q + ((cntL Stm.cntE (xs.take j) : Nat) : Int)))) (b := ⟨b, o + j * 9 + 1, none⟩) (fun e => by have h := congrArg Addr.off e; dsimp only at h; omega)).trans k1_1
      have z1_2 := (World.frozen?_setCell (w := w1) (a := ⟨b, o + j * 9, none⟩) (v := .string (mtext (q + ((cntL Stm.cntE (xs.take j) : Nat) : Int)))) (b := ⟨b, o + j * 9 + 1, none⟩)).trans z1_1
      have k2_2 := (World.cell?_setCell_other (w := w1) (a := ⟨b, o + j * 9, none⟩) (v := .string (mtext (q + ((cntL Stm.cntE (xs.take j) : Nat) : Int)))) (b := ⟨b, o + j * 9 + 2, none⟩) (fun e => by have h := congrArg Addr.off e; dsimp only at h; omega)).trans k2_1
      have z2_2 := (World.frozen?_setCell (w := w1) (a := ⟨b, o + j * 9, none⟩) (v := .string (mtext (q + ((cntL Stm.cntE (xs.take j) : Nat) : Int)))) (b := ⟨b, o + j * 9 + 2, none⟩)).trans z2_1
      have k3_2 := (World.cell?_setCell_other (w := w1) (a := ⟨b, o + j * 9, none⟩) (v := .string (mtext (q + ((cntL Stm.cntE (xs.take j) : Nat) : Int)))) (b := ⟨b, o + j * 9 + 3, none⟩) (fun e => by have h := congrArg Addr.off e; dsimp only at h; omega)).trans k3_1
      have z3_2 := (World.frozen?_setCell (w := w1) (a := ⟨b, o + j * 9, none⟩) (v := .string (mtext (q + ((cntL Stm.cntE (xs.take j) : Nat) : Int)))) (b := ⟨b, o + j * 9 + 3, none⟩)).trans z3_1
      have k4_2 := (World.cell?_setCell_other (w := w1) (a := ⟨b, o + j * 9, none⟩) (v := .string (mtext (q + ((cntL Stm.cntE (xs.take j) : Nat) : Int)))) (b := ⟨b, o + j * 9 + 4, none⟩) (fun e => by have h := congrArg Addr.off e; dsimp only at h; omega)).trans k4_1
      have z4_2 := (World.frozen?_setCell (w := w1) (a := ⟨b, o + j * 9, none⟩) (v := .string (mtext (q + ((cntL Stm.cntE (xs.take j) : Nat) : Int)))) (b := ⟨b, o + j * 9 + 4, none⟩)).trans z4_1
      have k5_2 := (World.cell?_setCell_other (w := w1) (a := ⟨b, o + j * 9, none⟩) (v := .string (mtext (q + ((cntL Stm.cntE (xs.take j) : Nat) : Int)))) (b := ⟨b, o + j * 9 + 5, none⟩) (fun e => by have h := congrArg Addr.off e; dsimp only at h; omega)).trans k5_1
      have z5_2 := (World.frozen?_setCell (w := w1) (a := ⟨b, o + j * 9, none⟩) (v := .string (mtext (q + ((cntL Stm.cntE (xs.take j) : Nat) : Int)))) (b := ⟨b, o + j * 9 + 5, none⟩)).trans z5_1
      have k6_2 := (World.cell?_setCell_other (w := w1) (a := ⟨b, o + j * 9, none⟩) (v := .string (mtext (q + ((cntL Stm.cntE (xs.take j) : Nat) : Int)))) (b := ⟨b, o + j * 9 + 6, none⟩) (fun e => by have h := congrArg Addr.off e; dsimp only at h; omega)).trans k6_1
      have z6_2 := (World.frozen?_setCell (w := w1) (a := ⟨b, o + j * 9, none⟩) (v := .string (mtext (q + ((cntL Stm.cntE (xs.take j) : Nat) : Int)))) (b := ⟨b, o + j * 9 + 6, none⟩)).trans z6_1
      have k7_2 := (World.cell?_setCell_other (w := w1) (a := ⟨b, o + j * 9, none⟩) (v := .string (mtext (q + ((cntL Stm.cntE (xs.take j) : Nat) : Int)))) (b := ⟨b, o + j * 9 + 7, none⟩) (fun e => by have h := congrArg Addr.off e; dsimp only at h; omega)).trans k7_1
      have z7_2 := (World.frozen?_setCell (w := w1) (a := ⟨b, o + j * 9, none⟩) (v := .string (mtext (q + ((cntL Stm.cntE (xs.take j) : Nat) : Int)))) (b := ⟨b, o + j * 9 + 7, none⟩)).trans z7_1
      have k8_2 := (World.cell?_setCell_other (w := w1) (a := ⟨b, o + j * 9, none⟩) (v := .string (mtext (q + ((cntL Stm.cntE (xs.take j) : Nat) : Int)))) (b := ⟨b, o + j * 9 + 8, none⟩) (fun e => by have h := congrArg Addr.off e; dsimp only at h; omega)).trans k8_1
      have z8_2 := (World.frozen?_setCell (w := w1) (a := ⟨b, o + j * 9, none⟩) (v := .string (mtext (q + ((cntL Stm.cntE (xs.take j) : Nat) : Int)))) (b := ⟨b, o + j * 9 + 8, none⟩)).trans z8_1
      have R2_2 := Lib.hid (Rep.keep _ R2_1.out ((Keeps.refl _ _).setCell (p := ⟨b, o + j * 9, none⟩) Hmb2.out (.string (mtext (q + ((cntL Stm.cntE (xs.take j) : Nat) : Int)))))); clear R2_1
      have R5_2 := Lib.hid (Rep.keep _ R5_1.out ((Keeps.refl _ _).setCell (p := ⟨b, o + j * 9, none⟩) Hmb5.out (.string (mtext (q + ((cntL Stm.cntE (xs.take j) : Nat) : Int)))))); clear R5_1
      have R8_2 := Lib.hid (Rep.keep _ R8_1.out ((Keeps.refl _ _).setCell (p := ⟨b, o + j * 9, none⟩) Hmb8.out (.string (mtext (q + ((cntL Stm.cntE (xs.take j) : Nat) : Int)))))); clear R8_1
      have R9_2 := Lib.hid (Rep.keep _ R9_1.out ((Keeps.refl _ _).setCell (p := ⟨b, o + j * 9, none⟩) Hmb9.out (.string (mtext (q + ((cntL Stm.cntE (xs.take j) : Nat) : Int)))))); clear R9_1
      go_wp2_with fail
      refine (markAffineS_c (q := q + ((cntL Stm.cntE (xs.take j) : Nat) : Int) + 1) R2_2.out Hnd_d2.out (by have := h1; simp only [Stm.cntE] at hle; omega) (by have := h1; simp only [Stm.cntE] at hle; omega)).mono ?_
      rintro e w3 ⟨rfl, r3, t3⟩
      have M3 := M2.call t3 Hsb2.out HND.out.2.1 (Nat.lt_of_lt_of_le hbl M2.touch.size)
      have k0_3 := (t3.cell (g := b) (o := o + j * 9) (Nat.lt_of_lt_of_le hbl M2.touch.size) Hmb2.out).trans k0_2; clear k0_2
      have z0_3 := (t3.frozen (g := b) (o := o + j * 9) (Nat.lt_of_lt_of_le hbl M2.touch.size) Hmb2.out).trans z0_2; clear z0_2
      have k1_3 := (t3.cell (g := b) (o := o + j * 9 + 1) (Nat.lt_of_lt_of_le hbl M2.touch.size) Hmb2.out).trans k1_2; clear k1_2
      have z1_3 := (t3.frozen (g := b) (o := o + j * 9 + 1) (Nat.lt_of_lt_of_le hbl M2.touch.size) Hmb2.out).trans z1_2; clear z1_2
      have k2_3 := (t3.cell (g := b) (o := o + j * 9 + 2) (Nat.lt_of_lt_of_le hbl M2.touch.size) Hmb2.out).trans k2_2; clear k2_2
      have z2_3 := (t3.frozen (g := b) (o := o + j * 9 + 2) (Nat.lt_of_lt_of_le hbl M2.touch.size) Hmb2.out).trans z2_2; clear z2_2
      have k3_3 := (t3.cell (g := b) (o := o + j * 9 + 3) (Nat.lt_of_lt_of_le hbl M2.touch.size) Hmb2.out).trans k3_2; clear k3_2
      have z3_3 := (t3.frozen (g := b) (o := o + j * 9 + 3) (Nat.lt_of_lt_of_le hbl M2.touch.size) Hmb2.out).trans z3_2; clear z3_2
      have k4_3 := (t3.cell (g := b) (o := o + j * 9 + 4) (Nat.lt_of_lt_of_le hbl M2.touch.size) Hmb2.out).trans k4_2; clear k4_2
      have z4_3 := (t3.frozen (g := b) (o := o + j * 9 + 4) (Nat.lt_of_lt_of_le hbl M2.touch.size) Hmb2.out).trans z4_2; clear z4_2
      have k5_3 := (t3.cell (g := b) (o := o + j * 9 + 5) (Nat.lt_of_lt_of_le hbl M2.touch.size) Hmb2.out).trans k5_2; clear k5_2
      have z5_3 := (t3.frozen (g := b) (o := o + j * 9 + 5) (Nat.lt_of_lt_of_le hbl M2.touch.size) Hmb2.out).trans z5_2; clear z5_2
      have k6_3 := (t3.cell (g := b) (o := o + j * 9 + 6) (Nat.lt_of_lt_of_le hbl M2.touch.size) Hmb2.out).trans k6_2; clear k6_2
      have z6_3 := (t3.frozen (g := b) (o := o + j * 9 + 6) (Nat.lt_of_lt_of_le hbl M2.touch.size) Hmb2.out).trans z6_2; clear z6_2
      have k7_3 := (t3.cell (g := b) (o := o + j * 9 + 7) (Nat.lt_of_lt_of_le hbl M2.touch.size) Hmb2.out).trans k7_2; clear k7_2
      have z7_3 := (t3.frozen (g := b) (o := o + j * 9 + 7) (Nat.lt_of_lt_of_le hbl M2.touch.size) Hmb2.out).trans z7_2; clear z7_2
      have k8_3 := (t3.cell (g := b) (o := o + j * 9 + 8) (Nat.lt_of_lt_of_le hbl M2.touch.size) Hmb2.out).trans k8_2; clear k8_2
      have z8_3 := (t3.frozen (g := b) (o := o + j * 9 + 8) (Nat.lt_of_lt_of_le hbl M2.touch.size) Hmb2.out).trans z8_2; clear z8_2
      have R2_3 := Lib.hid r3; clear r3 R2_2
      have R5_3 := Lib.hid (Rep.keep _ R5_2.out (t3.keeps fun y hy => ⟨Rep.lt _ R5_2.out y hy, Hdj_d5_d2.out y hy⟩)); clear R5_2
      have R8_3 := Lib.hid (Rep.keep _ R8_2.out (t3.keeps fun y hy => ⟨Rep.lt _ R8_2.out y hy, Hdj_d8_d2.out y hy⟩)); clear R8_2
      have R9_3 := Lib.hid (Rep.keep _ R9_2.out (t3.keeps fun y hy => ⟨Rep.lt _ R9_2.out y hy, Hdj_d9_d2.out y hy⟩)); clear R9_2
      clear t3
      have X4 := Lib.hid (show ∃ W, W = w3.setCell ⟨b, o + j * 9 + 2, none⟩ (.int .i64 (q + ((cntL Stm.cntE (xs.take j) : Nat) : Int) + 1 + ((cntL Aff.cntE xs[j].write.subs : Nat) : Int))) from ⟨_, rfl⟩)
      have M4 := M3.store (i := o + j * 9 + 2) (by omega) (by omega) (.int .i64 (q + ((cntL Stm.cntE (xs.take j) : Nat) : Int) + 1 + ((cntL Aff.cntE xs[j].write.subs : Nat) : Int)))
      have k0_4 := (World.cell?_setCell_other (w := w3) (a := ⟨b, o + j * 9 + 2, none⟩) (v := .int .i64 (q + ((cntL Stm.cntE (xs.take j) : Nat) : Int) + 1 + ((cntL Aff.cntE xs[j].write.subs : Nat) : Int))) (b := ⟨b, o + j * 9, none⟩) (fun e => by have h := congrArg Addr.off e; dsimp only at h; omega)).trans k0_3
      have z0_4 := (World.frozen?_setCell (w := w3) (a := ⟨b, o + j * 9 + 2, none⟩) (v := .int .i64 (q + ((cntL Stm.cntE (xs.take j) : Nat) : Int) + 1 + ((cntL Aff.cntE xs[j].write.subs : Nat) : Int))) (b := ⟨b, o + j * 9, none⟩)).trans z0_3
      have k1_4 := (World.cell?_setCell_other (w := w3) (a := ⟨b, o + j * 9 + 2, none⟩) (v := .int .i64 (q + ((cntL Stm.cntE (xs.take j) : Nat) : Int) + 1 + ((cntL Aff.cntE xs[j].write.subs : Nat) : Int))) (b := ⟨b, o + j * 9 + 1, none⟩) (fun e => by have h := congrArg Addr.off e; dsimp only at h; omega)).trans k1_3
      have z1_4 := (World.frozen?_setCell (w := w3) (a := ⟨b, o + j * 9 + 2, none⟩) (v := .int .i64 (q + ((cntL Stm.cntE (xs.take j) : Nat) : Int) + 1 + ((cntL Aff.cntE xs[j].write.subs : Nat) : Int))) (b := ⟨b, o + j * 9 + 1, none⟩)).trans z1_3
      have k2_4 := World.cell?_setCell_same (w := w3) (a := ⟨b, o + j * 9 + 2, none⟩) (v := .int .i64 (q + ((cntL Stm.cntE (xs.take j) : Nat) : Int) + 1 + ((cntL Aff.cntE xs[j].write.subs : Nat) : Int))) k2_3
      have z2_4 := (World.frozen?_setCell (w := w3) (a := ⟨b, o + j * 9 + 2, none⟩) (v := .int .i64 (q + ((cntL Stm.cntE (xs.take j) : Nat) : Int) + 1 + ((cntL Aff.cntE xs[j].write.subs : Nat) : Int))) (b := ⟨b, o + j * 9 + 2, none⟩)).trans z2_3
      have k3_4 := (World.cell?_setCell_other (w := w3) (a := ⟨b, o + j * 9 + 2, none⟩) (v := .int .i64 (q + ((cntL Stm.cntE (xs.take j) : Nat) : Int) + 1 + ((cntL Aff.cntE xs[j].write.subs : Nat) : Int))) (b := ⟨b, o + j * 9 + 3, none⟩) (fun e => by have h := congrArg Addr.off e; dsimp only at h; omega)).trans k3_3
      have z3_4 := (World.frozen?_setCell (w := w3) (a := ⟨b, o + j * 9 + 2, none⟩) (v := .int .i64 (q + ((cntL Stm.cntE (xs.take j) : Nat) : Int) + 1 + ((cntL Aff.cntE xs[j].write.subs : Nat) : Int))) (b := ⟨b, o + j * 9 + 3, none⟩)).trans z3_3
      have k4_4 := (World.cell?_setCell_other (w := w3) (a := ⟨b, o + j * 9 + 2, none⟩) (v := .int .i64 (q + ((cntL Stm.cntE (xs.take j) : Nat) : Int) + 1 + ((cntL Aff.cntE xs[j].write.subs : Nat) : Int))) (b := ⟨b, o + j * 9 + 4, none⟩) (fun e => by have h := congrArg Addr.off e; dsimp only at h; omega)).trans k4_3
      have z4_4 := (World.frozen?_setCell (w := w3) (a := ⟨b, o + j * 9 + 2, none⟩) (v := .int .i64 (q + ((cntL Stm.cntE (xs.take j) : Nat) : Int) + 1 + ((cntL Aff.cntE xs[j].write.subs : Nat) : Int))) (b := ⟨b, o + j * 9 + 4, none⟩)).trans z4_3
      have k5_4 := (World.cell?_setCell_other (w := w3) (a := ⟨b, o + j * 9 + 2, none⟩) (v := .int .i64 (q + ((cntL Stm.cntE (xs.take j) : Nat) : Int) + 1 + ((cntL Aff.cntE xs[j].write.subs : Nat) : Int))) (b := ⟨b, o + j * 9 + 5, none⟩) (fun e => by have h := congrArg Addr.off e; dsimp only at h; omega)).trans k5_3
      have z5_4 := (World.frozen?_setCell (w := w3) (a := ⟨b, o + j * 9 + 2, none⟩) (v := .int .i64 (q + ((cntL Stm.cntE (xs.take j) : Nat) : Int) + 1 + ((cntL Aff.cntE xs[j].write.subs : Nat) : Int))) (b := ⟨b, o + j * 9 + 5, none⟩)).trans z5_3
      have k6_4 := (World.cell?_setCell_other (w := w3) (a := ⟨b, o + j * 9 + 2, none⟩) (v := .int .i64 (q + ((cntL Stm.cntE (xs.take j) : Nat) : Int) + 1 + ((cntL Aff.cntE xs[j].write.subs : Nat) : Int))) (b := ⟨b, o + j * 9 + 6, none⟩) (fun e => by have h := congrArg Addr.off e; dsimp only at h; omega)).trans k6_3
      have z6_4 := (World.frozen?_setCell (w := w3) (a := ⟨b, o + j * 9 + 2, none⟩) (v := .int .i64 (q + ((cntL Stm.cntE (xs.take j) : Nat) : Int) + 1 + ((cntL Aff.cntE xs[j].write.subs : Nat) : Int))) (b := ⟨b, o + j * 9 + 6, none⟩)).trans z6_3
      have k7_4 := (World.cell?_setCell_other (w := w3) (a := ⟨b, o + j * 9 + 2, none⟩) (v := .int .i64 (q + ((cntL Stm.cntE (xs.take j) : Nat) : Int) + 1 + ((cntL Aff.cntE xs[j].write.subs : Nat) : Int))) (b := ⟨b, o + j * 9 + 7, none⟩) (fun e => by have h := congrArg Addr.off e; dsimp only at h; omega)).trans k7_3
      have z7_4 := (World.frozen?_setCell (w := w3) (a := ⟨b, o + j * 9 + 2, none⟩) (v := .int .i64 (q + ((cntL Stm.cntE (xs.take j) : Nat) : Int) + 1 + ((cntL Aff.cntE xs[j].write.subs : Nat) : Int))) (b := ⟨b, o + j * 9 + 7, none⟩)).trans z7_3
      have k8_4 := (World.cell?_setCell_other (w := w3) (a := ⟨b, o + j * 9 + 2, none⟩) (v := .int .i64 (q + ((cntL Stm.cntE (xs.take j) : Nat) : Int) + 1 + ((cntL Aff.cntE xs[j].write.subs : Nat) : Int))) (b := ⟨b, o + j * 9 + 8, none⟩) (fun e => by have h := congrArg Addr.off e; dsimp only at h; omega)).trans k8_3
      have z8_4 := (World.frozen?_setCell (w := w3) (a := ⟨b, o + j * 9 + 2, none⟩) (v := .int .i64 (q + ((cntL Stm.cntE (xs.take j) : Nat) : Int) + 1 + ((cntL Aff.cntE xs[j].write.subs : Nat) : Int))) (b := ⟨b, o + j * 9 + 8, none⟩)).trans z8_3
      have R2_4 := Lib.hid (Rep.keep _ R2_3.out ((Keeps.refl _ _).setCell (p := ⟨b, o + j * 9 + 2, none⟩) Hmb2.out (.int .i64 (q + ((cntL Stm.cntE (xs.take j) : Nat) : Int) + 1 + ((cntL Aff.cntE xs[j].write.subs : Nat) : Int))))); clear R2_3
      have R5_4 := Lib.hid (Rep.keep _ R5_3.out ((Keeps.refl _ _).setCell (p := ⟨b, o + j * 9 + 2, none⟩) Hmb5.out (.int .i64 (q + ((cntL Stm.cntE (xs.take j) : Nat) : Int) + 1 + ((cntL Aff.cntE xs[j].write.subs : Nat) : Int))))); clear R5_3
      have R8_4 := Lib.hid (Rep.keep _ R8_3.out ((Keeps.refl _ _).setCell (p := ⟨b, o + j * 9 + 2, none⟩) Hmb8.out (.int .i64 (q + ((cntL Stm.cntE (xs.take j) : Nat) : Int) + 1 + ((cntL Aff.cntE xs[j].write.subs : Nat) : Int))))); clear R8_3
      have R9_4 := Lib.hid (Rep.keep _ R9_3.out ((Keeps.refl _ _).setCell (p := ⟨b, o + j * 9 + 2, none⟩) Hmb9.out (.int .i64 (q + ((cntL Stm.cntE (xs.take j) : Nat) : Int) + 1 + ((cntL Aff.cntE xs[j].write.subs : Nat) : Int))))); clear R9_3
      have X5 := Lib.hid (show ∃ W, W = (w3.setCell ⟨b, o + j * 9 + 2, none⟩ (.int .i64 (q + ((cntL Stm.cntE (xs.take j) : Nat) : Int) + 1 + ((cntL Aff.cntE xs[j].write.subs : Nat) : Int)))).setCell ⟨b, o + j * 9 + 3, none⟩ (.int .i64 (q + ((cntL Stm.cntE (xs.take j) : Nat) : Int) + 1 + ((cntL Aff.cntE xs[j].write.subs : Nat) : Int) + 1)) from ⟨_, rfl⟩)
      have M5 := M4.store (i := o + j * 9 + 3) (by omega) (by omega) (.int .i64 (q + ((cntL Stm.cntE (xs.take j) : Nat) : Int) + 1 + ((cntL Aff.cntE xs[j].write.subs : Nat) : Int) + 1))
      have k0_5 := (World.cell?_setCell_other (w := (w3.setCell ⟨b, o + j * 9 + 2, none⟩ (.int .i64 (q + ((cntL Stm.cntE (xs.take j) : Nat) : Int) + 1 + ((cntL Aff.cntE xs[j].write.subs : Nat) : Int))))) (a := ⟨b, o + j * 9 + 3, none⟩) (v := .int .i64 (q + ((cntL Stm.cntE (xs.take j) : Nat) : Int) + 1 + ((cntL Aff.cntE xs[j].write.subs : Nat) : Int) + 1)) (b := ⟨b, o + j * 9, none⟩) (fun e => by have h := congrArg Addr.off e; dsimp only at h; omega)).trans k0_4
      have z0_5 := (World.frozen?_setCell (w := (w3.setCell ⟨b, o + j * 9 + 2, none⟩ (.int .i64 (q + ((cntL Stm.cntE (xs.take j) : Nat) : Int) + 1 + ((cntL Aff.cntE xs[j].write.subs : Nat) : Int))))) (a := ⟨b, o + j * 9 + 3, none⟩) (v := .int .i64 (q + ((cntL Stm.cntE (xs.take j) : Nat) : Int) + 1 + ((cntL Aff.cntE xs[j].write.subs : Nat) : Int) + 1)) (b := ⟨b, o + j * 9, none⟩)).trans z0_4
      have k1_5 := (World.cell?_setCell_other (w := (w3.setCell ⟨b, o + j * 9 + 2, none⟩ (.int .i64 (q + ((cntL Stm.cntE (xs.take j) : Nat) : Int) + 1 + ((cntL Aff.cntE xs[j].write.subs : Nat) : Int))))) (a := ⟨b, o + j * 9 + 3, none⟩) (v := .int .i64 (q + ((cntL Stm.cntE (xs.take j) : Nat) : Int) + 1 + ((cntL Aff.cntE xs[j].write.subs : Nat) : Int) + 1)) (b := ⟨b, o + j * 9 + 1, none⟩) (fun e => by have h := congrArg Addr.off e; dsimp only at h; omega)).trans k1_4
      have z1_5 := (World.frozen?_setCell (w := (w3.setCell ⟨b, o + j * 9 + 2, none⟩ (.int .i64 (q + ((cntL Stm.cntE (xs.take j) : Nat) : Int) + 1 + ((cntL Aff.cntE xs[j].write.subs : Nat) : Int))))) (a := ⟨b, o + j * 9 + 3, none⟩) (v := .int .i64 (q + ((cntL Stm.cntE (xs.take j) : Nat) : Int) + 1 + ((cntL Aff.cntE xs[j].write.subs : Nat) : Int) + 1)) (b := ⟨b, o + j * 9 + 1, none⟩)).trans z1_4
      have k2_5 := (World.cell?_setCell_other (w := (w3.setCell ⟨b, o + j * 9 + 2, none⟩ (.int .i64 (q + ((cntL Stm.cntE (xs.take j) : Nat) : Int) + 1 + ((cntL Aff.cntE xs[j].write.subs : Nat) : Int))))) (a := ⟨b, o + j * 9 + 3, none⟩) (v := .int .i64 (q + ((cntL Stm.cntE (xs.take j) : Nat) : Int) + 1 + ((cntL Aff.cntE xs[j].write.subs : Nat) : Int) + 1)) (b := ⟨b, o + j * 9 + 2, none⟩) (fun e => by have h := congrArg Addr.off e; dsimp only at h; omega)).trans k2_4
      have z2_5 := (World.frozen?_setCell (w := (w3.setCell ⟨b, o + j * 9 + 2, none⟩ (.int .i64 (q + ((cntL Stm.cntE (xs.take j) : Nat) : Int) + 1 + ((cntL Aff.cntE xs[j].write.subs : Nat) : Int))))) (a := ⟨b, o + j * 9 + 3, none⟩) (v := .int .i64 (q + ((cntL Stm.cntE (xs.take j) : Nat) : Int) + 1 + ((cntL Aff.cntE xs[j].write.subs : Nat) : Int) + 1)) (b := ⟨b, o + j * 9 + 2, none⟩)).trans z2_4
      have k3_5 := World.cell?_setCell_same (w := (w3.setCell ⟨b, o + j * 9 + 2, none⟩ (.int .i64 (q + ((cntL Stm.cntE (xs.take j) : Nat) : Int) + 1 + ((cntL Aff.cntE xs[j].write.subs : Nat) : Int))))) (a := ⟨b, o + j * 9 + 3, none⟩) (v := .int .i64 (q + ((cntL Stm.cntE (xs.take j) : Nat) : Int) + 1 + ((cntL Aff.cntE xs[j].write.subs : Nat) : Int) + 1)) k3_4
      have z3_5 := (World.frozen?_setCell (w := (w3.setCell ⟨b, o + j * 9 + 2, none⟩ (.int .i64 (q + ((cntL Stm.cntE (xs.take j) : Nat) : Int) + 1 + ((cntL Aff.cntE xs[j].write.subs : Nat) : Int))))) (a := ⟨b, o + j * 9 + 3, none⟩) (v := .int .i64 (q + ((cntL Stm.cntE (xs.take j) : Nat) : Int) + 1 + ((cntL Aff.cntE xs[j].write.subs : Nat) : Int) + 1)) (b := ⟨b, o + j * 9 + 3, none⟩)).trans z3_4
      have k4_5 := (World.cell?_setCell_other (w := (w3.setCell ⟨b, o + j * 9 + 2, none⟩ (.int .i64 (q + ((cntL Stm.cntE (xs.take j) : Nat) : Int) + 1 + ((cntL Aff.cntE xs[j].write.subs : Nat) : Int))))) (a := ⟨b, o + j * 9 + 3, none⟩) (v := .int .i64 (q + ((cntL Stm.cntE (xs.take j) : Nat) : Int) + 1 + ((cntL Aff.cntE xs[j].write.subs : Nat) : Int) + 1)) (b := ⟨b, o + j * 9 + 4, none⟩) (fun e => by have h := congrArg Addr.off e; dsimp only at h; omega)).trans k4_4
      have z4_5 := (World.frozen?_setCell (w := (w3.setCell ⟨b, o + j * 9 + 2, none⟩ (.int .i64 (q + ((cntL Stm.cntE (xs.take j) : Nat) : Int) + 1 + ((cntL Aff.cntE xs[j].write.subs : Nat) : Int))))) (a := ⟨b, o + j * 9 + 3, none⟩) (v := .int .i64 (q + ((cntL Stm.cntE (xs.take j) : Nat) : Int) + 1 + ((cntL Aff.cntE xs[j].write.subs : Nat) : Int) + 1)) (b := ⟨b, o + j * 9 + 4, none⟩)).trans z4_4
      have k5_5 := (World.cell?_setCell_other (w := (w3.setCell ⟨b, o + j * 9 + 2, none⟩ (.int .i64 (q + ((cntL Stm.cntE (xs.take j) : Nat) : Int) + 1 + ((cntL Aff.cntE xs[j].write.subs : Nat) : Int))))) (a := ⟨b, o + j * 9 + 3, none⟩) (v := .int .i64 (q + ((cntL Stm.cntE (xs.take j) : Nat) : Int) + 1 + ((cntL Aff.cntE xs[j].write.subs : Nat) : Int) + 1)) (b := ⟨b, o + j * 9 + 5, none⟩) (fun e => by have h := congrArg Addr.off e; dsimp only at h; omega)).trans k5_4
      have z5_5 := (World.frozen?_setCell (w := (w3.setCell ⟨b, o + j * 9 + 2, none⟩ (.int .i64 (q + ((cntL Stm.cntE (xs.take j) : Nat) : Int) + 1 + ((cntL Aff.cntE xs[j].write.subs : Nat) : Int))))) (a := ⟨b, o + j * 9 + 3, none⟩) (v := .int .i64 (q + ((cntL Stm.cntE (xs.take j) : Nat) : Int) + 1 + ((cntL Aff.cntE xs[j].write.subs : Nat) : Int) + 1)) (b := ⟨b, o + j * 9 + 5, none⟩)).trans z5_4
      have k6_5 := (World.cell?_setCell_other (w := (w3.setCell ⟨b, o + j * 9 + 2, none⟩ (.int .i64 (q + ((cntL Stm.cntE (xs.take j) : Nat) : Int) + 1 + ((cntL Aff.cntE xs[j].write.subs : Nat) : Int))))) (a := ⟨b, o + j * 9 + 3, none⟩) (v := .int .i64 (q + ((cntL Stm.cntE (xs.take j) : Nat) : Int) + 1 + ((cntL Aff.cntE xs[j].write.subs : Nat) : Int) + 1)) (b := ⟨b, o + j * 9 + 6, none⟩) (fun e => by have h := congrArg Addr.off e; dsimp only at h; omega)).trans k6_4
      have z6_5 := (World.frozen?_setCell (w := (w3.setCell ⟨b, o + j * 9 + 2, none⟩ (.int .i64 (q + ((cntL Stm.cntE (xs.take j) : Nat) : Int) + 1 + ((cntL Aff.cntE xs[j].write.subs : Nat) : Int))))) (a := ⟨b, o + j * 9 + 3, none⟩) (v := .int .i64 (q + ((cntL Stm.cntE (xs.take j) : Nat) : Int) + 1 + ((cntL Aff.cntE xs[j].write.subs : Nat) : Int) + 1)) (b := ⟨b, o + j * 9 + 6, none⟩)).trans z6_4
      have k7_5 := (World.cell?_setCell_other (w := (w3.setCell ⟨b, o + j * 9 + 2, none⟩ (.int .i64 (q + ((cntL Stm.cntE (xs.take j) : Nat) : Int) + 1 + ((cntL Aff.cntE xs[j].write.subs : Nat) : Int))))) (a := ⟨b, o + j * 9 + 3, none⟩) (v := .int .i64 (q + ((cntL Stm.cntE (xs.take j) : Nat) : Int) + 1 + ((cntL Aff.cntE xs[j].write.subs : Nat) : Int) + 1)) (b := ⟨b, o + j * 9 + 7, none⟩) (fun e => by have h := congrArg Addr.off e; dsimp only at h; omega)).trans k7_4
      have z7_5 := (World.frozen?_setCell (w := (w3.setCell ⟨b, o + j * 9 + 2, none⟩ (.int .i64 (q + ((cntL Stm.cntE (xs.take j) : Nat) : Int) + 1 + ((cntL Aff.cntE xs[j].write.subs : Nat) : Int))))) (a := ⟨b, o + j * 9 + 3, none⟩) (v := .int .i64 (q + ((cntL Stm.cntE (xs.take j) : Nat) : Int) + 1 + ((cntL Aff.cntE xs[j].write.subs : Nat) : Int) + 1)) (b := ⟨b, o + j * 9 + 7, none⟩)).trans z7_4
      have k8_5 := (World.cell?_setCell_other (w := (w3.setCell ⟨b, o + j * 9 + 2, none⟩ (.int .i64 (q + ((cntL Stm.cntE (xs.take j) : Nat) : Int) + 1 + ((cntL Aff.cntE xs[j].write.subs : Nat) : Int))))) (a := ⟨b, o + j * 9 + 3, none⟩) (v := .int .i64 (q + ((cntL Stm.cntE (xs.take j) : Nat) : Int) + 1 + ((cntL Aff.cntE xs[j].write.subs : Nat) : Int) + 1)) (b := ⟨b, o + j * 9 + 8, none⟩) (fun e => by have h := congrArg Addr.off e; dsimp only at h; omega)).trans k8_4
      have z8_5 := (World.frozen?_setCell (w := (w3.setCell ⟨b, o + j * 9 + 2, none⟩ (.int .i64 (q + ((cntL Stm.cntE (xs.take j) : Nat) : Int) + 1 + ((cntL Aff.cntE xs[j].write.subs : Nat) : Int))))) (a := ⟨b, o + j * 9 + 3, none⟩) (v := .int .i64 (q + ((cntL Stm.cntE (xs.take j) : Nat) : Int) + 1 + ((cntL Aff.cntE xs[j].write.subs : Nat) : Int) + 1)) (b := ⟨b, o + j * 9 + 8, none⟩)).trans z8_4
      have R2_5 := Lib.hid (Rep.keep _ R2_4.out ((Keeps.refl _ _).setCell (p := ⟨b, o + j * 9 + 3, none⟩) Hmb2.out (.int .i64 (q + ((cntL Stm.cntE (xs.take j) : Nat) : Int) + 1 + ((cntL Aff.cntE xs[j].write.subs : Nat) : Int) + 1)))); clear R2_4
      have R5_5 := Lib.hid (Rep.keep _ R5_4.out ((Keeps.refl _ _).setCell (p := ⟨b, o + j * 9 + 3, none⟩) Hmb5.out (.int .i64 (q + ((cntL Stm.cntE (xs.take j) : Nat) : Int) + 1 + ((cntL Aff.cntE xs[j].write.subs : Nat) : Int) + 1)))); clear R5_4
      have R8_5 := Lib.hid (Rep.keep _ R8_4.out ((Keeps.refl _ _).setCell (p := ⟨b, o + j * 9 + 3, none⟩) Hmb8.out (.int .i64 (q + ((cntL Stm.cntE (xs.take j) : Nat) : Int) + 1 + ((cntL Aff.cntE xs[j].write.subs : Nat) : Int) + 1)))); clear R8_4
      have R9_5 := Lib.hid (Rep.keep _ R9_4.out ((Keeps.refl _ _).setCell (p := ⟨b, o + j * 9 + 3, none⟩) Hmb9.out (.int .i64 (q + ((cntL Stm.cntE (xs.take j) : Nat) : Int) + 1 + ((cntL Aff.cntE xs[j].write.subs : Nat) : Int) + 1)))); clear R9_4
      go_wp2_with fail
      refine (markIntS_c (k := q + ((cntL Stm.cntE (xs.take j) : Nat) : Int) + 1 + ((cntL Aff.cntE xs[j].write.subs : Nat) : Int) + 1 + 1) R5_5.out (by have := h1; simp only [Stm.cntE] at hle; omega) (by have := h1; simp only [Stm.cntE] at hle; omega)).mono ?_
      rintro e w6 ⟨rfl, r6, t6⟩
      have M6 := M5.call t6 Hsb5.out HND.out.2.1 (Nat.lt_of_lt_of_le hbl M5.touch.size)
      have k0_6 := (t6.cell (g := b) (o := o + j * 9) (Nat.lt_of_lt_of_le hbl M5.touch.size) Hmb5.out).trans k0_5; clear k0_5
      have z0_6 := (t6.frozen (g := b) (o := o + j * 9) (Nat.lt_of_lt_of_le hbl M5.touch.size) Hmb5.out).trans z0_5; clear z0_5
      have k1_6 := (t6.cell (g := b) (o := o + j * 9 + 1) (Nat.lt_of_lt_of_le hbl M5.touch.size) Hmb5.out).trans k1_5; clear k1_5
      have z1_6 := (t6.frozen (g := b) (o := o + j * 9 + 1) (Nat.lt_of_lt_of_le hbl M5.touch.size) Hmb5.out).trans z1_5; clear z1_5
      have k2_6 := (t6.cell (g := b) (o := o + j * 9 + 2) (Nat.lt_of_lt_of_le hbl M5.touch.size) Hmb5.out).trans k2_5; clear k2_5
      have z2_6 := (t6.frozen (g := b) (o := o + j * 9 + 2) (Nat.lt_of_lt_of_le hbl M5.touch.size) Hmb5.out).trans z2_5; clear z2_5
      have k3_6 := (t6.cell (g := b) (o := o + j * 9 + 3) (Nat.lt_of_lt_of_le hbl M5.touch.size) Hmb5.out).trans k3_5; clear k3_5
      have z3_6 := (t6.frozen (g := b) (o := o + j * 9 + 3) (Nat.lt_of_lt_of_le hbl M5.touch.size) Hmb5.out).trans z3_5; clear z3_5
      have k4_6 := (t6.cell (g := b) (o := o + j * 9 + 4) (Nat.lt_of_lt_of_le hbl M5.touch.size) Hmb5.out).trans k4_5; clear k4_5
      have z4_6 := (t6.frozen (g := b) (o := o + j * 9 + 4) (Nat.lt_of_lt_of_le hbl M5.touch.size) Hmb5.out).trans z4_5; clear z4_5
      have k5_6 := (t6.cell (g := b) (o := o + j * 9 + 5) (Nat.lt_of_lt_of_le hbl M5.touch.size) Hmb5.out).trans k5_5; clear k5_5
      have z5_6 := (t6.frozen (g := b) (o := o + j * 9 + 5) (Nat.lt_of_lt_of_le hbl M5.touch.size) Hmb5.out).trans z5_5; clear z5_5
      have k6_6 := (t6.cell (g := b) (o := o + j * 9 + 6) (Nat.lt_of_lt_of_le hbl M5.touch.size) Hmb5.out).trans k6_5; clear k6_5
      have z6_6 := (t6.frozen (g := b) (o := o + j * 9 + 6) (Nat.lt_of_lt_of_le hbl M5.touch.size) Hmb5.out).trans z6_5; clear z6_5
      have k7_6 := (t6.cell (g := b) (o := o + j * 9 + 7) (Nat.lt_of_lt_of_le hbl M5.touch.size) Hmb5.out).trans k7_5; clear k7_5
      have z7_6 := (t6.frozen (g := b) (o := o + j * 9 + 7) (Nat.lt_of_lt_of_le hbl M5.touch.size) Hmb5.out).trans z7_5; clear z7_5
      have k8_6 := (t6.cell (g := b) (o := o + j * 9 + 8) (Nat.lt_of_lt_of_le hbl M5.touch.size) Hmb5.out).trans k8_5; clear k8_5
      have z8_6 := (t6.frozen (g := b) (o := o + j * 9 + 8) (Nat.lt_of_lt_of_le hbl M5.touch.size) Hmb5.out).trans z8_5; clear z8_5
      have R2_6 := Lib.hid (Rep.keep _ R2_5.out (t6.keeps fun y hy => ⟨Rep.lt _ R2_5.out y hy, Hdj_d2_d5.out y hy⟩)); clear R2_5
      have R5_6 := Lib.hid r6; clear r6 R5_5
      have R8_6 := Lib.hid (Rep.keep _ R8_5.out (t6.keeps fun y hy => ⟨Rep.lt _ R8_5.out y hy, Hdj_d8_d5.out y hy⟩)); clear R8_5
      have R9_6 := Lib.hid (Rep.keep _ R9_5.out (t6.keeps fun y hy => ⟨Rep.lt _ R9_5.out y hy, Hdj_d9_d5.out y hy⟩)); clear R9_5
      clear t6
      have X7 := Lib.hid (show ∃ W, W = w6.setCell ⟨b, o + j * 9 + 5, none⟩ (.int .i64 (q + ((cntL Stm.cntE (xs.take j) : Nat) : Int) + 1 + ((cntL Aff.cntE xs[j].write.subs : Nat) : Int) + 1 + 1 + ((xs[j].value.index.coefs.length : Nat) : Int))) from ⟨_, rfl⟩)
      have M7 := M6.store (i := o + j * 9 + 5) (by omega) (by omega) (.int .i64 (q + ((cntL Stm.cntE (xs.take j) : Nat) : Int) + 1 + ((cntL Aff.cntE xs[j].write.subs : Nat) : Int) + 1 + 1 + ((xs[j].value.index.coefs.length : Nat) : Int)))
      have k0_7 := (World.cell?_setCell_other (w := w6) (a := ⟨b, o + j * 9 + 5, none⟩) (v := .int .i64 (q + ((cntL Stm.cntE (xs.take j) : Nat) : Int) + 1 + ((cntL Aff.cntE xs[j].write.subs : Nat) : Int) + 1 + 1 + ((xs[j].value.index.coefs.length : Nat) : Int))) (b := ⟨b, o + j * 9, none⟩) (fun e => by have h := congrArg Addr.off e; dsimp only at h; omega)).trans k0_6
      have z0_7 := (World.frozen?_setCell (w := w6) (a := ⟨b, o + j * 9 + 5, none⟩) (v := .int .i64 (q + ((cntL Stm.cntE (xs.take j) : Nat) : Int) + 1 + ((cntL Aff.cntE xs[j].write.subs : Nat) : Int) + 1 + 1 + ((xs[j].value.index.coefs.length : Nat) : Int))) (b := ⟨b, o + j * 9, none⟩)).trans z0_6
      have k1_7 := (World.cell?_setCell_other (w := w6) (a := ⟨b, o + j * 9 + 5, none⟩) (v := .int .i64 (q + ((cntL Stm.cntE (xs.take j) : Nat) : Int) + 1 + ((cntL Aff.cntE xs[j].write.subs : Nat) : Int) + 1 + 1 + ((xs[j].value.index.coefs.length : Nat) : Int))) (b := ⟨b, o + j * 9 + 1, none⟩) (fun e => by have h := congrArg Addr.off e; dsimp only at h; omega)).trans k1_6
      have z1_7 := (World.frozen?_setCell (w := w6) (a := ⟨b, o + j * 9 + 5, none⟩) (v := .int .i64 (q + ((cntL Stm.cntE (xs.take j) : Nat) : Int) + 1 + ((cntL Aff.cntE xs[j].write.subs : Nat) : Int) + 1 + 1 + ((xs[j].value.index.coefs.length : Nat) : Int))) (b := ⟨b, o + j * 9 + 1, none⟩)).trans z1_6
      have k2_7 := (World.cell?_setCell_other (w := w6) (a := ⟨b, o + j * 9 + 5, none⟩) (v := .int .i64 (q + ((cntL Stm.cntE (xs.take j) : Nat) : Int) + 1 + ((cntL Aff.cntE xs[j].write.subs : Nat) : Int) + 1 + 1 + ((xs[j].value.index.coefs.length : Nat) : Int))) (b := ⟨b, o + j * 9 + 2, none⟩) (fun e => by have h := congrArg Addr.off e; dsimp only at h; omega)).trans k2_6
      have z2_7 := (World.frozen?_setCell (w := w6) (a := ⟨b, o + j * 9 + 5, none⟩) (v := .int .i64 (q + ((cntL Stm.cntE (xs.take j) : Nat) : Int) + 1 + ((cntL Aff.cntE xs[j].write.subs : Nat) : Int) + 1 + 1 + ((xs[j].value.index.coefs.length : Nat) : Int))) (b := ⟨b, o + j * 9 + 2, none⟩)).trans z2_6
      have k3_7 := (World.cell?_setCell_other (w := w6) (a := ⟨b, o + j * 9 + 5, none⟩) (v := .int .i64 (q + ((cntL Stm.cntE (xs.take j) : Nat) : Int) + 1 + ((cntL Aff.cntE xs[j].write.subs : Nat) : Int) + 1 + 1 + ((xs[j].value.index.coefs.length : Nat) : Int))) (b := ⟨b, o + j * 9 + 3, none⟩) (fun e => by have h := congrArg Addr.off e; dsimp only at h; omega)).trans k3_6
      have z3_7 := (World.frozen?_setCell (w := w6) (a := ⟨b, o + j * 9 + 5, none⟩) (v := .int .i64 (q + ((cntL Stm.cntE (xs.take j) : Nat) : Int) + 1 + ((cntL Aff.cntE xs[j].write.subs : Nat) : Int) + 1 + 1 + ((xs[j].value.index.coefs.length : Nat) : Int))) (b := ⟨b, o + j * 9 + 3, none⟩)).trans z3_6
      have k4_7 := (World.cell?_setCell_other (w := w6) (a := ⟨b, o + j * 9 + 5, none⟩) (v := .int .i64 (q + ((cntL Stm.cntE (xs.take j) : Nat) : Int) + 1 + ((cntL Aff.cntE xs[j].write.subs : Nat) : Int) + 1 + 1 + ((xs[j].value.index.coefs.length : Nat) : Int))) (b := ⟨b, o + j * 9 + 4, none⟩) (fun e => by have h := congrArg Addr.off e; dsimp only at h; omega)).trans k4_6
      have z4_7 := (World.frozen?_setCell (w := w6) (a := ⟨b, o + j * 9 + 5, none⟩) (v := .int .i64 (q + ((cntL Stm.cntE (xs.take j) : Nat) : Int) + 1 + ((cntL Aff.cntE xs[j].write.subs : Nat) : Int) + 1 + 1 + ((xs[j].value.index.coefs.length : Nat) : Int))) (b := ⟨b, o + j * 9 + 4, none⟩)).trans z4_6
      have k5_7 := World.cell?_setCell_same (w := w6) (a := ⟨b, o + j * 9 + 5, none⟩) (v := .int .i64 (q + ((cntL Stm.cntE (xs.take j) : Nat) : Int) + 1 + ((cntL Aff.cntE xs[j].write.subs : Nat) : Int) + 1 + 1 + ((xs[j].value.index.coefs.length : Nat) : Int))) k5_6
      have z5_7 := (World.frozen?_setCell (w := w6) (a := ⟨b, o + j * 9 + 5, none⟩) (v := .int .i64 (q + ((cntL Stm.cntE (xs.take j) : Nat) : Int) + 1 + ((cntL Aff.cntE xs[j].write.subs : Nat) : Int) + 1 + 1 + ((xs[j].value.index.coefs.length : Nat) : Int))) (b := ⟨b, o + j * 9 + 5, none⟩)).trans z5_6
      have k6_7 := (World.cell?_setCell_other (w := w6) (a := ⟨b, o + j * 9 + 5, none⟩) (v := .int .i64 (q + ((cntL Stm.cntE (xs.take j) : Nat) : Int) + 1 + ((cntL Aff.cntE xs[j].write.subs : Nat) : Int) + 1 + 1 + ((xs[j].value.index.coefs.length : Nat) : Int))) (b := ⟨b, o + j * 9 + 6, none⟩) (fun e => by have h := congrArg Addr.off e; dsimp only at h; omega)).trans k6_6
      have z6_7 := (World.frozen?_setCell (w := w6) (a := ⟨b, o + j * 9 + 5, none⟩) (v := .int .i64 (q + ((cntL Stm.cntE (xs.take j) : Nat) : Int) + 1 + ((cntL Aff.cntE xs[j].write.subs : Nat) : Int) + 1 + 1 + ((xs[j].value.index.coefs.length : Nat) : Int))) (b := ⟨b, o + j * 9 + 6, none⟩)).trans z6_6
      have k7_7 := (World.cell?_setCell_other (w := w6) (a := ⟨b, o + j * 9 + 5, none⟩) (v := .int .i64 (q + ((cntL Stm.cntE (xs.take j) : Nat) : Int) + 1 + ((cntL Aff.cntE xs[j].write.subs : Nat) : Int) + 1 + 1 + ((xs[j].value.index.coefs.length : Nat) : Int))) (b := ⟨b, o + j * 9 + 7, none⟩) (fun e => by have h := congrArg Addr.off e; dsimp only at h; omega)).trans k7_6
      have z7_7 := (World.frozen?_setCell (w := w6) (a := ⟨b, o + j * 9 + 5, none⟩) (v := .int .i64 (q + ((cntL Stm.cntE (xs.take j) : Nat) : Int) + 1 + ((cntL Aff.cntE xs[j].write.subs : Nat) : Int) + 1 + 1 + ((xs[j].value.index.coefs.length : Nat) : Int))) (b := ⟨b, o + j * 9 + 7, none⟩)).trans z7_6
      have k8_7 := (World.cell?_setCell_other (w := w6) (a := ⟨b, o + j * 9 + 5, none⟩) (v := .int .i64 (q + ((cntL Stm.cntE (xs.take j) : Nat) : Int) + 1 + ((cntL Aff.cntE xs[j].write.subs : Nat) : Int) + 1 + 1 + ((xs[j].value.index.coefs.length : Nat) : Int))) (b := ⟨b, o + j * 9 + 8, none⟩) (fun e => by have h := congrArg Addr.off e; dsimp only at h; omega)).trans k8_6
      have z8_7 := (World.frozen?_setCell (w := w6) (a := ⟨b, o + j * 9 + 5, none⟩) (v := .int .i64 (q + ((cntL Stm.cntE (xs.take j) : Nat) : Int) + 1 + ((cntL Aff.cntE xs[j].write.subs : Nat) : Int) + 1 + 1 + ((xs[j].value.index.coefs.length : Nat) : Int))) (b := ⟨b, o + j * 9 + 8, none⟩)).trans z8_6
      have R2_7 := Lib.hid (Rep.keep _ R2_6.out ((Keeps.refl _ _).setCell (p := ⟨b, o + j * 9 + 5, none⟩) Hmb2.out (.int .i64 (q + ((cntL Stm.cntE (xs.take j) : Nat) : Int) + 1 + ((cntL Aff.cntE xs[j].write.subs : Nat) : Int) + 1 + 1 + ((xs[j].value.index.coefs.length : Nat) : Int))))); clear R2_6
      have R5_7 := Lib.hid (Rep.keep _ R5_6.out ((Keeps.refl _ _).setCell (p := ⟨b, o + j * 9 + 5, none⟩) Hmb5.out (.int .i64 (q + ((cntL Stm.cntE (xs.take j) : Nat) : Int) + 1 + ((cntL Aff.cntE xs[j].write.subs : Nat) : Int) + 1 + 1 + ((xs[j].value.index.coefs.length : Nat) : Int))))); clear R5_6
      have R8_7 := Lib.hid (Rep.keep _ R8_6.out ((Keeps.refl _ _).setCell (p := ⟨b, o + j * 9 + 5, none⟩) Hmb8.out (.int .i64 (q + ((cntL Stm.cntE (xs.take j) : Nat) : Int) + 1 + ((cntL Aff.cntE xs[j].write.subs : Nat) : Int) + 1 + 1 + ((xs[j].value.index.coefs.length : Nat) : Int))))); clear R8_6
      have R9_7 := Lib.hid (Rep.keep _ R9_6.out ((Keeps.refl _ _).setCell (p := ⟨b, o + j * 9 + 5, none⟩) Hmb9.out (.int .i64 (q + ((cntL Stm.cntE (xs.take j) : Nat) : Int) + 1 + ((cntL Aff.cntE xs[j].write.subs : Nat) : Int) + 1 + 1 + ((xs[j].value.index.coefs.length : Nat) : Int))))); clear R9_6
      go_wp2_with fail
      refine (markText_c (k := q + ((cntL Stm.cntE (xs.take j) : Nat) : Int) + 1 + ((cntL Aff.cntE xs[j].write.subs : Nat) : Int) + 1 + 1 + ((xs[j].value.index.coefs.length : Nat) : Int) + 1) (by have := h1; simp only [Stm.cntE] at hle; omega) (by have := h1; simp only [Stm.cntE] at hle; omega)).mono ?_
      rintro e w8 ⟨rfl, t8⟩
      have M8 := M7.below t8 (Nat.lt_of_lt_of_le hbl M7.touch.size)
      have k0_8 := (t8.cell (p := ⟨b, o + j * 9, none⟩) (Nat.lt_of_lt_of_le hbl M7.touch.size)).trans k0_7; clear k0_7
      have z0_8 := (t8.frozen (p := ⟨b, o + j * 9, none⟩) (Nat.lt_of_lt_of_le hbl M7.touch.size)).trans z0_7; clear z0_7
      have k1_8 := (t8.cell (p := ⟨b, o + j * 9 + 1, none⟩) (Nat.lt_of_lt_of_le hbl M7.touch.size)).trans k1_7; clear k1_7
      have z1_8 := (t8.frozen (p := ⟨b, o + j * 9 + 1, none⟩) (Nat.lt_of_lt_of_le hbl M7.touch.size)).trans z1_7; clear z1_7
      have k2_8 := (t8.cell (p := ⟨b, o + j * 9 + 2, none⟩) (Nat.lt_of_lt_of_le hbl M7.touch.size)).trans k2_7; clear k2_7
      have z2_8 := (t8.frozen (p := ⟨b, o + j * 9 + 2, none⟩) (Nat.lt_of_lt_of_le hbl M7.touch.size)).trans z2_7; clear z2_7
      have k3_8 := (t8.cell (p := ⟨b, o + j * 9 + 3, none⟩) (Nat.lt_of_lt_of_le hbl M7.touch.size)).trans k3_7; clear k3_7
      have z3_8 := (t8.frozen (p := ⟨b, o + j * 9 + 3, none⟩) (Nat.lt_of_lt_of_le hbl M7.touch.size)).trans z3_7; clear z3_7
      have k4_8 := (t8.cell (p := ⟨b, o + j * 9 + 4, none⟩) (Nat.lt_of_lt_of_le hbl M7.touch.size)).trans k4_7; clear k4_7
      have z4_8 := (t8.frozen (p := ⟨b, o + j * 9 + 4, none⟩) (Nat.lt_of_lt_of_le hbl M7.touch.size)).trans z4_7; clear z4_7
      have k5_8 := (t8.cell (p := ⟨b, o + j * 9 + 5, none⟩) (Nat.lt_of_lt_of_le hbl M7.touch.size)).trans k5_7; clear k5_7
      have z5_8 := (t8.frozen (p := ⟨b, o + j * 9 + 5, none⟩) (Nat.lt_of_lt_of_le hbl M7.touch.size)).trans z5_7; clear z5_7
      have k6_8 := (t8.cell (p := ⟨b, o + j * 9 + 6, none⟩) (Nat.lt_of_lt_of_le hbl M7.touch.size)).trans k6_7; clear k6_7
      have z6_8 := (t8.frozen (p := ⟨b, o + j * 9 + 6, none⟩) (Nat.lt_of_lt_of_le hbl M7.touch.size)).trans z6_7; clear z6_7
      have k7_8 := (t8.cell (p := ⟨b, o + j * 9 + 7, none⟩) (Nat.lt_of_lt_of_le hbl M7.touch.size)).trans k7_7; clear k7_7
      have z7_8 := (t8.frozen (p := ⟨b, o + j * 9 + 7, none⟩) (Nat.lt_of_lt_of_le hbl M7.touch.size)).trans z7_7; clear z7_7
      have k8_8 := (t8.cell (p := ⟨b, o + j * 9 + 8, none⟩) (Nat.lt_of_lt_of_le hbl M7.touch.size)).trans k8_7; clear k8_7
      have z8_8 := (t8.frozen (p := ⟨b, o + j * 9 + 8, none⟩) (Nat.lt_of_lt_of_le hbl M7.touch.size)).trans z8_7; clear z8_7
      have R2_8 := Lib.hid (R2_7.out.below t8); clear R2_7
      have R5_8 := Lib.hid (R5_7.out.below t8); clear R5_7
      have R8_8 := Lib.hid (R8_7.out.below t8); clear R8_7
      have R9_8 := Lib.hid (R9_7.out.below t8); clear R9_7
      clear t8
      have X9 := Lib.hid (show ∃ W, W = w8.setCell ⟨b, o + j * 9 + 6, none⟩ (.string (mtext (q + ((cntL Stm.cntE (xs.take j) : Nat) : Int) + 1 + ((cntL Aff.cntE xs[j].write.subs : Nat) : Int) + 1 + 1 + ((xs[j].value.index.coefs.length : Nat) : Int) + 1))) from ⟨_, rfl⟩)
      have M9 := M8.store (i := o + j * 9 + 6) (by omega) (by omega) (.string (mtext (q + ((cntL Stm.cntE (xs.take j) : Nat) : Int) + 1 + ((cntL Aff.cntE xs[j].write.subs : Nat) : Int) + 1 + 1 + ((xs[j].value.index.coefs.length : Nat) : Int) + 1)))
      have k0_9 := (World.cell?_setCell_other (w := w8) (a := ⟨b, o + j * 9 + 6, none⟩) (v := .string (mtext (q + ((cntL Stm.cntE (xs.take j) : Nat) : Int) + 1 + ((cntL Aff.cntE xs[j].write.subs : Nat) : Int) + 1 + 1 + ((xs[j].value.index.coefs.length : Nat) : Int) + 1))) (b := ⟨b, o + j * 9, none⟩) (fun e => by have h := congrArg Addr.off e; dsimp only at h; omega)).trans k0_8
      have z0_9 := (World.frozen?_setCell (w := w8) (a := ⟨b, o + j * 9 + 6, none⟩) (v := .string (mtext (q + ((cntL Stm.cntE (xs.take j) : Nat) : Int) + 1 + ((cntL Aff.cntE xs[j].write.subs : Nat) : Int) + 1 + 1 + ((xs[j].value.index.coefs.length : Nat) : Int) + 1))) (b := ⟨b, o + j * 9, none⟩)).trans z0_8
      have k1_9 := (World.cell?_setCell_other (w := w8) (a := ⟨b, o + j * 9 + 6, none⟩) (v := .string (mtext (q + ((cntL Stm.cntE (xs.take j) : Nat) : Int) + 1 + ((cntL Aff.cntE xs[j].write.subs : Nat) : Int) + 1 + 1 + ((xs[j].value.index.coefs.length : Nat) : Int) + 1))) (b := ⟨b, o + j * 9 + 1, none⟩) (fun e => by have h := congrArg Addr.off e; dsimp only at h; omega)).trans k1_8
      have z1_9 := (World.frozen?_setCell (w := w8) (a := ⟨b, o + j * 9 + 6, none⟩) (v := .string (mtext (q + ((cntL Stm.cntE (xs.take j) : Nat) : Int) + 1 + ((cntL Aff.cntE xs[j].write.subs : Nat) : Int) + 1 + 1 + ((xs[j].value.index.coefs.length : Nat) : Int) + 1))) (b := ⟨b, o + j * 9 + 1, none⟩)).trans z1_8
      have k2_9 := (World.cell?_setCell_other (w := w8) (a := ⟨b, o + j * 9 + 6, none⟩) (v := .string (mtext (q + ((cntL Stm.cntE (xs.take j) : Nat) : Int) + 1 + ((cntL Aff.cntE xs[j].write.subs : Nat) : Int) + 1 + 1 + ((xs[j].value.index.coefs.length : Nat) : Int) + 1))) (b := ⟨b, o + j * 9 + 2, none⟩) (fun e => by have h := congrArg Addr.off e; dsimp only at h; omega)).trans k2_8
      have z2_9 := (World.frozen?_setCell (w := w8) (a := ⟨b, o + j * 9 + 6, none⟩) (v := .string (mtext (q + ((cntL Stm.cntE (xs.take j) : Nat) : Int) + 1 + ((cntL Aff.cntE xs[j].write.subs : Nat) : Int) + 1 + 1 + ((xs[j].value.index.coefs.length : Nat) : Int) + 1))) (b := ⟨b, o + j * 9 + 2, none⟩)).trans z2_8
      have k3_9 := (World.cell?_setCell_other (w := w8) (a := ⟨b, o + j * 9 + 6, none⟩) (v := .string (mtext (q + ((cntL Stm.cntE (xs.take j) : Nat) : Int) + 1 + ((cntL Aff.cntE xs[j].write.subs : Nat) : Int) + 1 + 1 + ((xs[j].value.index.coefs.length : Nat) : Int) + 1))) (b := ⟨b, o + j * 9 + 3, none⟩) (fun e => by have h := congrArg Addr.off e; dsimp only at h; omega)).trans k3_8
      have z3_9 := (World.frozen?_setCell (w := w8) (a := ⟨b, o + j * 9 + 6, none⟩) (v := .string (mtext (q + ((cntL Stm.cntE (xs.take j) : Nat) : Int) + 1 + ((cntL Aff.cntE xs[j].write.subs : Nat) : Int) + 1 + 1 + ((xs[j].value.index.coefs.length : Nat) : Int) + 1))) (b := ⟨b, o + j * 9 + 3, none⟩)).trans z3_8
      have k4_9 := (World.cell?_setCell_other (w := w8) (a := ⟨b, o + j * 9 + 6, none⟩) (v := .string (mtext (q + ((cntL Stm.cntE (xs.take j) : Nat) : Int) + 1 + ((cntL Aff.cntE xs[j].write.subs : Nat) : Int) + 1 + 1 + ((xs[j].value.index.coefs.length : Nat) : Int) + 1))) (b := ⟨b, o + j * 9 + 4, none⟩) (fun e => by have h := congrArg Addr.off e; dsimp only at h; omega)).trans k4_8
      have z4_9 := (World.frozen?_setCell (w := w8) (a := ⟨b, o + j * 9 + 6, none⟩) (v := .string (mtext (q + ((cntL Stm.cntE (xs.take j) : Nat) : Int) + 1 + ((cntL Aff.cntE xs[j].write.subs : Nat) : Int) + 1 + 1 + ((xs[j].value.index.coefs.length : Nat) : Int) + 1))) (b := ⟨b, o + j * 9 + 4, none⟩)).trans z4_8
      have k5_9 := (World.cell?_setCell_other (w := w8) (a := ⟨b, o + j * 9 + 6, none⟩) (v := .string (mtext (q + ((cntL Stm.cntE (xs.take j) : Nat) : Int) + 1 + ((cntL Aff.cntE xs[j].write.subs : Nat) : Int) + 1 + 1 + ((xs[j].value.index.coefs.length : Nat) : Int) + 1))) (b := ⟨b, o + j * 9 + 5, none⟩) (fun e => by have h := congrArg Addr.off e; dsimp only at h; omega)).trans k5_8
      have z5_9 := (World.frozen?_setCell (w := w8) (a := ⟨b, o + j * 9 + 6, none⟩) (v := .string (mtext (q + ((cntL Stm.cntE (xs.take j) : Nat) : Int) + 1 + ((cntL Aff.cntE xs[j].write.subs : Nat) : Int) + 1 + 1 + ((xs[j].value.index.coefs.length : Nat) : Int) + 1))) (b := ⟨b, o + j * 9 + 5, none⟩)).trans z5_8
      have k6_9 := World.cell?_setCell_same (w := w8) (a := ⟨b, o + j * 9 + 6, none⟩) (v := .string (mtext (q + ((cntL Stm.cntE (xs.take j) : Nat) : Int) + 1 + ((cntL Aff.cntE xs[j].write.subs : Nat) : Int) + 1 + 1 + ((xs[j].value.index.coefs.length : Nat) : Int) + 1))) k6_8
      have z6_9 := (World.frozen?_setCell (w := w8) (a := ⟨b, o + j * 9 + 6, none⟩) (v := .string (mtext (q + ((cntL Stm.cntE (xs.take j) : Nat) : Int) + 1 + ((cntL Aff.cntE xs[j].write.subs : Nat) : Int) + 1 + 1 + ((xs[j].value.index.coefs.length : Nat) : Int) + 1))) (b := ⟨b, o + j * 9 + 6, none⟩)).trans z6_8
      have k7_9 := (World.cell?_setCell_other (w := w8) (a := ⟨b, o + j * 9 + 6, none⟩) (v := .string (mtext (q + ((cntL Stm.cntE (xs.take j) : Nat) : Int) + 1 + ((cntL Aff.cntE xs[j].write.subs : Nat) : Int) + 1 + 1 + ((xs[j].value.index.coefs.length : Nat) : Int) + 1))) (b := ⟨b, o + j * 9 + 7, none⟩) (fun e => by have h := congrArg Addr.off e; dsimp only at h; omega)).trans k7_8
      have z7_9 := (World.frozen?_setCell (w := w8) (a := ⟨b, o + j * 9 + 6, none⟩) (v := .string (mtext (q + ((cntL Stm.cntE (xs.take j) : Nat) : Int) + 1 + ((cntL Aff.cntE xs[j].write.subs : Nat) : Int) + 1 + 1 + ((xs[j].value.index.coefs.length : Nat) : Int) + 1))) (b := ⟨b, o + j * 9 + 7, none⟩)).trans z7_8
      have k8_9 := (World.cell?_setCell_other (w := w8) (a := ⟨b, o + j * 9 + 6, none⟩) (v := .string (mtext (q + ((cntL Stm.cntE (xs.take j) : Nat) : Int) + 1 + ((cntL Aff.cntE xs[j].write.subs : Nat) : Int) + 1 + 1 + ((xs[j].value.index.coefs.length : Nat) : Int) + 1))) (b := ⟨b, o + j * 9 + 8, none⟩) (fun e => by have h := congrArg Addr.off e; dsimp only at h; omega)).trans k8_8
      have z8_9 := (World.frozen?_setCell (w := w8) (a := ⟨b, o + j * 9 + 6, none⟩) (v := .string (mtext (q + ((cntL Stm.cntE (xs.take j) : Nat) : Int) + 1 + ((cntL Aff.cntE xs[j].write.subs : Nat) : Int) + 1 + 1 + ((xs[j].value.index.coefs.length : Nat) : Int) + 1))) (b := ⟨b, o + j * 9 + 8, none⟩)).trans z8_8
      have R2_9 := Lib.hid (Rep.keep _ R2_8.out ((Keeps.refl _ _).setCell (p := ⟨b, o + j * 9 + 6, none⟩) Hmb2.out (.string (mtext (q + ((cntL Stm.cntE (xs.take j) : Nat) : Int) + 1 + ((cntL Aff.cntE xs[j].write.subs : Nat) : Int) + 1 + 1 + ((xs[j].value.index.coefs.length : Nat) : Int) + 1))))); clear R2_8
      have R5_9 := Lib.hid (Rep.keep _ R5_8.out ((Keeps.refl _ _).setCell (p := ⟨b, o + j * 9 + 6, none⟩) Hmb5.out (.string (mtext (q + ((cntL Stm.cntE (xs.take j) : Nat) : Int) + 1 + ((cntL Aff.cntE xs[j].write.subs : Nat) : Int) + 1 + 1 + ((xs[j].value.index.coefs.length : Nat) : Int) + 1))))); clear R5_8
      have R8_9 := Lib.hid (Rep.keep _ R8_8.out ((Keeps.refl _ _).setCell (p := ⟨b, o + j * 9 + 6, none⟩) Hmb8.out (.string (mtext (q + ((cntL Stm.cntE (xs.take j) : Nat) : Int) + 1 + ((cntL Aff.cntE xs[j].write.subs : Nat) : Int) + 1 + 1 + ((xs[j].value.index.coefs.length : Nat) : Int) + 1))))); clear R8_8
      have R9_9 := Lib.hid (Rep.keep _ R9_8.out ((Keeps.refl _ _).setCell (p := ⟨b, o + j * 9 + 6, none⟩) Hmb9.out (.string (mtext (q + ((cntL Stm.cntE (xs.take j) : Nat) : Int) + 1 + ((cntL Aff.cntE xs[j].write.subs : Nat) : Int) + 1 + 1 + ((xs[j].value.index.coefs.length : Nat) : Int) + 1))))); clear R9_8
      go_wp2_with fail
      refine (markAffineS_c (q := q + ((cntL Stm.cntE (xs.take j) : Nat) : Int) + 1 + ((cntL Aff.cntE xs[j].write.subs : Nat) : Int) + 1 + 1 + ((xs[j].value.index.coefs.length : Nat) : Int) + 1 + 1) R8_9.out Hnd_d8.out (by have := h1; simp only [Stm.cntE] at hle; omega) (by have := h1; simp only [Stm.cntE] at hle; omega)).mono ?_
      rintro e w10 ⟨rfl, r10, t10⟩
      have M10 := M9.call t10 Hsb8.out HND.out.2.1 (Nat.lt_of_lt_of_le hbl M9.touch.size)
      have k0_10 := (t10.cell (g := b) (o := o + j * 9) (Nat.lt_of_lt_of_le hbl M9.touch.size) Hmb8.out).trans k0_9; clear k0_9
      have z0_10 := (t10.frozen (g := b) (o := o + j * 9) (Nat.lt_of_lt_of_le hbl M9.touch.size) Hmb8.out).trans z0_9; clear z0_9
      have k1_10 := (t10.cell (g := b) (o := o + j * 9 + 1) (Nat.lt_of_lt_of_le hbl M9.touch.size) Hmb8.out).trans k1_9; clear k1_9
      have z1_10 := (t10.frozen (g := b) (o := o + j * 9 + 1) (Nat.lt_of_lt_of_le hbl M9.touch.size) Hmb8.out).trans z1_9; clear z1_9
      have k2_10 := (t10.cell (g := b) (o := o + j * 9 + 2) (Nat.lt_of_lt_of_le hbl M9.touch.size) Hmb8.out).trans k2_9; clear k2_9
      have z2_10 := (t10.frozen (g := b) (o := o + j * 9 + 2) (Nat.lt_of_lt_of_le hbl M9.touch.size) Hmb8.out).trans z2_9; clear z2_9
      have k3_10 := (t10.cell (g := b) (o := o + j * 9 + 3) (Nat.lt_of_lt_of_le hbl M9.touch.size) Hmb8.out).trans k3_9; clear k3_9
      have z3_10 := (t10.frozen (g := b) (o := o + j * 9 + 3) (Nat.lt_of_lt_of_le hbl M9.touch.size) Hmb8.out).trans z3_9; clear z3_9
      have k4_10 := (t10.cell (g := b) (o := o + j * 9 + 4) (Nat.lt_of_lt_of_le hbl M9.touch.size) Hmb8.out).trans k4_9; clear k4_9
      have z4_10 := (t10.frozen (g := b) (o := o + j * 9 + 4) (Nat.lt_of_lt_of_le hbl M9.touch.size) Hmb8.out).trans z4_9; clear z4_9
      have k5_10 := (t10.cell (g := b) (o := o + j * 9 + 5) (Nat.lt_of_lt_of_le hbl M9.touch.size) Hmb8.out).trans k5_9; clear k5_9
      have z5_10 := (t10.frozen (g := b) (o := o + j * 9 + 5) (Nat.lt_of_lt_of_le hbl M9.touch.size) Hmb8.out).trans z5_9; clear z5_9
      have k6_10 := (t10.cell (g := b) (o := o + j * 9 + 6) (Nat.lt_of_lt_of_le hbl M9.touch.size) Hmb8.out).trans k6_9; clear k6_9
      have z6_10 := (t10.frozen (g := b) (o := o + j * 9 + 6) (Nat.lt_of_lt_of_le hbl M9.touch.size) Hmb8.out).trans z6_9; clear z6_9
      have k7_10 := (t10.cell (g := b) (o := o + j * 9 + 7) (Nat.lt_of_lt_of_le hbl M9.touch.size) Hmb8.out).trans k7_9; clear k7_9
      have z7_10 := (t10.frozen (g := b) (o := o + j * 9 + 7) (Nat.lt_of_lt_of_le hbl M9.touch.size) Hmb8.out).trans z7_9; clear z7_9
      have k8_10 := (t10.cell (g := b) (o := o + j * 9 + 8) (Nat.lt_of_lt_of_le hbl M9.touch.size) Hmb8.out).trans k8_9; clear k8_9
      have z8_10 := (t10.frozen (g := b) (o := o + j * 9 + 8) (Nat.lt_of_lt_of_le hbl M9.touch.size) Hmb8.out).trans z8_9; clear z8_9
      have R2_10 := Lib.hid (Rep.keep _ R2_9.out (t10.keeps fun y hy => ⟨Rep.lt _ R2_9.out y hy, Hdj_d2_d8.out y hy⟩)); clear R2_9
      have R5_10 := Lib.hid (Rep.keep _ R5_9.out (t10.keeps fun y hy => ⟨Rep.lt _ R5_9.out y hy, Hdj_d5_d8.out y hy⟩)); clear R5_9
      have R8_10 := Lib.hid r10; clear r10 R8_9
      have R9_10 := Lib.hid (Rep.keep _ R9_9.out (t10.keeps fun y hy => ⟨Rep.lt _ R9_9.out y hy, Hdj_d9_d8.out y hy⟩)); clear R9_9
      clear t10
      go_wp2_with fail
      refine (markExprS_c (q := q + ((cntL Stm.cntE (xs.take j) : Nat) : Int) + 1 + ((cntL Aff.cntE xs[j].write.subs : Nat) : Int) + 1 + 1 + ((xs[j].value.index.coefs.length : Nat) : Int) + 1 + 1 + ((cntL Aff.cntE xs[j].value.read.subs : Nat) : Int)) R9_10.out Hnd_d9.out (by have := h1; simp only [Stm.cntE] at hle; omega) (by have := h1; simp only [Stm.cntE] at hle; omega)).mono ?_
      rintro e w11 ⟨rfl, r11, t11⟩
      have M11 := M10.call t11 Hsb9.out HND.out.2.1 (Nat.lt_of_lt_of_le hbl M10.touch.size)
      have k0_11 := (t11.cell (g := b) (o := o + j * 9) (Nat.lt_of_lt_of_le hbl M10.touch.size) Hmb9.out).trans k0_10; clear k0_10
      have z0_11 := (t11.frozen (g := b) (o := o + j * 9) (Nat.lt_of_lt_of_le hbl M10.touch.size) Hmb9.out).trans z0_10; clear z0_10
      have k1_11 := (t11.cell (g := b) (o := o + j * 9 + 1) (Nat.lt_of_lt_of_le hbl M10.touch.size) Hmb9.out).trans k1_10; clear k1_10
      have z1_11 := (t11.frozen (g := b) (o := o + j * 9 + 1) (Nat.lt_of_lt_of_le hbl M10.touch.size) Hmb9.out).trans z1_10; clear z1_10
      have k2_11 := (t11.cell (g := b) (o := o + j * 9 + 2) (Nat.lt_of_lt_of_le hbl M10.touch.size) Hmb9.out).trans k2_10; clear k2_10
      have z2_11 := (t11.frozen (g := b) (o := o + j * 9 + 2) (Nat.lt_of_lt_of_le hbl M10.touch.size) Hmb9.out).trans z2_10; clear z2_10
      have k3_11 := (t11.cell (g := b) (o := o + j * 9 + 3) (Nat.lt_of_lt_of_le hbl M10.touch.size) Hmb9.out).trans k3_10; clear k3_10
      have z3_11 := (t11.frozen (g := b) (o := o + j * 9 + 3) (Nat.lt_of_lt_of_le hbl M10.touch.size) Hmb9.out).trans z3_10; clear z3_10
      have k4_11 := (t11.cell (g := b) (o := o + j * 9 + 4) (Nat.lt_of_lt_of_le hbl M10.touch.size) Hmb9.out).trans k4_10; clear k4_10
      have z4_11 := (t11.frozen (g := b) (o := o + j * 9 + 4) (Nat.lt_of_lt_of_le hbl M10.touch.size) Hmb9.out).trans z4_10; clear z4_10
      have k5_11 := (t11.cell (g := b) (o := o + j * 9 + 5) (Nat.lt_of_lt_of_le hbl M10.touch.size) Hmb9.out).trans k5_10; clear k5_10
      have z5_11 := (t11.frozen (g := b) (o := o + j * 9 + 5) (Nat.lt_of_lt_of_le hbl M10.touch.size) Hmb9.out).trans z5_10; clear z5_10
      have k6_11 := (t11.cell (g := b) (o := o + j * 9 + 6) (Nat.lt_of_lt_of_le hbl M10.touch.size) Hmb9.out).trans k6_10; clear k6_10
      have z6_11 := (t11.frozen (g := b) (o := o + j * 9 + 6) (Nat.lt_of_lt_of_le hbl M10.touch.size) Hmb9.out).trans z6_10; clear z6_10
      have k7_11 := (t11.cell (g := b) (o := o + j * 9 + 7) (Nat.lt_of_lt_of_le hbl M10.touch.size) Hmb9.out).trans k7_10; clear k7_10
      have z7_11 := (t11.frozen (g := b) (o := o + j * 9 + 7) (Nat.lt_of_lt_of_le hbl M10.touch.size) Hmb9.out).trans z7_10; clear z7_10
      have k8_11 := (t11.cell (g := b) (o := o + j * 9 + 8) (Nat.lt_of_lt_of_le hbl M10.touch.size) Hmb9.out).trans k8_10; clear k8_10
      have z8_11 := (t11.frozen (g := b) (o := o + j * 9 + 8) (Nat.lt_of_lt_of_le hbl M10.touch.size) Hmb9.out).trans z8_10; clear z8_10
      have R2_11 := Lib.hid (Rep.keep _ R2_10.out (t11.keeps fun y hy => ⟨Rep.lt _ R2_10.out y hy, Hdj_d2_d9.out y hy⟩)); clear R2_10
      have R5_11 := Lib.hid (Rep.keep _ R5_10.out (t11.keeps fun y hy => ⟨Rep.lt _ R5_10.out y hy, Hdj_d5_d9.out y hy⟩)); clear R5_10
      have R8_11 := Lib.hid (Rep.keep _ R8_10.out (t11.keeps fun y hy => ⟨Rep.lt _ R8_10.out y hy, Hdj_d8_d9.out y hy⟩)); clear R8_10
      have R9_11 := Lib.hid r11; clear r11 R9_10
      clear t11
      have MM := Lib.hid M11
      go_wp2
      go_roundw
      case rel =>
        have rx : Rep _ (Stm.mkE (q + ((cntL Stm.cntE (xs.take j) : Nat) : Int)) xs[j]).d _ (d2 ++ d5 ++ d8 ++ d9) := Rep.stm_iff.2 ⟨_, _, _, _, _, _, _, _, _, _, _, _, rfl, rfl, (by first | exact mtext_le _ | (simp only [Stm.mkE]; exact mtext_le _)), (by simp only [Stm.mkE, seqI_len, mkL_len]; exact R2_11.out), (by have := h1; simp only [Stm.cntE] at hle; unfold I64; simp only [Stm.mkE]; omega), (by have := h1; simp only [Stm.cntE] at hle; unfold I64; simp only [Stm.mkE]; omega), (by simp only [Stm.mkE, seqI_len, mkL_len]; exact R5_11.out), (by have := h1; simp only [Stm.cntE] at hle; unfold I64; simp only [Stm.mkE]; omega), (by first | exact mtext_le _ | (simp only [Stm.mkE]; exact mtext_le _)), (by simp only [Stm.mkE, seqI_len, mkL_len]; exact R8_11.out), (by simp only [Stm.mkE, seqI_len, mkL_len]; exact R9_11.out)⟩
        have rs := HS.out _ (Stm.mkE (q + ((cntL Stm.cntE (xs.take j) : Nat) : Int)) xs[j]) _ rx MM.out.touch MM.out.frozen (fun jj u hu => by
          match jj, hu with
          | 0, hu => simp only [List.getElem?_cons_zero, List.getElem?_cons_succ, Option.some.injEq] at hu; subst hu; first | exact k0_11 | simpa [Stm.mkE, seqI_len, mkL_len] using k0_11
          | 1, hu => simp only [List.getElem?_cons_zero, List.getElem?_cons_succ, Option.some.injEq] at hu; subst hu; first | exact k1_11 | simpa [Stm.mkE, seqI_len, mkL_len] using k1_11
          | 2, hu => simp only [List.getElem?_cons_zero, List.getElem?_cons_succ, Option.some.injEq] at hu; subst hu; first | exact k2_11 | simpa [Stm.mkE, seqI_len, mkL_len] using k2_11
          | 3, hu => simp only [List.getElem?_cons_zero, List.getElem?_cons_succ, Option.some.injEq] at hu; subst hu; first | exact k3_11 | simpa [Stm.mkE, seqI_len, mkL_len] using k3_11
          | 4, hu => simp only [List.getElem?_cons_zero, List.getElem?_cons_succ, Option.some.injEq] at hu; subst hu; first | exact k4_11 | simpa [Stm.mkE, seqI_len, mkL_len] using k4_11
          | 5, hu => simp only [List.getElem?_cons_zero, List.getElem?_cons_succ, Option.some.injEq] at hu; subst hu; first | exact k5_11 | simpa [Stm.mkE, seqI_len, mkL_len] using k5_11
          | 6, hu => simp only [List.getElem?_cons_zero, List.getElem?_cons_succ, Option.some.injEq] at hu; subst hu; first | exact k6_11 | simpa [Stm.mkE, seqI_len, mkL_len] using k6_11
          | 7, hu => simp only [List.getElem?_cons_zero, List.getElem?_cons_succ, Option.some.injEq] at hu; subst hu; first | exact k7_11 | simpa [Stm.mkE, seqI_len, mkL_len] using k7_11
          | 8, hu => simp only [List.getElem?_cons_zero, List.getElem?_cons_succ, Option.some.injEq] at hu; subst hu; first | exact k8_11 | simpa [Stm.mkE, seqI_len, mkL_len] using k8_11
          | jj + 9, hu => simp at hu) MM.out.other
        rw [mkTo_set hlt] at rs
        exact ⟨j + 1, by omega, by go_num, int_eq (by rw [HC.out]; simp only [Stm.cntE]; omega), rs, ht.trans (MM.out.touch.mono fun y hy => by rcases List.mem_cons.1 hy with rfl | hy; exact hbb; exact Hhlow.out y hy)⟩
      case measure => simp [intOf]; omega
    · have hjj : j = xs.length := by omega
      subst hjj
      rw [mkTo_all] at hr0
      go_wp2
      go_ret
      exact ⟨ret_int (by rw [List.take_length]), hr0, ht⟩

end Go.Proofs.YtpmgmekbnbligaaGreat
