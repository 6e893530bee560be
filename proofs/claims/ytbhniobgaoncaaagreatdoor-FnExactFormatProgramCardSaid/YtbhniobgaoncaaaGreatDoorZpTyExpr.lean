/- The Go type Expr: how it reads; the law package's functions on it and on slices of it. Printed by tygen.py. -/
import Derived.Test.YtbhniobgaoncaaaGreatDoorZpTyAccess
set_option linter.all false
set_option linter.unusedSimpArgs false
set_option linter.unusedVariables false
namespace Go.Proofs.YtbhniobgaoncaaaGreatDoor
open Go.ChangeShapes Go.WideShapes Go.ChangeAt Go.RowKit Go.Deep

structure Ex where
  kind : Int
  num : Int
  index : Aff
  read : Acc
  kids : List Ex
mutual
def Ex.d : Ex → D
  | ⟨kind, num, index, read, kids⟩ => .st [.int kind, .int num, index.d, read.d, .sl (Ex.ds kids)]
def Ex.ds : List Ex → List D
  | [] => []
  | x :: xs => x.d :: Ex.ds xs
end
theorem Ex.ds_eq : (xs : List Ex) → Ex.ds xs = xs.map Ex.d
  | [] => rfl
  | x :: xs => by simp only [Ex.ds, List.map_cons, Ex.ds_eq xs]
theorem Ex.d_eq (x : Ex) : x.d = .st [.int x.kind, .int x.num, x.index.d, x.read.d, sls Ex.d x.kids] := by cases x; simp only [Ex.d, Ex.ds_eq, sls]
theorem Ex.size_kid {x y : Ex} (h : y ∈ x.kids) : SizeOf.sizeOf y < SizeOf.sizeOf x := by
  obtain ⟨kind, num, index, read, kids⟩ := x
  have h1 := List.sizeOf_lt_of_mem h
  simp only [Ex.mk.sizeOf_spec]
  dsimp only at h1
  omega
theorem Ex.ind {P : Ex → Prop} (h : ∀ x, (∀ y ∈ x.kids, P y) → P x) (x : Ex) : P x := h x fun y hy => Ex.ind h y
termination_by SizeOf.sizeOf x
decreasing_by exact Ex.size_kid (by assumption)
theorem Ex.d_size (x : Ex) : x.d.size = 7 := by rw [Ex.d_eq]; rfl
theorem Rep.ex_iff {w : World} {x : Ex} {cs : List Value} {bs : List Nat} : Rep w x.d cs bs ↔ ∃ (A3 : Option Addr) (c3 : Nat) (A6 : Option Addr) (c6 : Nat) (A7 : Option Addr) (c7 : Nat) (d3 : List Nat) (d6 : List Nat) (d7 : List Nat), cs = [.int .i64 x.kind, .int .i64 x.num, .slice A3 x.index.coefs.length c3, .int .i64 x.index.const, .string x.read.arr, .slice A6 x.read.subs.length c6, .slice A7 x.kids.length c7] ∧ bs = d3 ++ d6 ++ d7 ∧ I64 x.kind ∧ I64 x.num ∧ Rep w (ints x.index.coefs) [.slice A3 x.index.coefs.length c3] d3 ∧ I64 x.index.const ∧ x.read.arr.size ≤ maxLen ∧ Rep w (sls Aff.d x.read.subs) [.slice A6 x.read.subs.length c6] d6 ∧ Rep w (sls Ex.d x.kids) [.slice A7 x.kids.length c7] d7 := by
  constructor
  · intro h
    rw [Ex.d_eq] at h
    replace h : Reps w [.int x.kind, .int x.num, x.index.d, x.read.d, sls Ex.d x.kids] cs bs := h
    obtain ⟨_, _, _, _, rfl, rfl, g1, h⟩ := h
    obtain ⟨_, _, _, _, rfl, rfl, g2, h⟩ := h
    obtain ⟨_, _, _, _, rfl, rfl, g3, h⟩ := h
    obtain ⟨_, _, _, _, rfl, rfl, g4, h⟩ := h
    obtain ⟨_, _, _, _, rfl, rfl, g5, h⟩ := h
    obtain ⟨rfl, rfl⟩ := h
    obtain ⟨rfl, rfl, g1⟩ := g1
    obtain ⟨rfl, rfl, g2⟩ := g2
    obtain ⟨A1_3, c1_3, d1_3, rfl, rfl, g3_1, g3_2⟩ := Rep.aff_iff2.1 g3
    obtain ⟨A2_4, c2_4, d2_4, rfl, rfl, g4_1, g4_2⟩ := Rep.acc_iff.1 g4
    obtain ⟨B5, e5, rfl, _⟩ := g5.sls_form
    exact ⟨_, _, _, _, _, _, _, _, _, rfl, by simp, g1, g2, g3_1, g3_2, g4_1, g4_2, g5⟩
  · rintro ⟨A3, c3, A6, c6, A7, c7, d3, d6, d7, rfl, rfl, g1, g2, g3, g4, g5, g6, g7⟩
    have h : Reps w [.int x.kind, .int x.num, x.index.d, x.read.d, sls Ex.d x.kids] _ _ := ⟨_, _, _, _, rfl, rfl, ⟨rfl, rfl, g1⟩, ⟨_, _, _, _, rfl, rfl, ⟨rfl, rfl, g2⟩, ⟨_, _, _, _, rfl, rfl, (Rep.aff_iff2.2 ⟨_, _, _, rfl, rfl, g3, g4⟩), ⟨_, _, _, _, rfl, rfl, (Rep.acc_iff.2 ⟨_, _, _, rfl, rfl, g5, g6⟩), ⟨_, _, _, _, rfl, rfl, g7, ⟨rfl, rfl⟩⟩⟩⟩⟩⟩
    replace h : Rep w (.st [.int x.kind, .int x.num, x.index.d, x.read.d, sls Ex.d x.kids]) _ _ := h
    rw [← Ex.d_eq] at h
    simpa using h

def EqEx (x : Ex) : Prop := ∀ (w : World) (cs cs' : List Value) (bs bs' : List Nat), Rep w x.d cs bs → Rep w x.d cs' bs' →
    Calls Tryz.prog 59 #[.agg cs.toArray, .agg cs'.toArray] w fun e w' => e = .returned (.bool true) ∧ Below w.heap.size w w'

set_option maxHeartbeats 1000000 in
theorem eqExprS_r {xs : List Ex} (hrec : ∀ x ∈ xs, EqEx x) {w : World} {A B : Option Addr} {n m c d : Nat} {bs bs' : List Nat} (hA : Rep w (sls Ex.d xs) [.slice A n c] bs) (hB : Rep w (sls Ex.d xs) [.slice B m d] bs') :
    Calls Tryz.prog 107 #[.slice A n c, .slice B m d] w fun e w' => e = .returned (.bool true) ∧ Below w.heap.size w w' := by
  have HREC := Lib.hid hrec; clear hrec
  obtain ⟨rfl, h1, h2⟩ := hA.sls_len
  obtain ⟨rfl, _, _⟩ := hB.sls_len
  have hn : xs.length ≤ 9223372036854775807 := Nat.le_trans h1 h2
  clear h1 h2
  have hl1 : ((xs.length : Int) != (xs.length : Int)) = false := by simp
  have HA := Lib.hid hA; clear hA
  have HB := Lib.hid hB; clear hB
  go_enter Tryz.func107, Tryz.ntmps107
  go_wp2
  go_loopw [5] (fun i wr => ∃ k : Nat, k ≤ xs.length ∧ i = .int .i64 k ∧ Below w.heap.size w wr) (fun i _ => xs.length - (intOf i).toNat)
  case atStart => exact ⟨0, Nat.zero_le _, rfl, Below.refl _ _⟩
  case round =>
    obtain ⟨k, hk, rfl, hb⟩ := hrel
    by_cases hlt : k < xs.length
    · obtain ⟨b, o, cs, l, rfl, hbl, hr, _, _, hc⟩ := (HA.out.below hb).sls_at Ex.d_size hlt
      have G := Lib.hid hr
      obtain ⟨A3, c3, A6, c6, A7, c7, d3, d6, d7, rfl, rfl, g1, g2, g3, g4, g5, g6, g7⟩ := Rep.ex_iff.1 hr
      have k0 := (hc 0 _ rfl).1; rw [Nat.add_zero] at k0
      have k1 := (hc 1 _ rfl).1
      have k2 := (hc 2 _ rfl).1
      have k3 := (hc 3 _ rfl).1
      have k4 := (hc 4 _ rfl).1
      have k5 := (hc 5 _ rfl).1
      have k6 := (hc 6 _ rfl).1
      clear hc hr g1 g2 g3 g4 g5 g6 g7
      obtain ⟨b', o', cs', l', rfl, hbl', hr', _, _, hc'⟩ := (HB.out.below hb).sls_at Ex.d_size hlt
      have G' := Lib.hid hr'
      obtain ⟨A3', c3', A6', c6', A7', c7', d3', d6', d7', rfl, rfl, g1', g2', g3', g4', g5', g6', g7'⟩ := Rep.ex_iff.1 hr'
      have k0' := (hc' 0 _ rfl).1; rw [Nat.add_zero] at k0'
      have k1' := (hc' 1 _ rfl).1
      have k2' := (hc' 2 _ rfl).1
      have k3' := (hc' 3 _ rfl).1
      have k4' := (hc' 4 _ rfl).1
      have k5' := (hc' 5 _ rfl).1
      have k6' := (hc' 6 _ rfl).1
      clear hc' hr' g1' g2' g3' g4' g5' g6' g7'
      go_wp2_with fail
      go_region_held3 (fun w' => w'.cell? ⟨b, o + k * 7, none⟩ = some (.int .i64 xs[k].kind) ∧ w'.cell? ⟨b, o + k * 7 + 1, none⟩ = some (.int .i64 xs[k].num) ∧ w'.cell? ⟨b, o + k * 7 + 2, none⟩ = some (.slice A3 xs[k].index.coefs.length c3) ∧ w'.cell? ⟨b, o + k * 7 + 3, none⟩ = some (.int .i64 xs[k].index.const) ∧ w'.cell? ⟨b, o + k * 7 + 4, none⟩ = some (.string xs[k].read.arr) ∧ w'.cell? ⟨b, o + k * 7 + 5, none⟩ = some (.slice A6 xs[k].read.subs.length c6) ∧ w'.cell? ⟨b, o + k * 7 + 6, none⟩ = some (.slice A7 xs[k].kids.length c7) ∧ w'.cell? ⟨b', o' + k * 7, none⟩ = some (.int .i64 xs[k].kind) ∧ w'.cell? ⟨b', o' + k * 7 + 1, none⟩ = some (.int .i64 xs[k].num) ∧ w'.cell? ⟨b', o' + k * 7 + 2, none⟩ = some (.slice A3' xs[k].index.coefs.length c3') ∧ w'.cell? ⟨b', o' + k * 7 + 3, none⟩ = some (.int .i64 xs[k].index.const) ∧ w'.cell? ⟨b', o' + k * 7 + 4, none⟩ = some (.string xs[k].read.arr) ∧ w'.cell? ⟨b', o' + k * 7 + 5, none⟩ = some (.slice A6' xs[k].read.subs.length c6') ∧ w'.cell? ⟨b', o' + k * 7 + 6, none⟩ = some (.slice A7' xs[k].kids.length c7')) (first | exact ⟨k0, k1, k2, k3, k4, k5, k6, k0', k1', k2', k3', k4', k5', k6'⟩ | exact ⟨(by rw [b1.cell hbl]; exact k0), (by rw [b1.cell hbl]; exact k1), (by rw [b1.cell hbl]; exact k2), (by rw [b1.cell hbl]; exact k3), (by rw [b1.cell hbl]; exact k4), (by rw [b1.cell hbl]; exact k5), (by rw [b1.cell hbl]; exact k6), (by rw [b1.cell hbl']; exact k0'), (by rw [b1.cell hbl']; exact k1'), (by rw [b1.cell hbl']; exact k2'), (by rw [b1.cell hbl']; exact k3'), (by rw [b1.cell hbl']; exact k4'), (by rw [b1.cell hbl']; exact k5'), (by rw [b1.cell hbl']; exact k6')⟩ | skip)
        (first | (go_at_call 59; refine (HREC.out _ (List.getElem_mem hlt) _ _ _ _ _ (G.out.drewN 1) (G'.out.drewN 1)).mono ?_; rintro e w1 ⟨rfl, b1⟩; replace b1 := of_drew b1))
      have S1 := below_tr hb b1
      clear b1
      go_wp2
      go_roundw
      case rel => exact ⟨k + 1, by omega, by go_num, S1⟩
      case measure => simp [intOf]; omega
    · go_wp2
      go_ret
      exact ⟨rfl, hb⟩

set_option maxHeartbeats 1000000 in
theorem eqExpr_r {x : Ex} (hrec : ∀ y ∈ x.kids, EqEx y) {w : World} {cs cs' : List Value} {bs bs' : List Nat} (h : Rep w x.d cs bs) (h' : Rep w x.d cs' bs') :
    Calls Tryz.prog 59 #[.agg cs.toArray, .agg cs'.toArray] w fun e w' => e = .returned (.bool true) ∧ Below w.heap.size w w' := by
  have HREC := Lib.hid hrec; clear hrec
  have H := Lib.hid h
  have H' := Lib.hid h'
  obtain ⟨A3, c3, A6, c6, A7, c7, d3, d6, d7, rfl, rfl, g1, g2, g3, g4, g5, g6, g7⟩ := Rep.ex_iff.1 h
  obtain ⟨A3', c3', A6', c6', A7', c7', d3', d6', d7', rfl, rfl, g1', g2', g3', g4', g5', g6', g7'⟩ := Rep.ex_iff.1 h'
  have q1 : (x.kind != x.kind) = false := by simp
  have q2 : (x.num != x.num) = false := by simp
  have G3 := Lib.hid ((Rep.aff_iff2 (x := x.index)).2 ⟨_, _, _, rfl, rfl, g3, g4⟩)
  have G3' := Lib.hid ((Rep.aff_iff2 (x := x.index)).2 ⟨_, _, _, rfl, rfl, g3', g4'⟩)
  have G5 := Lib.hid ((Rep.acc_iff (x := x.read)).2 ⟨_, _, _, rfl, rfl, g5, g6⟩)
  have G5' := Lib.hid ((Rep.acc_iff (x := x.read)).2 ⟨_, _, _, rfl, rfl, g5', g6'⟩)
  have G7 := Lib.hid g7
  have G7' := Lib.hid g7'
  clear h h' H H' g1 g1' g2 g2' g3 g3' g4 g4' g5 g5' g6 g6' g7 g7'
  go_enter Tryz.func59, Tryz.ntmps59
  go_wp2_with fail
  refine (eqAffine_d (G3.out.below bel) (G3'.out.below bel)).mono ?_
  rintro e w1 ⟨rfl, b1⟩
  have P1 : Box7 w1 w.heap.size (.int .i64 x.kind) (.int .i64 x.num) (.slice A3 x.index.coefs.length c3) (.int .i64 x.index.const) (.string x.read.arr) (.slice A6 x.read.subs.length c6) (.slice A7 x.kids.length c7) := by
    refine ⟨?_, ?_, ?_, ?_, ?_, ?_, ?_⟩ <;> (rw [b1.cell (by simp; try omega)]; go_simp)
  have Q1 : Box7 w1 (w.heap.size + 1) (.int .i64 x.kind) (.int .i64 x.num) (.slice A3' x.index.coefs.length c3') (.int .i64 x.index.const) (.string x.read.arr) (.slice A6' x.read.subs.length c6') (.slice A7' x.kids.length c7') := by
    refine ⟨?_, ?_, ?_, ?_, ?_, ?_, ?_⟩ <;> (rw [b1.cell (by simp; try omega)]; go_simp)
  have S1 : Below w.heap.size w w1 := bel
  clear b1
  go_wp2_with fail
  refine (eqAccess_c (G5.out.below bel) (G5'.out.below bel)).mono ?_
  rintro e w2 ⟨rfl, b2⟩
  have P2 := P1.to b2; clear P1
  have Q2 := Q1.to b2; clear Q1
  have S2 := below_tr S1 b2
  clear b2
  go_wp2_with fail
  refine (eqExprS_r HREC.out (G7.out.below bel) (G7'.out.below bel)).mono ?_
  rintro e w3 ⟨rfl, b3⟩
  have P3 := P2.to b3; clear P2
  have Q3 := Q2.to b3; clear Q2
  have S3 := below_tr S2 b3
  clear b3
  go_wp2
  go_ret
  exact ⟨rfl, bel⟩

theorem eqExpr_all (x : Ex) : EqEx x := Ex.ind (P := EqEx) (fun x hx => fun w cs cs' bs bs' h h' => eqExpr_r hx h h') x
theorem eqExpr_c {w : World} {x : Ex} {cs cs' : List Value} {bs bs' : List Nat} (h : Rep w x.d cs bs) (h' : Rep w x.d cs' bs') : Calls Tryz.prog 59 #[.agg cs.toArray, .agg cs'.toArray] w fun e w' => e = .returned (.bool true) ∧ Below w.heap.size w w' := eqExpr_all x _ _ _ _ _ h h'

def SzEx (x : Ex) : Prop := ∀ (w : World) (cs : List Value) (bs : List Nat) (left : Int), Rep w x.d cs bs → 0 ≤ left → left ≤ 1048576 →
    Calls Tryz.prog 220 #[.agg cs.toArray, .int .i64 left] w fun e w' => e = .returned (.int .i64 (szR left (szD x.d))) ∧ Below w.heap.size w w'

set_option maxHeartbeats 2000000 in
theorem szExprS_r {xs : List Ex} (hrec : ∀ x ∈ xs, SzEx x) {w : World} {A : Option Addr} {n c : Nat} {bs : List Nat} {left : Int} (h : Rep w (sls Ex.d xs) [.slice A n c] bs) (h0 : 0 ≤ left) (h1 : left ≤ 1048576) :
    Calls Tryz.prog 253 #[.slice A n c, .int .i64 left] w fun e w' => e = .returned (.int .i64 (szR left (szD (sls Ex.d xs)))) ∧ Below w.heap.size w w' := by
  have HREC := Lib.hid hrec; clear hrec
  obtain ⟨rfl, h2, h3⟩ := h.sls_len
  have hn : xs.length ≤ 9223372036854775807 := Nat.le_trans h2 h3
  have H := Lib.hid h; clear h h2 h3
  have HT := Lib.hid (szD_sls Ex.d xs)
  by_cases hs : left - ((xs.length : Nat) : Int) < 0
  · have hr := Lib.hid (show szR left (szD (sls Ex.d xs)) = -1 from szR_neg (by rw [HT.out]; omega))
    go_enter Tryz.func253, Tryz.ntmps253
    go_wp2
    go_ret
    exact ⟨ret_int hr.out.symm, bel⟩
  have hp : 0 ≤ left - ((xs.length : Nat) : Int) := by omega
  clear hs
  go_enter Tryz.func253, Tryz.ntmps253
  go_wp2
  go_loopw [1, 5] (fun u i wr => ∃ j : Nat, j ≤ xs.length ∧ i = .int .i64 j ∧ u = .int .i64 (left - ((xs.length : Nat) : Int) - ((szTo Ex.d xs j : Nat) : Int)) ∧ 0 ≤ left - ((xs.length : Nat) : Int) - ((szTo Ex.d xs j : Nat) : Int) ∧ Below w.heap.size w wr) (fun _ i _ => xs.length - (intOf i).toNat)
  case atStart => exact ⟨0, Nat.zero_le _, rfl, int_eq (by simp [szTo_zero]), by rw [szTo_zero]; omega, Below.refl _ _⟩
  case round =>
    obtain ⟨j, hj, rfl, rfl, hge, hb⟩ := hrel
    by_cases hlt : j < xs.length
    · have HD := Lib.hid (szTo_succ Ex.d hlt)
      have HE := Lib.hid (szTo_le Ex.d (xs := xs) (j + 1))
      obtain ⟨b, o, cs, l, rfl, hbl, hr, _, _, hc⟩ := (H.out.below hb).sls_at Ex.d_size (k := j) hlt
      have G := Lib.hid hr
      obtain ⟨A3, c3, A6, c6, A7, c7, d3, d6, d7, rfl, rfl, g1, g2, g3, g4, g5, g6, g7⟩ := Rep.ex_iff.1 hr
      have k0 := (hc 0 _ rfl).1; rw [Nat.add_zero] at k0
      have k1 := (hc 1 _ rfl).1
      have k2 := (hc 2 _ rfl).1
      have k3 := (hc 3 _ rfl).1
      have k4 := (hc 4 _ rfl).1
      have k5 := (hc 5 _ rfl).1
      have k6 := (hc 6 _ rfl).1
      clear hc hr g1 g2 g3 g4 g5 g6 g7
      by_cases hx : left - ((xs.length : Nat) : Int) - ((szTo Ex.d xs j : Nat) : Int) - ((szD (Ex.d xs[j]) : Nat) : Int) < 0
      · have HN := Lib.hid (szR_neg hx)
        have hr2 := Lib.hid (show szR left (szD (sls Ex.d xs)) = -1 from szR_neg (by have h4 := HE.out; rw [HD.out] at h4; rw [HT.out]; omega))
        go_wp2_with fail
        refine (HREC.out _ (List.getElem_mem hlt) _ _ _ _ G.out (by omega) (by omega)).mono ?_
        rintro e w1 ⟨rfl, b1⟩
        rw [HN.out]
        go_wp2
        go_ret
        exact ⟨ret_int hr2.out.symm, below_tr hb b1⟩
      · have HN := Lib.hid (szR_pos (left := left - ((xs.length : Nat) : Int) - ((szTo Ex.d xs j : Nat) : Int)) (tot := szD (Ex.d xs[j])) (by omega))
        have hge2 : 0 ≤ left - ((xs.length : Nat) : Int) - ((szTo Ex.d xs j : Nat) : Int) - ((szD (Ex.d xs[j]) : Nat) : Int) := by omega
        go_wp2_with fail
        refine (HREC.out _ (List.getElem_mem hlt) _ _ _ _ G.out (by omega) (by omega)).mono ?_
        rintro e w1 ⟨rfl, b1⟩
        rw [HN.out]
        go_wp2
        go_roundw
        case rel => exact ⟨j + 1, by omega, by go_num, int_eq (by rw [HD.out]; omega), by rw [HD.out]; omega, below_tr hb b1⟩
        case measure => simp [intOf]; omega
    · have hjj : j = xs.length := by omega
      subst hjj
      have hr2 := Lib.hid (show szR left (szD (sls Ex.d xs)) = left - ((xs.length : Nat) : Int) - ((szTo Ex.d xs xs.length : Nat) : Int) by rw [szTo_all, szR_pos (by rw [HT.out]; rw [szTo_all] at hge; omega), HT.out]; omega)
      go_wp2
      go_ret
      exact ⟨ret_int hr2.out.symm, hb⟩

theorem szD_ex (x : Ex) : szD x.d = szD x.index.d + szD x.read.d + szD (sls Ex.d x.kids) := by
  have h : szD x.d = szDs [.int x.kind, .int x.num, x.index.d, x.read.d, sls Ex.d x.kids] := by simp only [Ex.d_eq, szD]
  rw [h]; simp only [szDs, szD, szD_ints]; omega
set_option maxHeartbeats 2000000 in
theorem szExpr_r {x : Ex} (hrec : ∀ y ∈ x.kids, SzEx y) {w : World} {cs : List Value} {bs : List Nat} {left : Int} (h : Rep w x.d cs bs) (h0 : 0 ≤ left) (h1 : left ≤ 1048576) :
    Calls Tryz.prog 220 #[.agg cs.toArray, .int .i64 left] w fun e w' => e = .returned (.int .i64 (szR left (szD x.d))) ∧ Below w.heap.size w w' := by
  have HREC := Lib.hid hrec; clear hrec
  obtain ⟨A3, c3, A6, c6, A7, c7, d3, d6, d7, rfl, rfl, g1, g2, g3, g4, g5, g6, g7⟩ := Rep.ex_iff.1 h
  rw [szD_ex x]
  have G3 := Lib.hid ((Rep.aff_iff2 (x := x.index)).2 ⟨_, _, _, rfl, rfl, g3, g4⟩)
  have G5 := Lib.hid ((Rep.acc_iff (x := x.read)).2 ⟨_, _, _, rfl, rfl, g5, g6⟩)
  have G7 := Lib.hid g7
  clear h g1 g2 g3 g4 g5 g6 g7
  by_cases hs0 : (left : Int) - ((szD x.index.d : Nat) : Int) < 0
  · have HR := Lib.hid (show szR left (szD x.index.d + szD x.read.d + szD (sls Ex.d x.kids)) = -1 from szR_neg (by omega))
    have HS0 := Lib.hid (szR_neg hs0)
    go_enter Tryz.func220, Tryz.ntmps220
    go_wp2_with fail
    refine (szAffine_d (G3.out.below bel) (by omega) (by omega)).mono ?_
    rintro e w1 ⟨rfl, b1⟩
    rw [HS0.out]
    have P1 : Box7 w1 w.heap.size (.int .i64 x.kind) (.int .i64 x.num) (.slice A3 x.index.coefs.length c3) (.int .i64 x.index.const) (.string x.read.arr) (.slice A6 x.read.subs.length c6) (.slice A7 x.kids.length c7) := by
      refine ⟨?_, ?_, ?_, ?_, ?_, ?_, ?_⟩ <;> (rw [b1.cell (by simp; try omega)]; go_simp)
    have S1 : Below w.heap.size w w1 := bel
    clear b1
    go_wp2
    go_ret
    exact ⟨ret_int HR.out.symm, bel⟩
  · have HS0 := Lib.hid (szR_pos (left := left) (tot := szD x.index.d) (by omega))
    have hp0 : 0 ≤ left - ((szD x.index.d : Nat) : Int) := by omega
    clear hs0
    by_cases hs1 : (left - ((szD x.index.d : Nat) : Int) : Int) - ((szD x.read.d : Nat) : Int) < 0
    · have HR := Lib.hid (show szR left (szD x.index.d + szD x.read.d + szD (sls Ex.d x.kids)) = -1 from szR_neg (by omega))
      have HS1 := Lib.hid (szR_neg hs1)
      go_enter Tryz.func220, Tryz.ntmps220
      go_wp2_with fail
      refine (szAffine_d (G3.out.below bel) (by omega) (by omega)).mono ?_
      rintro e w1 ⟨rfl, b1⟩
      rw [HS0.out]
      have P1 : Box7 w1 w.heap.size (.int .i64 x.kind) (.int .i64 x.num) (.slice A3 x.index.coefs.length c3) (.int .i64 x.index.const) (.string x.read.arr) (.slice A6 x.read.subs.length c6) (.slice A7 x.kids.length c7) := by
        refine ⟨?_, ?_, ?_, ?_, ?_, ?_, ?_⟩ <;> (rw [b1.cell (by simp; try omega)]; go_simp)
      have S1 : Below w.heap.size w w1 := bel
      clear b1
      go_wp2_with fail
      refine (szAccess_c (G5.out.below bel) (by omega) (by omega)).mono ?_
      rintro e w2 ⟨rfl, b2⟩
      rw [HS1.out]
      have P2 := P1.to b2; clear P1
      have S2 := below_tr S1 b2
      clear b2
      go_wp2
      go_ret
      exact ⟨ret_int HR.out.symm, bel⟩
    · have HS1 := Lib.hid (szR_pos (left := left - ((szD x.index.d : Nat) : Int)) (tot := szD x.read.d) (by omega))
      have hp1 : 0 ≤ left - ((szD x.index.d : Nat) : Int) - ((szD x.read.d : Nat) : Int) := by omega
      clear hs1
      by_cases hs2 : (left - ((szD x.index.d : Nat) : Int) - ((szD x.read.d : Nat) : Int) : Int) - ((szD (sls Ex.d x.kids) : Nat) : Int) < 0
      · have HR := Lib.hid (show szR left (szD x.index.d + szD x.read.d + szD (sls Ex.d x.kids)) = -1 from szR_neg (by omega))
        have HS2 := Lib.hid (szR_neg hs2)
        go_enter Tryz.func220, Tryz.ntmps220
        go_wp2_with fail
        refine (szAffine_d (G3.out.below bel) (by omega) (by omega)).mono ?_
        rintro e w1 ⟨rfl, b1⟩
        rw [HS0.out]
        have P1 : Box7 w1 w.heap.size (.int .i64 x.kind) (.int .i64 x.num) (.slice A3 x.index.coefs.length c3) (.int .i64 x.index.const) (.string x.read.arr) (.slice A6 x.read.subs.length c6) (.slice A7 x.kids.length c7) := by
          refine ⟨?_, ?_, ?_, ?_, ?_, ?_, ?_⟩ <;> (rw [b1.cell (by simp; try omega)]; go_simp)
        have S1 : Below w.heap.size w w1 := bel
        clear b1
        go_wp2_with fail
        refine (szAccess_c (G5.out.below bel) (by omega) (by omega)).mono ?_
        rintro e w2 ⟨rfl, b2⟩
        rw [HS1.out]
        have P2 := P1.to b2; clear P1
        have S2 := below_tr S1 b2
        clear b2
        go_wp2_with fail
        refine (szExprS_r HREC.out (G7.out.below bel) (by omega) (by omega)).mono ?_
        rintro e w3 ⟨rfl, b3⟩
        rw [HS2.out]
        have P3 := P2.to b3; clear P2
        have S3 := below_tr S2 b3
        clear b3
        go_wp2
        go_ret
        exact ⟨ret_int HR.out.symm, bel⟩
      · have HS2 := Lib.hid (szR_pos (left := left - ((szD x.index.d : Nat) : Int) - ((szD x.read.d : Nat) : Int)) (tot := szD (sls Ex.d x.kids)) (by omega))
        have hp2 : 0 ≤ left - ((szD x.index.d : Nat) : Int) - ((szD x.read.d : Nat) : Int) - ((szD (sls Ex.d x.kids) : Nat) : Int) := by omega
        clear hs2
        have HR := Lib.hid (show szR left (szD x.index.d + szD x.read.d + szD (sls Ex.d x.kids)) = left - ((szD x.index.d : Nat) : Int) - ((szD x.read.d : Nat) : Int) - ((szD (sls Ex.d x.kids) : Nat) : Int) by rw [szR_pos (by omega)] <;> omega)
        go_enter Tryz.func220, Tryz.ntmps220
        go_wp2_with fail
        refine (szAffine_d (G3.out.below bel) (by omega) (by omega)).mono ?_
        rintro e w1 ⟨rfl, b1⟩
        rw [HS0.out]
        have P1 : Box7 w1 w.heap.size (.int .i64 x.kind) (.int .i64 x.num) (.slice A3 x.index.coefs.length c3) (.int .i64 x.index.const) (.string x.read.arr) (.slice A6 x.read.subs.length c6) (.slice A7 x.kids.length c7) := by
          refine ⟨?_, ?_, ?_, ?_, ?_, ?_, ?_⟩ <;> (rw [b1.cell (by simp; try omega)]; go_simp)
        have S1 : Below w.heap.size w w1 := bel
        clear b1
        go_wp2_with fail
        refine (szAccess_c (G5.out.below bel) (by omega) (by omega)).mono ?_
        rintro e w2 ⟨rfl, b2⟩
        rw [HS1.out]
        have P2 := P1.to b2; clear P1
        have S2 := below_tr S1 b2
        clear b2
        go_wp2_with fail
        refine (szExprS_r HREC.out (G7.out.below bel) (by omega) (by omega)).mono ?_
        rintro e w3 ⟨rfl, b3⟩
        rw [HS2.out]
        have P3 := P2.to b3; clear P2
        have S3 := below_tr S2 b3
        clear b3
        go_wp2
        go_ret
        exact ⟨ret_int HR.out.symm, bel⟩

theorem szExpr_all (x : Ex) : SzEx x := Ex.ind (P := SzEx) (fun x hx => fun w cs bs left h h0 h1 => szExpr_r hx h h0 h1) x
theorem szExpr_c {w : World} {x : Ex} {cs : List Value} {bs : List Nat} {left : Int} (h : Rep w x.d cs bs) (h0 : 0 ≤ left) (h1 : left ≤ 1048576) : Calls Tryz.prog 220 #[.agg cs.toArray, .int .i64 left] w fun e w' => e = .returned (.int .i64 (szR left (szD x.d))) ∧ Below w.heap.size w w' := szExpr_all x _ _ _ _ h h0 h1

def ToEx (x : Ex) : Prop := ∀ (w : World) (cs : List Value) (bs : List Nat), Rep w x.d cs bs → szD x.d ≤ 10000000 →
    Calls Tryz.prog 227 #[.agg cs.toArray] w (MadeT w x.d)

theorem Tryz.makeExpr : (Tryz.prog.info? 49).map (fun i => (i.zero, i.size, decide (i.bytes ≤ 1024))) = some (some (.agg #[.int .i64 0, .int .i64 0, .slice none 0 0, .int .i64 0, .string ⟨#[]⟩, .slice none 0 0, .slice none 0 0]), 7, true) := by kernel_rfl
set_option maxHeartbeats 2000000 in
theorem toExprS_r {xs : List Ex} (hrec : ∀ x ∈ xs, ToEx x) {w : World} {A : Option Addr} {n c : Nat} {bs : List Nat} (h : Rep w (sls Ex.d xs) [.slice A n c] bs) (hz : szD (sls Ex.d xs) ≤ 10000000) :
    Calls Tryz.prog 256 #[.slice A n c] w (MadeS w (sls Ex.d xs)) := by
  have HREC := Lib.hid hrec; clear hrec
  obtain ⟨rfl, h2, h3⟩ := h.sls_len
  have hn : xs.length ≤ 9223372036854775807 := Nat.le_trans h2 h3
  have H := Lib.hid h; clear h h2 h3
  have HZ := Lib.hid (show xs.length + szDs (xs.map Ex.d) ≤ 10000000 by rw [← szD_sls]; exact hz); clear hz
  obtain ⟨i0, hi, hzz⟩ := Option.map_eq_some_iff.1 Tryz.makeExpr
  simp only [Prod.mk.injEq, decide_eq_true_iff] at hzz
  have hmk := fun W => run_make_rows (P := Tryz.prog) 47 49 (.agg #[.int .i64 0, .int .i64 0, .slice none 0 0, .int .i64 0, .string ⟨#[]⟩, .slice none 0 0, .slice none 0 0]) 7 i0.bytes Tryz.underlying47 (by rw [hi, Option.map_some, hzz.1, hzz.2.1]) .i64 .i64 xs.length (by
    have h1 := HZ.out
    have h2 := Nat.mul_le_mul hzz.2.2 (show xs.length ≤ 10000000 by omega)
    omega) (by omega) W
  clear hi hzz
  go_enter Tryz.func256, Tryz.ntmps256
  go_wp2
  clear hmk
  have hrow0 := Row.made w (Value.agg #[.int .i64 0, .int .i64 0, .slice none 0 0, .int .i64 0, .string ⟨#[]⟩, .slice none 0 0, .slice none 0 0]).cells (xs.length * 7) 49
  have hlen0 : (madeCells (Value.agg #[.int .i64 0, .int .i64 0, .slice none 0 0, .int .i64 0, .string ⟨#[]⟩, .slice none 0 0, .slice none 0 0]).cells (xs.length * 7)).toList.length = xs.length * 7 := by simp [size_madeCells]
  have HR0 := Lib.hid (And.intro hrow0 hlen0); clear hrow0 hlen0
  go_loopw [4] (fun i wr => ∃ (j : Nat) (es rest : List Value) (cb : List Nat), j ≤ xs.length ∧ i = .int .i64 j ∧ Row wr w.heap.size 49 (es ++ rest) ∧ es.length = j * 7 ∧ rest.length + j * 7 = xs.length * 7 ∧ Reps wr ((xs.take j).map Ex.d) es cb ∧ cb.Nodup ∧ (∀ y ∈ cb, w.heap.size + 1 ≤ y) ∧ Below w.heap.size w wr) (fun i _ => xs.length - (intOf i).toNat)
  case atStart => exact ⟨0, [], _, [], Nat.zero_le _, rfl, HR0.out.1, by simp, by simp; simpa using HR0.out.2, by simp [Reps], by simp, by simp, bel⟩
  case round =>
    obtain ⟨j, es, rest, cb, hj, rfl, hrow, hes, hrest, hreps, hnd, hcb, hb⟩ := hrel
    have HE := Lib.hid (And.intro hes (And.intro hrest (And.intro hreps (And.intro hnd hcb)))); clear hes hrest hreps hnd hcb
    have HROW := Lib.hid hrow; clear hrow
    by_cases hlt : j < xs.length
    · have hsz1 := szTo_succ Ex.d hlt
      have hsz2 := szTo_le Ex.d (xs := xs) (j + 1)
      have HX := Lib.hid (show szD (Ex.d xs[j]) ≤ 10000000 by have := HZ.out; omega); clear hsz1 hsz2
      obtain ⟨b, o, cs, l, rfl, hbl, hr, _, _, hc⟩ := (H.out.below hb).sls_at Ex.d_size (k := j) hlt
      have G := Lib.hid hr
      obtain ⟨A3, c3, A6, c6, A7, c7, d3, d6, d7, rfl, rfl, g1, g2, g3, g4, g5, g6, g7⟩ := Rep.ex_iff.1 hr
      have k0 := (hc 0 _ rfl).1; rw [Nat.add_zero] at k0
      have k1 := (hc 1 _ rfl).1
      have k2 := (hc 2 _ rfl).1
      have k3 := (hc 3 _ rfl).1
      have k4 := (hc 4 _ rfl).1
      have k5 := (hc 5 _ rfl).1
      have k6 := (hc 6 _ rfl).1
      clear hc hr g1 g2 g3 g4 g5 g6 g7
      go_wp2_with fail
      refine (HREC.out _ (List.getElem_mem hlt) _ _ _ G.out HX.out).mono ?_
      rintro e w1 ⟨cs1, bs1, rfl, r1', nd1, hb1, b1⟩
      have R1 := Lib.hid r1'
      obtain ⟨A3r, c3r, A6r, c6r, A7r, c7r, d3r, d6r, d7r, hcs1, _⟩ := Rep.ex_iff.1 r1'
      subst hcs1
      clear r1'
      obtain ⟨hes, hrest, hreps, hnd, hcb⟩ := HE.out
      have hzr := hb.size
      have hg0 := HROW.out.lt
      have hrow1 := HROW.out.to b1
      rcases rest with _ | ⟨u0, rest⟩
      · simp only [List.length_nil] at hrest; omega
      rcases rest with _ | ⟨u1, rest⟩
      · simp only [List.length_cons, List.length_nil] at hrest; omega
      rcases rest with _ | ⟨u2, rest⟩
      · simp only [List.length_cons, List.length_nil] at hrest; omega
      rcases rest with _ | ⟨u3, rest⟩
      · simp only [List.length_cons, List.length_nil] at hrest; omega
      rcases rest with _ | ⟨u4, rest⟩
      · simp only [List.length_cons, List.length_nil] at hrest; omega
      rcases rest with _ | ⟨u5, rest⟩
      · simp only [List.length_cons, List.length_nil] at hrest; omega
      rcases rest with _ | ⟨u6, rest⟩
      · simp only [List.length_cons, List.length_nil] at hrest; omega
      have o0 : w1.cell? ⟨w.heap.size, j * 7, none⟩ = some u0 := by rw [hrow1.cell, List.getElem?_append_right (by omega), hes]; simp
      have f0 : w1.frozen? ⟨w.heap.size, j * 7, none⟩ = false := hrow1.frozen _
      have o1 : w1.cell? ⟨w.heap.size, j * 7 + 1, none⟩ = some u1 := by rw [hrow1.cell, List.getElem?_append_right (by omega), hes]; simp
      have f1 : w1.frozen? ⟨w.heap.size, j * 7 + 1, none⟩ = false := hrow1.frozen _
      have o2 : w1.cell? ⟨w.heap.size, j * 7 + 2, none⟩ = some u2 := by rw [hrow1.cell, List.getElem?_append_right (by omega), hes]; simp
      have f2 : w1.frozen? ⟨w.heap.size, j * 7 + 2, none⟩ = false := hrow1.frozen _
      have o3 : w1.cell? ⟨w.heap.size, j * 7 + 3, none⟩ = some u3 := by rw [hrow1.cell, List.getElem?_append_right (by omega), hes]; simp
      have f3 : w1.frozen? ⟨w.heap.size, j * 7 + 3, none⟩ = false := hrow1.frozen _
      have o4 : w1.cell? ⟨w.heap.size, j * 7 + 4, none⟩ = some u4 := by rw [hrow1.cell, List.getElem?_append_right (by omega), hes]; simp
      have f4 : w1.frozen? ⟨w.heap.size, j * 7 + 4, none⟩ = false := hrow1.frozen _
      have o5 : w1.cell? ⟨w.heap.size, j * 7 + 5, none⟩ = some u5 := by rw [hrow1.cell, List.getElem?_append_right (by omega), hes]; simp
      have f5 : w1.frozen? ⟨w.heap.size, j * 7 + 5, none⟩ = false := hrow1.frozen _
      have o6 : w1.cell? ⟨w.heap.size, j * 7 + 6, none⟩ = some u6 := by rw [hrow1.cell, List.getElem?_append_right (by omega), hes]; simp
      have f6 : w1.frozen? ⟨w.heap.size, j * 7 + 6, none⟩ = false := hrow1.frozen _
      have s0 : Row w1 w.heap.size 49 (es ++ u0 :: u1 :: u2 :: u3 :: u4 :: u5 :: u6 :: rest) := hrow1
      have s1 := s0.set_in (.int .i64 xs[j].kind)
      rw [show (es : List Value).length = j * 7 by simp [hes]] at s1
      have s2 := s1.set_in (.int .i64 xs[j].num)
      rw [show (es ++ [.int .i64 xs[j].kind] : List Value).length = j * 7 + 1 by simp [hes]] at s2
      have s3 := s2.set_in (.slice A3r xs[j].index.coefs.length c3r)
      rw [show (es ++ [.int .i64 xs[j].kind] ++ [.int .i64 xs[j].num] : List Value).length = j * 7 + 2 by simp [hes]] at s3
      have s4 := s3.set_in (.int .i64 xs[j].index.const)
      rw [show (es ++ [.int .i64 xs[j].kind] ++ [.int .i64 xs[j].num] ++ [.slice A3r xs[j].index.coefs.length c3r] : List Value).length = j * 7 + 3 by simp [hes]] at s4
      have s5 := s4.set_in (.string xs[j].read.arr)
      rw [show (es ++ [.int .i64 xs[j].kind] ++ [.int .i64 xs[j].num] ++ [.slice A3r xs[j].index.coefs.length c3r] ++ [.int .i64 xs[j].index.const] : List Value).length = j * 7 + 4 by simp [hes]] at s5
      have s6 := s5.set_in (.slice A6r xs[j].read.subs.length c6r)
      rw [show (es ++ [.int .i64 xs[j].kind] ++ [.int .i64 xs[j].num] ++ [.slice A3r xs[j].index.coefs.length c3r] ++ [.int .i64 xs[j].index.const] ++ [.string xs[j].read.arr] : List Value).length = j * 7 + 5 by simp [hes]] at s6
      have s7 := s6.set_in (.slice A7r xs[j].kids.length c7r)
      rw [show (es ++ [.int .i64 xs[j].kind] ++ [.int .i64 xs[j].num] ++ [.slice A3r xs[j].index.coefs.length c3r] ++ [.int .i64 xs[j].index.const] ++ [.string xs[j].read.arr] ++ [.slice A6r xs[j].read.subs.length c6r] : List Value).length = j * 7 + 6 by simp [hes]] at s7
      have HS := Lib.hid s7; clear s0 s1 s2 s3 s4 s5 s6 s7 hrow1 HROW
      have HM := Lib.hid (And.intro hes (And.intro hrest (And.intro hreps (And.intro hnd (And.intro hcb (And.intro nd1 (And.intro hb1 (And.intro hb b1)))))))); clear hes hrest hreps hnd hcb nd1 hb1 hb b1
      go_wp2
      go_roundw
      case rel =>
        obtain ⟨hes, hrest, hreps, hnd, hcb, nd1, hb1, hb, b1⟩ := HM.out
        have hn1 : w.heap.size ∉ bs1 := fun hm => by have := hb1 _ hm; omega
        have hn2 : w.heap.size ∉ cb := fun hm => by have := hcb _ hm; omega
        refine ⟨j + 1, _, rest, cb ++ bs1, by omega, by go_num, HS.out, by simp [hes]; omega, by simp only [List.length_cons] at hrest; omega, ?_, ?_, ?_, ?_⟩
        · rw [List.take_succ_eq_append_getElem hlt, List.map_append]
          have hk1 := Reps.keep _ hreps (Keeps.of_below b1 (Reps.lt _ hreps))
          rw [show (es ++ [.int .i64 xs[j].kind] ++ [.int .i64 xs[j].num] ++ [.slice A3r xs[j].index.coefs.length c3r] ++ [.int .i64 xs[j].index.const] ++ [.string xs[j].read.arr] ++ [.slice A6r xs[j].read.subs.length c6r] ++ [.slice A7r xs[j].kids.length c7r] : List Value) = es ++ [.int .i64 xs[j].kind, .int .i64 xs[j].num, .slice A3r xs[j].index.coefs.length c3r, .int .i64 xs[j].index.const, .string xs[j].read.arr, .slice A6r xs[j].read.subs.length c6r, .slice A7r xs[j].kids.length c7r] by simp]
          exact reps_snoc (Reps.keep _ hk1 ((((((((Keeps.refl _ _).setCell hn2 _).setCell hn2 _).setCell hn2 _).setCell hn2 _).setCell hn2 _).setCell hn2 _).setCell hn2 _)) (Rep.keep _ R1.out ((((((((Keeps.refl _ _).setCell hn1 _).setCell hn1 _).setCell hn1 _).setCell hn1 _).setCell hn1 _).setCell hn1 _).setCell hn1 _))
        · refine List.nodup_append.2 ⟨hnd, nd1, fun y h1 z h2 e => ?_⟩
          subst e
          have q1 := Reps.lt _ hreps y h1
          have q2 := hb1 y h2
          omega
        · intro y hy
          rcases List.mem_append.1 hy with hy | hy
          · exact hcb y hy
          · have := hb1 y hy; omega
        · exact ((((((((below_tr hb b1).setCell (Nat.le_refl _) _).setCell (Nat.le_refl _) _).setCell (Nat.le_refl _) _).setCell (Nat.le_refl _) _).setCell (Nat.le_refl _) _).setCell (Nat.le_refl _) _).setCell (Nat.le_refl _) _)
      case measure => simp [intOf]; omega
    · have hjj : j = xs.length := by omega
      subst hjj
      obtain ⟨hes, hrest, hreps, hnd, hcb⟩ := HE.out
      rw [List.take_length] at hreps
      have hres := Row.rep HROW.out hreps (c := xs.length) (by simp) (by have := HZ.out; unfold maxLen; omega)
      rw [List.length_map] at hres
      have HF := Lib.hid (And.intro hres (And.intro hnd hcb)); clear hres hnd hcb hreps hes hrest
      go_wp2
      go_ret
      obtain ⟨hres, hnd, hcb⟩ := HF.out
      exact ⟨_, _, _, _, rfl, hres, List.nodup_cons.2 ⟨fun hm => by have := hcb _ hm; omega, hnd⟩, fun y hy => by
        rcases List.mem_cons.1 hy with rfl | hy
        · exact Nat.le_refl _
        · have := hcb y hy; omega, hb⟩

set_option maxHeartbeats 4000000 in
set_option maxRecDepth 100000 in
theorem toExpr_r {x : Ex} (hrec : ∀ y ∈ x.kids, ToEx y) {w : World} {cs : List Value} {bs : List Nat} (h : Rep w x.d cs bs) (hz : szD x.d ≤ 10000000) :
    Calls Tryz.prog 227 #[.agg cs.toArray] w (MadeT w x.d) := by
  have HREC := Lib.hid hrec; clear hrec
  rw [szD_ex] at hz
  obtain ⟨A3, c3, A6, c6, A7, c7, d3, d6, d7, rfl, rfl, g1, g2, g3, g4, g5, g6, g7⟩ := Rep.ex_iff.1 h
  have G3 := Lib.hid ((Rep.aff_iff2 (x := x.index)).2 ⟨_, _, _, rfl, rfl, g3, g4⟩)
  have Z3 := Lib.hid (show szD x.index.d ≤ 10000000 by omega)
  have G5 := Lib.hid ((Rep.acc_iff (x := x.read)).2 ⟨_, _, _, rfl, rfl, g5, g6⟩)
  have Z5 := Lib.hid (show szD x.read.d ≤ 10000000 by omega)
  have G7 := Lib.hid g7
  have Z7 := Lib.hid (show szD (sls Ex.d x.kids) ≤ 10000000 by omega)
  have I1 := Lib.hid g1
  have I2 := Lib.hid g2
  have I4 := Lib.hid g4
  have I5 := Lib.hid g5
  clear h hz g1 g2 g3 g4 g5 g6 g7
  go_enter Tryz.func227, Tryz.ntmps227
  go_wp2_with fail
  refine (toAffine_d (G3.out.below bel) Z3.out).mono ?_
  rintro e w1 ⟨cs1, bs1, rfl, r1, nd1, hy1, b1⟩
  obtain ⟨A1r1, c1r1, d1r1, hcs1, _⟩ := Rep.aff_iff2.1 r1
  subst hcs1
  have hb1 : ∀ y ∈ bs1, w.heap.size + 3 ≤ y := fun y hy => by have := hy1 y hy; (try simp [World.setCell] at this); omega
  have PA1 : w1.cell? ⟨w.heap.size, 0, none⟩ = some (.int .i64 x.kind) ∧ w1.cell? ⟨w.heap.size, 1, none⟩ = some (.int .i64 x.num) ∧ w1.cell? ⟨w.heap.size, 2, none⟩ = some (.slice A3 x.index.coefs.length c3) ∧ w1.cell? ⟨w.heap.size, 3, none⟩ = some (.int .i64 x.index.const) ∧ w1.cell? ⟨w.heap.size, 4, none⟩ = some (.string x.read.arr) ∧ w1.cell? ⟨w.heap.size, 5, none⟩ = some (.slice A6 x.read.subs.length c6) ∧ w1.cell? ⟨w.heap.size, 6, none⟩ = some (.slice A7 x.kids.length c7) := by
    refine ⟨?_, ?_, ?_, ?_, ?_, ?_, ?_⟩ <;> (rw [b1.cell (by simp [World.setCell]; try (omega))]; go_simp)
  have PR1 : w1.cell? ⟨w.heap.size + 1, 0, none⟩ = some (.int .i64 0) ∧ w1.cell? ⟨w.heap.size + 1, 1, none⟩ = some (.int .i64 0) ∧ w1.cell? ⟨w.heap.size + 1, 2, none⟩ = some (.slice none 0 0) ∧ w1.cell? ⟨w.heap.size + 1, 3, none⟩ = some (.int .i64 0) ∧ w1.cell? ⟨w.heap.size + 1, 4, none⟩ = some (.string ⟨#[]⟩) ∧ w1.cell? ⟨w.heap.size + 1, 5, none⟩ = some (.slice none 0 0) ∧ w1.cell? ⟨w.heap.size + 1, 6, none⟩ = some (.slice none 0 0) := by
    refine ⟨?_, ?_, ?_, ?_, ?_, ?_, ?_⟩ <;> (rw [b1.cell (by simp [World.setCell]; try (omega))]; go_simp)
  have PO1 : w1.cell? ⟨w.heap.size + 2, 0, none⟩ = some (.int .i64 x.kind) ∧ w1.cell? ⟨w.heap.size + 2, 1, none⟩ = some (.int .i64 x.num) ∧ w1.cell? ⟨w.heap.size + 2, 2, none⟩ = some (.slice none 0 0) ∧ w1.cell? ⟨w.heap.size + 2, 3, none⟩ = some (.int .i64 0) ∧ w1.cell? ⟨w.heap.size + 2, 4, none⟩ = some (.string ⟨#[]⟩) ∧ w1.cell? ⟨w.heap.size + 2, 5, none⟩ = some (.slice none 0 0) ∧ w1.cell? ⟨w.heap.size + 2, 6, none⟩ = some (.slice none 0 0) := by
    refine ⟨?_, ?_, ?_, ?_, ?_, ?_, ?_⟩ <;> (rw [b1.cell (by simp [World.setCell]; try (omega))]; go_simp)
  have F1 : w1.frozen? ⟨w.heap.size + 1, 0, none⟩ = false ∧ w1.frozen? ⟨w.heap.size + 1, 1, none⟩ = false ∧ w1.frozen? ⟨w.heap.size + 1, 2, none⟩ = false ∧ w1.frozen? ⟨w.heap.size + 1, 3, none⟩ = false ∧ w1.frozen? ⟨w.heap.size + 1, 4, none⟩ = false ∧ w1.frozen? ⟨w.heap.size + 1, 5, none⟩ = false ∧ w1.frozen? ⟨w.heap.size + 1, 6, none⟩ = false ∧ w1.frozen? ⟨w.heap.size + 2, 0, none⟩ = false ∧ w1.frozen? ⟨w.heap.size + 2, 1, none⟩ = false ∧ w1.frozen? ⟨w.heap.size + 2, 2, none⟩ = false ∧ w1.frozen? ⟨w.heap.size + 2, 3, none⟩ = false ∧ w1.frozen? ⟨w.heap.size + 2, 4, none⟩ = false ∧ w1.frozen? ⟨w.heap.size + 2, 5, none⟩ = false ∧ w1.frozen? ⟨w.heap.size + 2, 6, none⟩ = false := by
    refine ⟨?_, ?_, ?_, ?_, ?_, ?_, ?_, ?_, ?_, ?_, ?_, ?_, ?_, ?_⟩ <;> (rw [b1.frozen (by simp [World.setCell]; try (omega))]; go_simp)
  have S1 : Below w.heap.size w w1 := bel
  have ZS1 := Lib.hid (show w.heap.size + 3 ≤ w1.heap.size by have := b1.size; (try simp [World.setCell] at this); omega)
  have RR1_1 := Lib.hid r1; have HB1 := Lib.hid hb1; have ND1 := Lib.hid nd1; have LT1 := Lib.hid (Rep.lt _ r1)
  clear r1 hb1 nd1 hy1 b1
  go_wp2_with fail
  refine (toAccess_c (G5.out.below (by first | with_reducible exact S1 | exact S1.setCell (by simp; try omega) _ | exact (S1.setCell (by simp; try omega) _).setCell (by simp; try omega) _ | exact ((S1.setCell (by simp; try omega) _).setCell (by simp; try omega) _).setCell (by simp; try omega) _)) Z5.out).mono ?_
  rintro e w2 ⟨cs2, bs2, rfl, r2, nd2, hy2, b2⟩
  obtain ⟨A2r2, c2r2, d2r2, hcs2, _⟩ := Rep.acc_iff.1 r2
  subst hcs2
  have hb2 : ∀ y ∈ bs2, w.heap.size + 3 ≤ y := fun y hy => by have := hy2 y hy; (try simp [World.setCell] at this); have := ZS1.out; omega
  have hc2 : ∀ y ∈ bs2, w1.heap.size ≤ y := fun y hy => by have := hy2 y hy; (try simp [World.setCell] at this); omega
  have PA2 : w2.cell? ⟨w.heap.size, 0, none⟩ = some (.int .i64 x.kind) ∧ w2.cell? ⟨w.heap.size, 1, none⟩ = some (.int .i64 x.num) ∧ w2.cell? ⟨w.heap.size, 2, none⟩ = some (.slice A3 x.index.coefs.length c3) ∧ w2.cell? ⟨w.heap.size, 3, none⟩ = some (.int .i64 x.index.const) ∧ w2.cell? ⟨w.heap.size, 4, none⟩ = some (.string x.read.arr) ∧ w2.cell? ⟨w.heap.size, 5, none⟩ = some (.slice A6 x.read.subs.length c6) ∧ w2.cell? ⟨w.heap.size, 6, none⟩ = some (.slice A7 x.kids.length c7) := by
    refine ⟨?_, ?_, ?_, ?_, ?_, ?_, ?_⟩ <;> (rw [b2.cell (by simp [World.setCell]; try (have := ZS1.out; omega))]; go_simp)
  have PR2 : w2.cell? ⟨w.heap.size + 1, 0, none⟩ = some (.int .i64 0) ∧ w2.cell? ⟨w.heap.size + 1, 1, none⟩ = some (.int .i64 0) ∧ w2.cell? ⟨w.heap.size + 1, 2, none⟩ = some (.slice none 0 0) ∧ w2.cell? ⟨w.heap.size + 1, 3, none⟩ = some (.int .i64 0) ∧ w2.cell? ⟨w.heap.size + 1, 4, none⟩ = some (.string ⟨#[]⟩) ∧ w2.cell? ⟨w.heap.size + 1, 5, none⟩ = some (.slice none 0 0) ∧ w2.cell? ⟨w.heap.size + 1, 6, none⟩ = some (.slice none 0 0) := by
    refine ⟨?_, ?_, ?_, ?_, ?_, ?_, ?_⟩ <;> (rw [b2.cell (by simp [World.setCell]; try (have := ZS1.out; omega))]; go_simp)
  have PO2 : w2.cell? ⟨w.heap.size + 2, 0, none⟩ = some (.int .i64 x.kind) ∧ w2.cell? ⟨w.heap.size + 2, 1, none⟩ = some (.int .i64 x.num) ∧ w2.cell? ⟨w.heap.size + 2, 2, none⟩ = some (.slice A1r1 x.index.coefs.length c1r1) ∧ w2.cell? ⟨w.heap.size + 2, 3, none⟩ = some (.int .i64 x.index.const) ∧ w2.cell? ⟨w.heap.size + 2, 4, none⟩ = some (.string ⟨#[]⟩) ∧ w2.cell? ⟨w.heap.size + 2, 5, none⟩ = some (.slice none 0 0) ∧ w2.cell? ⟨w.heap.size + 2, 6, none⟩ = some (.slice none 0 0) := by
    refine ⟨?_, ?_, ?_, ?_, ?_, ?_, ?_⟩ <;> (rw [b2.cell (by simp [World.setCell]; try (have := ZS1.out; omega))]; go_simp)
  have F2 : w2.frozen? ⟨w.heap.size + 1, 0, none⟩ = false ∧ w2.frozen? ⟨w.heap.size + 1, 1, none⟩ = false ∧ w2.frozen? ⟨w.heap.size + 1, 2, none⟩ = false ∧ w2.frozen? ⟨w.heap.size + 1, 3, none⟩ = false ∧ w2.frozen? ⟨w.heap.size + 1, 4, none⟩ = false ∧ w2.frozen? ⟨w.heap.size + 1, 5, none⟩ = false ∧ w2.frozen? ⟨w.heap.size + 1, 6, none⟩ = false ∧ w2.frozen? ⟨w.heap.size + 2, 0, none⟩ = false ∧ w2.frozen? ⟨w.heap.size + 2, 1, none⟩ = false ∧ w2.frozen? ⟨w.heap.size + 2, 2, none⟩ = false ∧ w2.frozen? ⟨w.heap.size + 2, 3, none⟩ = false ∧ w2.frozen? ⟨w.heap.size + 2, 4, none⟩ = false ∧ w2.frozen? ⟨w.heap.size + 2, 5, none⟩ = false ∧ w2.frozen? ⟨w.heap.size + 2, 6, none⟩ = false := by
    refine ⟨?_, ?_, ?_, ?_, ?_, ?_, ?_, ?_, ?_, ?_, ?_, ?_, ?_, ?_⟩ <;> (rw [b2.frozen (by simp [World.setCell]; try (have := ZS1.out; omega))]; go_simp)
  have RR1_2 := Lib.hid (show Rep w2 (x.index.d) [.slice A1r1 x.index.coefs.length c1r1, .int .i64 x.index.const] bs1 from Rep.below (Rep.keep _ RR1_1.out (by repeat (first | with_reducible exact Keeps.refl _ _ | refine Keeps.setCell ?_ (fun hm => by have := HB1.out _ hm; dsimp only at this; omega) _))) b2); clear RR1_1
  have S2 : Below w.heap.size w w2 := by
    refine below_tr (a := _) ?_ b2
    exact (by first | with_reducible exact S1 | exact S1.setCell (by simp; try omega) _ | exact (S1.setCell (by simp; try omega) _).setCell (by simp; try omega) _ | exact ((S1.setCell (by simp; try omega) _).setCell (by simp; try omega) _).setCell (by simp; try omega) _)
  have ZS2 := Lib.hid (show w.heap.size + 3 ≤ w2.heap.size by have := b2.size; (try simp [World.setCell] at this); have := ZS1.out; omega)
  have ZT2 := Lib.hid (show w1.heap.size ≤ w2.heap.size by have := b2.size; (try simp [World.setCell] at this); omega)
  have RR2_2 := Lib.hid r2; have HB2 := Lib.hid hb2; have ND2 := Lib.hid nd2; have LT2 := Lib.hid (Rep.lt _ r2); have HC2 := Lib.hid hc2
  clear r2 hb2 nd2 hy2 b2 hc2 PA1 PR1 PO1 F1
  go_wp2_with fail
  refine (toExprS_r HREC.out (G7.out.below (by first | with_reducible exact S2 | exact S2.setCell (by simp; try omega) _ | exact (S2.setCell (by simp; try omega) _).setCell (by simp; try omega) _ | exact ((S2.setCell (by simp; try omega) _).setCell (by simp; try omega) _).setCell (by simp; try omega) _)) Z7.out).mono ?_
  rintro e w3 ⟨Ar3, nr3, cr3, bs3, rfl, r3, nd3, hy3, b3⟩
  obtain ⟨hn3, _, _⟩ := r3.sls_len
  subst hn3
  have hb3 : ∀ y ∈ bs3, w.heap.size + 3 ≤ y := fun y hy => by have := hy3 y hy; (try simp [World.setCell] at this); have := ZS2.out; omega
  have hc3 : ∀ y ∈ bs3, w2.heap.size ≤ y := fun y hy => by have := hy3 y hy; (try simp [World.setCell] at this); omega
  have PA3 : w3.cell? ⟨w.heap.size, 0, none⟩ = some (.int .i64 x.kind) ∧ w3.cell? ⟨w.heap.size, 1, none⟩ = some (.int .i64 x.num) ∧ w3.cell? ⟨w.heap.size, 2, none⟩ = some (.slice A3 x.index.coefs.length c3) ∧ w3.cell? ⟨w.heap.size, 3, none⟩ = some (.int .i64 x.index.const) ∧ w3.cell? ⟨w.heap.size, 4, none⟩ = some (.string x.read.arr) ∧ w3.cell? ⟨w.heap.size, 5, none⟩ = some (.slice A6 x.read.subs.length c6) ∧ w3.cell? ⟨w.heap.size, 6, none⟩ = some (.slice A7 x.kids.length c7) := by
    refine ⟨?_, ?_, ?_, ?_, ?_, ?_, ?_⟩ <;> (rw [b3.cell (by simp [World.setCell]; try (have := ZS2.out; omega))]; go_simp)
  have PR3 : w3.cell? ⟨w.heap.size + 1, 0, none⟩ = some (.int .i64 0) ∧ w3.cell? ⟨w.heap.size + 1, 1, none⟩ = some (.int .i64 0) ∧ w3.cell? ⟨w.heap.size + 1, 2, none⟩ = some (.slice none 0 0) ∧ w3.cell? ⟨w.heap.size + 1, 3, none⟩ = some (.int .i64 0) ∧ w3.cell? ⟨w.heap.size + 1, 4, none⟩ = some (.string ⟨#[]⟩) ∧ w3.cell? ⟨w.heap.size + 1, 5, none⟩ = some (.slice none 0 0) ∧ w3.cell? ⟨w.heap.size + 1, 6, none⟩ = some (.slice none 0 0) := by
    refine ⟨?_, ?_, ?_, ?_, ?_, ?_, ?_⟩ <;> (rw [b3.cell (by simp [World.setCell]; try (have := ZS2.out; omega))]; go_simp)
  have PO3 : w3.cell? ⟨w.heap.size + 2, 0, none⟩ = some (.int .i64 x.kind) ∧ w3.cell? ⟨w.heap.size + 2, 1, none⟩ = some (.int .i64 x.num) ∧ w3.cell? ⟨w.heap.size + 2, 2, none⟩ = some (.slice A1r1 x.index.coefs.length c1r1) ∧ w3.cell? ⟨w.heap.size + 2, 3, none⟩ = some (.int .i64 x.index.const) ∧ w3.cell? ⟨w.heap.size + 2, 4, none⟩ = some (.string x.read.arr) ∧ w3.cell? ⟨w.heap.size + 2, 5, none⟩ = some (.slice A2r2 x.read.subs.length c2r2) ∧ w3.cell? ⟨w.heap.size + 2, 6, none⟩ = some (.slice none 0 0) := by
    refine ⟨?_, ?_, ?_, ?_, ?_, ?_, ?_⟩ <;> (rw [b3.cell (by simp [World.setCell]; try (have := ZS2.out; omega))]; go_simp)
  have F3 : w3.frozen? ⟨w.heap.size + 1, 0, none⟩ = false ∧ w3.frozen? ⟨w.heap.size + 1, 1, none⟩ = false ∧ w3.frozen? ⟨w.heap.size + 1, 2, none⟩ = false ∧ w3.frozen? ⟨w.heap.size + 1, 3, none⟩ = false ∧ w3.frozen? ⟨w.heap.size + 1, 4, none⟩ = false ∧ w3.frozen? ⟨w.heap.size + 1, 5, none⟩ = false ∧ w3.frozen? ⟨w.heap.size + 1, 6, none⟩ = false ∧ w3.frozen? ⟨w.heap.size + 2, 0, none⟩ = false ∧ w3.frozen? ⟨w.heap.size + 2, 1, none⟩ = false ∧ w3.frozen? ⟨w.heap.size + 2, 2, none⟩ = false ∧ w3.frozen? ⟨w.heap.size + 2, 3, none⟩ = false ∧ w3.frozen? ⟨w.heap.size + 2, 4, none⟩ = false ∧ w3.frozen? ⟨w.heap.size + 2, 5, none⟩ = false ∧ w3.frozen? ⟨w.heap.size + 2, 6, none⟩ = false := by
    refine ⟨?_, ?_, ?_, ?_, ?_, ?_, ?_, ?_, ?_, ?_, ?_, ?_, ?_, ?_⟩ <;> (rw [b3.frozen (by simp [World.setCell]; try (have := ZS2.out; omega))]; go_simp)
  have RR1_3 := Lib.hid (show Rep w3 (x.index.d) [.slice A1r1 x.index.coefs.length c1r1, .int .i64 x.index.const] bs1 from Rep.below (Rep.keep _ RR1_2.out (by repeat (first | with_reducible exact Keeps.refl _ _ | refine Keeps.setCell ?_ (fun hm => by have := HB1.out _ hm; dsimp only at this; omega) _))) b3); clear RR1_2
  have RR2_3 := Lib.hid (show Rep w3 (x.read.d) [.string x.read.arr, .slice A2r2 x.read.subs.length c2r2] bs2 from Rep.below (Rep.keep _ RR2_2.out (by repeat (first | with_reducible exact Keeps.refl _ _ | refine Keeps.setCell ?_ (fun hm => by have := HB2.out _ hm; dsimp only at this; omega) _))) b3); clear RR2_2
  have S3 : Below w.heap.size w w3 := by
    refine below_tr (a := _) ?_ b3
    exact (by first | with_reducible exact S2 | exact S2.setCell (by simp; try omega) _ | exact (S2.setCell (by simp; try omega) _).setCell (by simp; try omega) _ | exact ((S2.setCell (by simp; try omega) _).setCell (by simp; try omega) _).setCell (by simp; try omega) _)
  have ZS3 := Lib.hid (show w.heap.size + 3 ≤ w3.heap.size by have := b3.size; (try simp [World.setCell] at this); have := ZS2.out; omega)
  have ZT3 := Lib.hid (show w2.heap.size ≤ w3.heap.size by have := b3.size; (try simp [World.setCell] at this); omega)
  have RR3_3 := Lib.hid r3; have HB3 := Lib.hid hb3; have ND3 := Lib.hid nd3; have LT3 := Lib.hid (Rep.lt _ r3); have HC3 := Lib.hid hc3
  clear r3 hb3 nd3 hy3 b3 hc3 PA2 PR2 PO2 F2
  have RALL := Lib.hid (show Rep w3 x.d [.int .i64 x.kind, .int .i64 x.num, .slice A1r1 x.index.coefs.length c1r1, .int .i64 x.index.const, .string x.read.arr, .slice A2r2 x.read.subs.length c2r2, .slice Ar3 x.kids.length cr3] (bs1 ++ bs2 ++ bs3) from (show ∀ W, Reps W [.int x.kind, .int x.num, x.index.d, x.read.d, sls Ex.d x.kids] ([.int .i64 x.kind] ++ ([.int .i64 x.num] ++ ([.slice A1r1 x.index.coefs.length c1r1, .int .i64 x.index.const] ++ ([.string x.read.arr, .slice A2r2 x.read.subs.length c2r2] ++ ([.slice Ar3 x.kids.length cr3] ++ ([])))))) ([] ++ ([] ++ (bs1 ++ (bs2 ++ (bs3 ++ ([])))))) → Rep W x.d [.int .i64 x.kind, .int .i64 x.num, .slice A1r1 x.index.coefs.length c1r1, .int .i64 x.index.const, .string x.read.arr, .slice A2r2 x.read.subs.length c2r2, .slice Ar3 x.kids.length cr3] (bs1 ++ bs2 ++ bs3) from fun W hq => by have h2 : Rep W (.st [.int x.kind, .int x.num, x.index.d, x.read.d, sls Ex.d x.kids]) _ _ := hq; rw [← Ex.d_eq] at h2; simpa [List.append_assoc] using h2) _ ⟨_, _, _, _, rfl, rfl, ⟨rfl, rfl, I1.out⟩, ⟨_, _, _, _, rfl, rfl, ⟨rfl, rfl, I2.out⟩, ⟨_, _, _, _, rfl, rfl, RR1_3.out, ⟨_, _, _, _, rfl, rfl, RR2_3.out, ⟨_, _, _, _, rfl, rfl, RR3_3.out, ⟨rfl, rfl⟩⟩⟩⟩⟩⟩)
  have NDALL := Lib.hid (show (bs1 ++ bs2 ++ bs3 : List Nat).Nodup from List.nodup_append.2 ⟨List.nodup_append.2 ⟨ND1.out, ND2.out, fun y h1 z h2 e => by
      subst e
      have h3 := HC2.out y h2
      (have := LT1.out y h1; omega)⟩, ND3.out, fun y h1 z h2 e => by
      subst e
      have h3 := HC3.out y h2
      have := ZT2.out
      simp only [List.mem_append] at h1
      rcases h1 with h1 | h1
      all_goals first | (have := LT1.out y h1; omega) | (have := LT2.out y h1; omega)⟩)
  have HBALL := Lib.hid (show ∀ y ∈ (bs1 ++ bs2 ++ bs3 : List Nat), w.heap.size + 3 ≤ y from (fun y hy => by
    simp only [List.mem_append] at hy
    rcases hy with (hy | hy) | hy
    · exact HB1.out y hy
    · exact HB2.out y hy
    · exact HB3.out y hy))
  clear RR1_3 HB1 ND1 LT1 RR2_3 HB2 ND2 LT2 HC2 ZT2 RR3_3 HB3 ND3 LT3 HC3 ZT3
  go_wp2
  refine bodyPost_ret (v := .agg #[.int .i64 x.kind, .int .i64 x.num, .slice A1r1 x.index.coefs.length c1r1, .int .i64 x.index.const, .string x.read.arr, .slice A2r2 x.read.subs.length c2r2, .slice Ar3 x.kids.length cr3]) (by simp [results, Tryz.results227, go_sem, PR3, PO3]) rfl ⟨[.int .i64 x.kind, .int .i64 x.num, .slice A1r1 x.index.coefs.length c1r1, .int .i64 x.index.const, .string x.read.arr, .slice A2r2 x.read.subs.length c2r2, .slice Ar3 x.kids.length cr3], bs1 ++ bs2 ++ bs3, rfl, ?_, NDALL.out, fun y hy => by have := HBALL.out y hy; omega, ?_⟩
  · exact Rep.keep _ RALL.out (by repeat (first | with_reducible exact Keeps.refl _ _ | refine Keeps.setCell ?_ (fun hm => by have := HBALL.out _ hm; dsimp only at this; omega) _))
  · exact (by repeat (first | with_reducible exact S3 | refine Below.setCell ?_ (by simp; try omega) _))

theorem toExpr_all (x : Ex) : ToEx x := Ex.ind (P := ToEx) (fun x hx => fun w cs bs h hz => toExpr_r hx h hz) x
theorem toExpr_c {w : World} {x : Ex} {cs : List Value} {bs : List Nat} (h : Rep w x.d cs bs) (hz : szD x.d ≤ 10000000) : Calls Tryz.prog 227 #[.agg cs.toArray] w (MadeT w x.d) := toExpr_all x _ _ _ h hz

end Go.Proofs.YtbhniobgaoncaaaGreatDoor
