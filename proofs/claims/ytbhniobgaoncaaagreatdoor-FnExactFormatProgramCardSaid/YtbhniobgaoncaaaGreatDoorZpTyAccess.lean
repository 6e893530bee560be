/- The Go type Access: how it reads; the law package's functions on it and on slices of it. Printed by tygen.py. -/
import Derived.Test.YtbhniobgaoncaaaGreatDoorZpTyAffine
import Derived.Test.YtbhniobgaoncaaaGreatDoorZpBasic
set_option linter.all false
set_option linter.unusedSimpArgs false
set_option linter.unusedVariables false
namespace Go.Proofs.YtbhniobgaoncaaaGreatDoor
open Go.ChangeShapes Go.WideShapes Go.ChangeAt Go.RowKit Go.Deep

structure Acc where
  arr : ByteArray
  subs : List Aff

def Acc.d (x : Acc) : D := .st [.str x.arr, sls Aff.d x.subs]
theorem Acc.d_size (x : Acc) : x.d.size = 2 := rfl
theorem Rep.acc_iff {w : World} {x : Acc} {cs : List Value} {bs : List Nat} : Rep w x.d cs bs ↔ ∃ (A2 : Option Addr) (c2 : Nat) (d2 : List Nat), cs = [.string x.arr, .slice A2 x.subs.length c2] ∧ bs = d2 ∧ x.arr.size ≤ maxLen ∧ Rep w (sls Aff.d x.subs) [.slice A2 x.subs.length c2] d2 := by
  constructor
  · intro h
    replace h : Reps w [.str x.arr, sls Aff.d x.subs] cs bs := h
    obtain ⟨_, _, _, _, rfl, rfl, g1, h⟩ := h
    obtain ⟨_, _, _, _, rfl, rfl, g2, h⟩ := h
    obtain ⟨rfl, rfl⟩ := h
    obtain ⟨rfl, rfl, g1⟩ := g1
    obtain ⟨B2, e2, rfl, _⟩ := g2.sls_form
    exact ⟨_, _, _, rfl, by simp, g1, g2⟩
  · rintro ⟨A2, c2, d2, rfl, rfl, g1, g2⟩
    have h : Reps w [.str x.arr, sls Aff.d x.subs] _ _ := ⟨_, _, _, _, rfl, rfl, ⟨rfl, rfl, g1⟩, ⟨_, _, _, _, rfl, rfl, g2, ⟨rfl, rfl⟩⟩⟩
    simpa using (show Rep w x.d _ _ from h)

set_option maxHeartbeats 1000000 in
theorem eqAccess_c {w : World} {x : Acc} {cs cs' : List Value} {bs bs' : List Nat} (h : Rep w x.d cs bs) (h' : Rep w x.d cs' bs') :
    Calls Tryz.prog 58 #[.agg cs.toArray, .agg cs'.toArray] w fun e w' => e = .returned (.bool true) ∧ Below w.heap.size w w' := by
  have H := Lib.hid h
  have H' := Lib.hid h'
  obtain ⟨A2, c2, d2, rfl, rfl, g1, g2⟩ := Rep.acc_iff.1 h
  obtain ⟨A2', c2', d2', rfl, rfl, g1', g2'⟩ := Rep.acc_iff.1 h'
  have q1 := Lib.hid g1
  have G2 := Lib.hid g2
  have G2' := Lib.hid g2'
  clear h h' H H' g1 g1' g2 g2'
  go_enter Tryz.func58, Tryz.ntmps58
  go_wp2_with fail
  refine (eqAffineS_c (G2.out.below bel) (G2'.out.below bel)).mono ?_
  rintro e w1 ⟨rfl, b1⟩
  have P1 : Box2 w1 w.heap.size (.string x.arr) (.slice A2 x.subs.length c2) := by
    refine ⟨?_, ?_⟩ <;> (rw [b1.cell (by simp; try omega)]; go_simp)
  have Q1 : Box2 w1 (w.heap.size + 1) (.string x.arr) (.slice A2' x.subs.length c2') := by
    refine ⟨?_, ?_⟩ <;> (rw [b1.cell (by simp; try omega)]; go_simp)
  have S1 : Below w.heap.size w w1 := bel
  clear b1
  go_wp2
  go_ret
  exact ⟨rfl, bel⟩

theorem szD_acc (x : Acc) : szD x.d = x.arr.size + szD (sls Aff.d x.subs) := by
  have h : szD x.d = szDs [.str x.arr, sls Aff.d x.subs] := by simp only [Acc.d, szD]
  rw [h]; simp only [szDs, szD, szD_ints]; omega
set_option maxHeartbeats 2000000 in
theorem szAccess_c {w : World} {x : Acc} {cs : List Value} {bs : List Nat} {left : Int} (h : Rep w x.d cs bs) (h0 : 0 ≤ left) (h1 : left ≤ 1048576) :
    Calls Tryz.prog 219 #[.agg cs.toArray, .int .i64 left] w fun e w' => e = .returned (.int .i64 (szR left (szD x.d))) ∧ Below w.heap.size w w' := by
  obtain ⟨A2, c2, d2, rfl, rfl, g1, g2⟩ := Rep.acc_iff.1 h
  rw [szD_acc x]
  have hl1 : x.arr.size ≤ 9223372036854775807 := Nat.le_trans g1 (by unfold maxLen; omega)
  have G2 := Lib.hid g2
  clear h g1 g2
  by_cases hs0 : (left : Int) - ((x.arr.size : Nat) : Int) < 0
  · have HR := Lib.hid (show szR left (x.arr.size + szD (sls Aff.d x.subs)) = -1 from szR_neg (by omega))
    have HS0 := Lib.hid (szR_neg hs0)
    go_enter Tryz.func219, Tryz.ntmps219
    go_wp2
    go_ret
    exact ⟨ret_int HR.out.symm, bel⟩
  · have HS0 := Lib.hid (szR_pos (left := left) (tot := x.arr.size) (by omega))
    have hp0 : 0 ≤ left - ((x.arr.size : Nat) : Int) := by omega
    clear hs0
    by_cases hs1 : (left - ((x.arr.size : Nat) : Int) : Int) - ((szD (sls Aff.d x.subs) : Nat) : Int) < 0
    · have HR := Lib.hid (show szR left (x.arr.size + szD (sls Aff.d x.subs)) = -1 from szR_neg (by omega))
      have HS1 := Lib.hid (szR_neg hs1)
      go_enter Tryz.func219, Tryz.ntmps219
      go_wp2_with fail
      refine (szAffineS_c (G2.out.below bel) (by omega) (by omega)).mono ?_
      rintro e w1 ⟨rfl, b1⟩
      rw [HS1.out]
      have P1 : Box2 w1 w.heap.size (.string x.arr) (.slice A2 x.subs.length c2) := by
        refine ⟨?_, ?_⟩ <;> (rw [b1.cell (by simp; try omega)]; go_simp)
      have S1 : Below w.heap.size w w1 := bel
      clear b1
      go_wp2
      go_ret
      exact ⟨ret_int HR.out.symm, bel⟩
    · have HS1 := Lib.hid (szR_pos (left := left - ((x.arr.size : Nat) : Int)) (tot := szD (sls Aff.d x.subs)) (by omega))
      have hp1 : 0 ≤ left - ((x.arr.size : Nat) : Int) - ((szD (sls Aff.d x.subs) : Nat) : Int) := by omega
      clear hs1
      have HR := Lib.hid (show szR left (x.arr.size + szD (sls Aff.d x.subs)) = left - ((x.arr.size : Nat) : Int) - ((szD (sls Aff.d x.subs) : Nat) : Int) by rw [szR_pos (by omega)] <;> omega)
      go_enter Tryz.func219, Tryz.ntmps219
      go_wp2_with fail
      refine (szAffineS_c (G2.out.below bel) (by omega) (by omega)).mono ?_
      rintro e w1 ⟨rfl, b1⟩
      rw [HS1.out]
      have P1 : Box2 w1 w.heap.size (.string x.arr) (.slice A2 x.subs.length c2) := by
        refine ⟨?_, ?_⟩ <;> (rw [b1.cell (by simp; try omega)]; go_simp)
      have S1 : Below w.heap.size w w1 := bel
      clear b1
      go_wp2
      go_ret
      exact ⟨ret_int HR.out.symm, bel⟩

set_option maxHeartbeats 4000000 in
set_option maxRecDepth 100000 in
theorem toAccess_c {w : World} {x : Acc} {cs : List Value} {bs : List Nat} (h : Rep w x.d cs bs) (hz : szD x.d ≤ 10000000) :
    Calls Tryz.prog 226 #[.agg cs.toArray] w (MadeT w x.d) := by
  rw [szD_acc] at hz
  obtain ⟨A2, c2, d2, rfl, rfl, g1, g2⟩ := Rep.acc_iff.1 h
  have G2 := Lib.hid g2
  have Z2 := Lib.hid (show szD (sls Aff.d x.subs) ≤ 10000000 by omega)
  have I1 := Lib.hid g1
  clear h hz g1 g2
  go_enter Tryz.func226, Tryz.ntmps226
  go_wp2_with fail
  refine (toAffineS_c (G2.out.below bel) Z2.out).mono ?_
  rintro e w1 ⟨Ar1, nr1, cr1, bs1, rfl, r1, nd1, hy1, b1⟩
  obtain ⟨hn1, _, _⟩ := r1.sls_len
  subst hn1
  have hb1 : ∀ y ∈ bs1, w.heap.size + 3 ≤ y := fun y hy => by have := hy1 y hy; (try simp [World.setCell] at this); omega
  have PA1 : w1.cell? ⟨w.heap.size, 0, none⟩ = some (.string x.arr) ∧ w1.cell? ⟨w.heap.size, 1, none⟩ = some (.slice A2 x.subs.length c2) := by
    refine ⟨?_, ?_⟩ <;> (rw [b1.cell (by simp [World.setCell]; try (omega))]; go_simp)
  have PR1 : w1.cell? ⟨w.heap.size + 1, 0, none⟩ = some (.string ⟨#[]⟩) ∧ w1.cell? ⟨w.heap.size + 1, 1, none⟩ = some (.slice none 0 0) := by
    refine ⟨?_, ?_⟩ <;> (rw [b1.cell (by simp [World.setCell]; try (omega))]; go_simp)
  have PO1 : w1.cell? ⟨w.heap.size + 2, 0, none⟩ = some (.string x.arr) ∧ w1.cell? ⟨w.heap.size + 2, 1, none⟩ = some (.slice none 0 0) := by
    refine ⟨?_, ?_⟩ <;> (rw [b1.cell (by simp [World.setCell]; try (omega))]; go_simp)
  have F1 : w1.frozen? ⟨w.heap.size + 1, 0, none⟩ = false ∧ w1.frozen? ⟨w.heap.size + 1, 1, none⟩ = false ∧ w1.frozen? ⟨w.heap.size + 2, 0, none⟩ = false ∧ w1.frozen? ⟨w.heap.size + 2, 1, none⟩ = false := by
    refine ⟨?_, ?_, ?_, ?_⟩ <;> (rw [b1.frozen (by simp [World.setCell]; try (omega))]; go_simp)
  have S1 : Below w.heap.size w w1 := bel
  have ZS1 := Lib.hid (show w.heap.size + 3 ≤ w1.heap.size by have := b1.size; (try simp [World.setCell] at this); omega)
  have RR1_1 := Lib.hid r1; have HB1 := Lib.hid hb1; have ND1 := Lib.hid nd1; have LT1 := Lib.hid (Rep.lt _ r1)
  clear r1 hb1 nd1 hy1 b1
  have RALL := Lib.hid (show Rep w1 x.d [.string x.arr, .slice Ar1 x.subs.length cr1] (bs1) from (show ∀ W, Reps W [.str x.arr, sls Aff.d x.subs] ([.string x.arr] ++ ([.slice Ar1 x.subs.length cr1] ++ ([]))) ([] ++ (bs1 ++ ([]))) → Rep W x.d [.string x.arr, .slice Ar1 x.subs.length cr1] (bs1) from fun W hq => by simpa [List.append_assoc] using (show Rep W x.d _ _ from hq)) _ ⟨_, _, _, _, rfl, rfl, ⟨rfl, rfl, I1.out⟩, ⟨_, _, _, _, rfl, rfl, RR1_1.out, ⟨rfl, rfl⟩⟩⟩)
  have NDALL := Lib.hid (show (bs1 : List Nat).Nodup from ND1.out)
  have HBALL := Lib.hid (show ∀ y ∈ (bs1 : List Nat), w.heap.size + 3 ≤ y from HB1.out)
  clear RR1_1 HB1 ND1 LT1
  go_wp2
  refine bodyPost_ret (v := .agg #[.string x.arr, .slice Ar1 x.subs.length cr1]) (by simp [results, Tryz.results226, go_sem, PR1, PO1]) rfl ⟨[.string x.arr, .slice Ar1 x.subs.length cr1], bs1, rfl, ?_, NDALL.out, fun y hy => by have := HBALL.out y hy; omega, ?_⟩
  · exact Rep.keep _ RALL.out (by repeat (first | with_reducible exact Keeps.refl _ _ | refine Keeps.setCell ?_ (fun hm => by have := HBALL.out _ hm; dsimp only at this; omega) _))
  · exact (by repeat (first | with_reducible exact S1 | refine Below.setCell ?_ (by simp; try omega) _))

def MadeAcc (w : World) (x : Acc) (e : Ending) (w' : World) : Prop := ∃ (A2 : Option Addr) (c2 : Nat) (bs : List Nat), e = .returned (.agg #[.string x.arr, .slice A2 x.subs.length c2]) ∧ Rep w' x.d [.string x.arr, .slice A2 x.subs.length c2] bs ∧ bs.Nodup ∧ (∀ b ∈ bs, w.heap.size ≤ b) ∧ Below w.heap.size w w'
end Go.Proofs.YtbhniobgaoncaaaGreatDoor
