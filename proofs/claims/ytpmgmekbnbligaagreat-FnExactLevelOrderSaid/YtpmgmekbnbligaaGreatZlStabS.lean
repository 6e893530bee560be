/- The steps of slices.SortStableFunc on a row of numbers: stretches exchanged, rotation. -/
import Derived.Test.YtpmgmekbnbligaaGreatZlStabM
import Derived.Test.YtpmgmekbnbligaaGreatZlCore
import Derived.BigRegion
set_option linter.all false
set_option linter.unusedSimpArgs false
set_option linter.unusedVariables false
namespace Go.Proofs.YtpmgmekbnbligaaGreat
open Go.ChangeShapes Go.WideShapes Go.ChangeAt Go.RowKit Go.Deep

/-- the numbers, and whatever room behind them -/
def RowI (w : World) (g : Nat) (t : TypeId) (xs : List Int) : Prop := ∃ rest, Row w g t (xs.map (fun x => Value.int .i64 x) ++ rest)
theorem RowI.cell {w : World} {g i : Nat} {t : TypeId} {xs : List Int} (h : RowI w g t xs) (hi : i < xs.length) : w.cell? ⟨g, i, none⟩ = some (.int .i64 (gi xs i)) := by
  obtain ⟨rest, h⟩ := h
  rw [h.cell, List.getElem?_append_left (by simpa using hi), List.getElem?_map, List.getElem?_eq_getElem hi]
  simp [gi, List.getD_eq_getElem?_getD, hi]
theorem RowI.frozen {w : World} {g : Nat} {t : TypeId} {xs : List Int} (h : RowI w g t xs) (i : Nat) : w.frozen? ⟨g, i, none⟩ = false := by
  obtain ⟨rest, h⟩ := h
  exact h.frozen i
theorem RowI.set {w : World} {g i : Nat} {t : TypeId} {xs : List Int} (h : RowI w g t xs) (hi : i < xs.length) (v : Int) : RowI (w.setCell ⟨g, i, none⟩ (.int .i64 v)) g t (xs.set i v) := by
  obtain ⟨rest, h⟩ := h
  refine ⟨rest, ?_⟩
  have := h.set i (.int .i64 v)
  rwa [List.set_append_left _ _ (by simpa using hi), ← List.map_set] at this
theorem RowI.drewN {w : World} {g : Nat} {t : TypeId} {xs : List Int} (h : RowI w g t xs) (n : Nat) : RowI (w.drewN n) g t xs := h
theorem RowI.swp {w : World} {g i j : Nat} {t : TypeId} {xs : List Int} (h : RowI w g t xs) (hi : i < xs.length) (hj : j < xs.length) : RowI ((w.setCell ⟨g, i, none⟩ (.int .i64 (gi xs j))).setCell ⟨g, j, none⟩ (.int .i64 (gi xs i))) g t (swp xs i j) :=
  (h.set hi _).set (by simpa using hj) _
/-- behind the exchange's first store the second place still holds something -/
theorem RowI.cell2 {w : World} {g i j : Nat} {t : TypeId} {xs : List Int} (h : RowI w g t xs) (hi : i < xs.length) (hj : j < xs.length) (v : Int) : ∃ u : Int, (w.setCell ⟨g, i, none⟩ (.int .i64 v)).cell? ⟨g, j, none⟩ = some (.int .i64 u) := ⟨_, (h.set hi v).cell (by simpa using hj)⟩
theorem Touch.swp {g i j : Nat} {a w : World} (h : Touch [g] a w) (u v : Value) : Touch [g] a ((w.setCell ⟨g, i, none⟩ u).setCell ⟨g, j, none⟩ v) := (h.setCell (by simp) u).setCell (by simp) v
theorem Touch.drewN {bs : List Nat} {a w : World} (h : Touch bs a w) (n : Nat) : Touch bs a (w.drewN n) := ⟨h.os, h.tape, h.output, h.size, h.block⟩
/-- what the sort asks of the function handed in: in whatever world that differs in the row alone, called with two of the numbers, it answers the difference of their keys -/
def CmpI (P : Program) (f : FuncId) (cv : Value) (key : Int → Int) (W0 : World) (g : Nat) (n : Nat) : Prop :=
  ∀ (w : World) (x y : Int), Touch [g] W0 w → (0 ≤ x ∧ x < (n : Int)) → (0 ≤ y ∧ y < (n : Int)) → Calls P f #[.int .i64 x, .int .i64 y, cv] w fun e w' => e = .returned (.int .i64 (key x - key y)) ∧ ∃ q, w' = w.drewN q
/-- every number is one of the first n -/
def AllIn (n : Nat) (xs : List Int) : Prop := ∀ x ∈ xs, 0 ≤ x ∧ x < (n : Int)
theorem AllIn.gi {n i : Nat} {xs : List Int} (h : AllIn n xs) (hi : i < xs.length) : 0 ≤ gi xs i ∧ gi xs i < (n : Int) := by
  have e : Go.Proofs.YtpmgmekbnbligaaGreat.gi xs i = xs[i] := by simp [Go.Proofs.YtpmgmekbnbligaaGreat.gi, List.getD_eq_getElem?_getD, hi]
  rw [e]; exact h _ (List.getElem_mem hi)
theorem AllIn.perm {n : Nat} {xs ys : List Int} (h : AllIn n xs) (p : ys.Perm xs) : AllIn n ys := fun x hx => h x (p.mem_iff.1 hx)
end Go.Proofs.YtpmgmekbnbligaaGreat
set_option linter.all false
set_option linter.unusedSimpArgs false
set_option linter.unusedVariables false
namespace Go.Proofs.YtpmgmekbnbligaaGreat
open Go.ChangeShapes Go.WideShapes Go.ChangeAt Go.RowKit Go.Deep

set_option maxRecDepth 100000 in
set_option maxHeartbeats 4000000 in
theorem swapRange_c {w : World} {g t n c p q k : Nat} {fv : Value} {xs : List Int} (h : RowI w g t xs) (hn : xs.length = n) (hpq : p + k ≤ q) (hq : q + k ≤ n) (hl : n ≤ 1000000) :
    Calls Tryz.prog 149 #[.slice (some ⟨g, 0, none⟩) n c, .int .i64 p, .int .i64 q, .int .i64 k, fv] w fun e w' => e = .returned (.tuple #[]) ∧ ∃ ys, RowI w' g t ys ∧ Xch p q k xs ys ∧ Touch [g] w w' := by
  have HR := Lib.hid h; clear h
  have HN := Lib.hid hn; clear hn
  go_enter Tryz.func149, Tryz.ntmps149
  go_wp2
  go_loopw [10] (fun i wr => ∃ (j : Nat) (ys : List Int), i = .int .i64 j ∧ j ≤ k ∧ RowI wr g t ys ∧ Xch p q j xs ys ∧ Touch [g] w wr) (fun i _ => k - (intOf i).toNat)
  case atStart => exact ⟨0, xs, rfl, Nat.zero_le _, HR.out, Xch.zero _ _ _, Touch.refl _ _⟩
  case round =>
    obtain ⟨j, ys, rfl, hj, hR, hX, hT⟩ := hrel
    by_cases hlt : j < k
    · have hyl : ys.length = n := hX.len.trans HN.out
      obtain ⟨pj, hpj⟩ : ∃ pj, pj = p + j := ⟨_, rfl⟩
      obtain ⟨qj, hqj⟩ : ∃ qj, qj = q + j := ⟨_, rfl⟩
      have ip : (p : Int) + (j : Int) = (pj : Int) := by omega
      have iq : (q : Int) + (j : Int) = (qj : Int) := by omega
      have hp1 : pj < ys.length := by omega
      have hq1 : qj < ys.length := by omega
      have hpn : (pj : Int) < (n : Int) := by omega
      have hqn : (qj : Int) < (n : Int) := by omega
      have cp := hR.cell hp1
      have cq := hR.cell hq1
      have fp := hR.frozen pj
      have fq := hR.frozen qj
      obtain ⟨u2, c2⟩ := hR.cell2 hp1 hq1 (gi ys qj)
      have h2 := Lib.hid (hR.swp hp1 hq1)
      have X2 := Lib.hid (hpj ▸ hqj ▸ hX.step (by omega) (by have := HN.out; omega) : Xch p q (j + 1) xs (swp ys pj qj))
      have T2 := Lib.hid hT
      clear hR hX hT hpj hqj hyl
      go_wp2_with fail
      go_big_region
      go_wp2
      go_roundw
      case rel => exact ⟨j + 1, swp ys pj qj, by go_num, by omega, h2.out.drewN 1, X2.out, (T2.out.swp _ _).drewN 1⟩
      case measure => simp [intOf]; omega
    · have hjk : j = k := by omega
      subst hjk
      go_wp2
      go_end0
      exact ⟨rfl, ys, hR, hX, hT⟩
set_option maxRecDepth 100000 in
set_option maxHeartbeats 4000000 in
theorem rotate_c {w : World} {g t n c a m b : Nat} {fv : Value} {xs : List Int} (h : RowI w g t xs) (hn : xs.length = n) (ha : a < m) (hm : m < b) (hb : b ≤ n) (hl : n ≤ 1000000) :
    Calls Tryz.prog 105 #[.slice (some ⟨g, 0, none⟩) n c, .int .i64 a, .int .i64 m, .int .i64 b, fv] w fun e w' => e = .returned (.tuple #[]) ∧ ∃ ys, RowI w' g t ys ∧ Rot a m b xs ys ∧ Touch [g] w w' := by
  have HR := Lib.hid h; clear h
  have HN := Lib.hid hn; clear hn
  have ei : (m : Int) - (a : Int) = ((m - a : Nat) : Int) := by omega
  have ej : (b : Int) - (m : Int) = ((b - m : Nat) : Int) := by omega
  go_enter Tryz.func105, Tryz.ntmps105
  go_wp2
  go_loopw [10, 11] (fun u v wr => ∃ (i j : Nat) (ys : List Int), u = .int .i64 i ∧ v = .int .i64 j ∧ 0 < i ∧ 0 < j ∧ i ≤ m - a ∧ j ≤ b - m ∧ RowI wr g t ys ∧ RotI a m b i j xs ys ∧ ys.length = n ∧ Touch [g] w wr) (fun u v _ => (intOf u).toNat + (intOf v).toNat)
  case atStart => exact ⟨m - a, b - m, xs, by first | rfl | go_num, by first | rfl | go_num, by omega, by omega, Nat.le_refl _, Nat.le_refl _, HR.out, RotI.start (by omega) (by omega), HN.out, Touch.refl _ _⟩
  case round =>
    obtain ⟨i, j, ys, rfl, rfl, hi0, hj0, hi, hj, hR, hX, hyl, hT⟩ := hrel
    have HRr := Lib.hid hR
    have HX := Lib.hid hX
    have HT := Lib.hid hT
    have HY := Lib.hid hyl
    clear hR hX hT hyl ei ej
    by_cases hij : i = j
    · subst hij
      have e1 : (m : Int) - (i : Int) = ((m - i : Nat) : Int) := by omega
      go_wp2_with fail
      refine (swapRange_c (p := m - i) (q := m) (k := i) HRr.out HY.out (by omega) (by omega) hl).mono ?_
      rintro e w3 ⟨rfl, ys3, h3, x3, t3⟩
      go_wp2
      go_end0
      exact ⟨rfl, ys3, h3, HX.out.done (by omega) x3, HT.out.trans t3⟩
    · have hne : ¬ (i : Int) = (j : Int) := by omega
      by_cases hlt : j < i
      · have hlz : (j : Int) < (i : Int) := by omega
        have e1 : (m : Int) - (i : Int) = ((m - i : Nat) : Int) := by omega
        have e2 : (i : Int) - (j : Int) = ((i - j : Nat) : Int) := by omega
        go_wp2_with fail
        refine (swapRange_c (p := m - i) (q := m) (k := j) HRr.out HY.out (by omega) (by omega) hl).mono ?_
        rintro e w3 ⟨rfl, ys3, h3, x3, t3⟩
        have H3 := Lib.hid (And.intro h3 (And.intro x3 t3)); clear h3 x3 t3
        go_wp2
        go_roundw
        case rel => exact ⟨i - j, j, ys3, by first | rfl | go_num, rfl, by omega, hj0, by omega, hj, H3.out.1, HX.out.stepA hi hj hlt (by omega) H3.out.2.1, H3.out.2.1.len.trans HY.out, HT.out.trans H3.out.2.2⟩
        case measure => simp [intOf]; omega
      · have hlz : ¬ (j : Int) < (i : Int) := by omega
        have hlt2 : i < j := by omega
        have e1 : (m : Int) - (i : Int) = ((m - i : Nat) : Int) := by omega
        have e2 : (m : Int) + (j : Int) - (i : Int) = ((m + j - i : Nat) : Int) := by omega
        have e3 : (j : Int) - (i : Int) = ((j - i : Nat) : Int) := by omega
        go_wp2_with fail
        refine (swapRange_c (p := m - i) (q := m + j - i) (k := i) HRr.out HY.out (by omega) (by omega) hl).mono ?_
        rintro e w3 ⟨rfl, ys3, h3, x3, t3⟩
        have H3 := Lib.hid (And.intro h3 (And.intro x3 t3)); clear h3 x3 t3
        go_wp2
        go_roundw
        case rel => exact ⟨i, j - i, ys3, rfl, by first | rfl | go_num, hi0, by omega, hi, by omega, H3.out.1, HX.out.stepB hi hj hlt2 (by omega) H3.out.2.1, H3.out.2.1.len.trans HY.out, HT.out.trans H3.out.2.2⟩
        case measure => simp [intOf]; omega
end Go.Proofs.YtpmgmekbnbligaaGreat
