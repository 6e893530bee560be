/- within, isConst, AffineValid of the program; l1Within, AffineValid of the reference: both answer affOk. -/
import Derived.Test.YtadmmlflngkpiaaCore
set_option linter.all false
set_option linter.unusedSimpArgs false
set_option linter.unusedVariables false
namespace Go.Proofs.Ytadmmlflngkpiaa
open Go.ChangeShapes Go.WideShapes Go.ChangeAt Go.RowKit Go.Deep

/-- lo ≤ n ≤ hi -/
def inB (n lo hi : Int) : Bool := decide (lo ≤ n) && decide (n ≤ hi)
def coefBad (x : Int) : Bool := !inB x (-9) 9
/-- the expression is valid -/
def affOk (a : Aff) : Bool := decide (a.coefs.length = 4) && inB a.const (-99) 99 && !a.coefs.any coefBad
theorem inB_true {n lo hi : Int} (h1 : lo ≤ n) (h2 : n ≤ hi) : inB n lo hi = true := by simp [inB, h1, h2]
theorem inB_lo {n lo hi : Int} (h1 : ¬ lo ≤ n) : inB n lo hi = false := by simp [inB, h1]
theorem inB_hi {n lo hi : Int} (h1 : ¬ n ≤ hi) : inB n lo hi = false := by simp [inB, h1]
theorem inB_iff {n lo hi : Int} : inB n lo hi = true ↔ lo ≤ n ∧ n ≤ hi := by simp [inB]

section
variable {w : World} {a : Aff} {A : Option Addr} {n c : Nat} {k : Int} {bs : List Nat}

theorem within_c (x lo hi : Int) (w : World) :
    Calls Try.prog 37 #[.int .i64 x, .int .i64 lo, .int .i64 hi] w fun e w' => e = .returned (.bool (inB x lo hi)) ∧ w = w' := by
  by_cases h1 : lo ≤ x
  · by_cases h2 : x ≤ hi
    · have hr := Lib.hid (inB_true h1 h2)
      go_enter Try.func37, Try.ntmps37
      go_wp2
      go_ret
      exact ⟨ret_bool hr.out.symm, rfl⟩
    · have hr := Lib.hid (inB_hi (lo := lo) h2)
      go_enter Try.func37, Try.ntmps37
      go_wp2
      go_ret
      exact ⟨ret_bool hr.out.symm, rfl⟩
  · have hr := Lib.hid (inB_lo (hi := hi) h1)
    go_enter Try.func37, Try.ntmps37
    go_wp2
    go_ret
    exact ⟨ret_bool hr.out.symm, rfl⟩

theorem isConst_c (x : Int) (w : World) :
    Calls Try.prog 88 #[.int .i64 x] w fun e w' => e = .returned (.bool (inB x (-99) 99)) ∧ w = w' := by
  go_enter Try.func88, Try.ntmps88
  go_wp2_with fail
  refine (within_c _ _ _ _).mono ?_
  rintro e w' ⟨rfl, rfl⟩
  go_wp2
  go_ret
  exact ⟨rfl, rfl⟩

theorem AffineValid1_c (x : Int) (W : World) : Calls Try.prog 89 (#[.int .i64 x] ++ #[]) W fun e w' => e = .returned (.bool (coefBad x)) ∧ W = w' := by
  show Calls Try.prog 89 #[.int .i64 x] W _
  go_enter Try.func89, Try.ntmps89
  go_wp2_with fail
  refine (within_c _ _ _ _).mono ?_
  rintro e w' ⟨rfl, rfl⟩
  go_wp2
  go_ret
  exact ⟨rfl, rfl⟩
theorem AffineValid1_e : Enters Try.prog 89 := fun args W => by go_simp

set_option maxHeartbeats 400000 in
theorem implAffineValid_c (h : Rep w a.d [.slice A n c, .int .i64 k] bs) :
    Calls Try.prog 62 #[.agg #[.slice A n c, .int .i64 k]] w fun e w' => e = .returned (.bool (affOk a)) ∧ Below w.heap.size w w' := by
  obtain ⟨rfl, h1, _⟩ := h.aff
  obtain ⟨rfl, _, _⟩ := h1.ints_len
  have HH := Lib.hid h1; clear h1 h
  by_cases hl : a.coefs.length = 4
  · have hl1 : ((a.coefs.length : Int) == 4) = true := by simp [hl]
    cases hc : inB a.const (-99) 99 with
    | false =>
      have HR := Lib.hid (show affOk a = false by simp [affOk, hc])
      have HC := Lib.hid hc
      have HL := Lib.hid hl
      clear hc hl
      go_enter Try.func62, Try.ntmps62
      go_wp2_with fail
      refine (isConst_c _ _).mono ?_
      rintro e w' ⟨rfl, rfl⟩
      rw [HC.out]
      go_wp2
      go_ret
      exact ⟨ret_bool HR.out.symm, bel⟩
    | true =>
      have HR := Lib.hid (show affOk a = !a.coefs.any coefBad by simp [affOk, hc, hl])
      have HC := Lib.hid hc
      have HL := Lib.hid hl
      clear hc hl
      go_enter Try.func62, Try.ntmps62
      go_wp2_with fail
      refine (isConst_c _ _).mono ?_
      rintro e w' ⟨rfl, rfl⟩
      rw [HC.out]
      go_wp2_with fail
      refine (ContainsFunc_int_c (HH.out.below bel) AffineValid1_e fun x W _ => AffineValid1_c x W).mono ?_
      rintro e w' ⟨rfl, rfl⟩
      go_wp2
      go_ret
      exact ⟨ret_bool HR.out.symm, bel⟩
  · have hl1 : ((a.coefs.length : Int) == 4) = false := by simp; omega
    have HR := Lib.hid (show affOk a = false by simp [affOk, hl])
    clear hl
    go_enter Try.func62, Try.ntmps62
    go_wp2
    go_ret
    exact ⟨ret_bool HR.out.symm, bel⟩

theorem l1Within_c (x hi : Int) (w : World) (h : 0 ≤ hi) (h' : hi ≤ 1000000) :
    Calls Try.prog 85 #[.int .i64 x, .int .i64 hi] w fun e w' => e = .returned (.bool (inB x (-hi) hi)) ∧ w = w' := by
  by_cases h1 : -hi ≤ x
  · by_cases h2 : x ≤ hi
    · have hr := Lib.hid (inB_true h1 h2)
      go_enter Try.func85, Try.ntmps85
      go_wp2
      go_ret
      exact ⟨ret_bool hr.out.symm, rfl⟩
    · have hr := Lib.hid (inB_hi (lo := -hi) h2)
      go_enter Try.func85, Try.ntmps85
      go_wp2
      go_ret
      exact ⟨ret_bool hr.out.symm, rfl⟩
  · have hr := Lib.hid (inB_lo (hi := hi) h1)
    go_enter Try.func85, Try.ntmps85
    go_wp2
    go_ret
    exact ⟨ret_bool hr.out.symm, rfl⟩

theorem anyBad_step {xs : List Int} {j : Nat} (h : j < xs.length) : xs.any coefBad = ((xs.take j).any coefBad || coefBad xs[j] || (xs.drop (j + 1)).any coefBad) := by
  conv => lhs; rw [← List.take_append_drop j xs, ← List.getElem_cons_drop h]
  rw [List.any_append, List.any_cons, Bool.or_assoc]
theorem anyBad_take {xs : List Int} {j : Nat} (h : j < xs.length) : (xs.take (j + 1)).any coefBad = ((xs.take j).any coefBad || coefBad xs[j]) := by
  rw [List.take_succ_eq_append_getElem h, List.any_append, List.any_cons, List.any_nil, Bool.or_false]

set_option maxHeartbeats 400000 in
theorem specAffineValid_c (h : Rep w a.d [.slice A n c, .int .i64 k] bs) :
    Calls Try.prog 60 #[.agg #[.slice A n c, .int .i64 k]] w fun e w' => e = .returned (.bool (affOk a)) ∧ Below w.heap.size w w' := by
  obtain ⟨rfl, h1, _⟩ := h.aff
  obtain ⟨rfl, h2, h3⟩ := h1.ints_len
  have hn : a.coefs.length ≤ 9223372036854775807 := Nat.le_trans h2 h3
  clear h2 h3 h
  go_enter Try.func60, Try.ntmps60
  go_wp2
  go_loop [3] (fun i => ∃ j : Nat, j ≤ a.coefs.length ∧ i = .int .i64 j ∧ (a.coefs.take j).any coefBad = false) (fun i => a.coefs.length - (intOf i).toNat)
  case atStart => exact ⟨0, Nat.zero_le _, rfl, rfl⟩
  case round =>
    obtain ⟨j, hj, rfl, ht⟩ := hrel
    have HT := Lib.hid ht; clear ht
    by_cases hlt : j < a.coefs.length
    · obtain ⟨b, o, rfl, _, hbl, hc, _⟩ := h1.ints_at hlt
      rw [gi_eq hlt] at hc
      go_wp2_with fail
      refine (l1Within_c _ _ _ (by omega) (by omega)).mono ?_
      rintro e w' ⟨rfl, rfl⟩
      cases hb : inB a.coefs[j] (-9) 9 with
      | false =>
        have HR := Lib.hid (show affOk a = false by simp [affOk, anyBad_step hlt, coefBad, hb])
        have HB := Lib.hid hb; clear hb
        go_wp2
        go_ret
        exact ⟨ret_bool HR.out.symm, bel⟩
      | true =>
        have HR := Lib.hid (show (a.coefs.take (j + 1)).any coefBad = false by rw [anyBad_take hlt, HT.out]; simp [coefBad, hb])
        have HB := Lib.hid hb; clear hb
        go_wp2
        go_round
        case rel => exact ⟨j + 1, by omega, by go_num, HR.out⟩
        case measure => simp [intOf]; omega
    · have hjj : j = a.coefs.length := by omega
      have hany : a.coefs.any coefBad = false := by have := HT.out; rwa [hjj, List.take_length] at this
      have HA := Lib.hid hany; clear hany
      subst hjj
      by_cases hl : a.coefs.length = 4
      · have hl1 : ((a.coefs.length : Int) == 4) = true := by simp [hl]
        have HR := Lib.hid (show affOk a = inB a.const (-99) 99 by simp [affOk, hl, HA.out])
        clear hl
        go_wp2_with fail
        refine (l1Within_c _ _ _ (by omega) (by omega)).mono ?_
        rintro e w' ⟨rfl, rfl⟩
        go_wp2
        go_ret
        exact ⟨ret_bool HR.out.symm, bel⟩
      · have hl1 : ((a.coefs.length : Int) == 4) = false := by simp; omega
        have HR := Lib.hid (show affOk a = false by simp [affOk, hl])
        clear hl
        go_wp2
        go_ret
        exact ⟨ret_bool HR.out.symm, bel⟩
end
end Go.Proofs.Ytadmmlflngkpiaa
