/- Texts of this seat, joined: Valid, Var, Uni, Depth, Text, Str, Grow, More, IntSS, TyInstance. -/
import Derived.Test.YtbhniobgaoncaaaGreatDoorZpCore
import Derived.Laws.IdiomStrings
import Derived.Lib.Strings
import Derived.Lib.Bytealg
import Derived.Lib.Walk
import Derived.Maps.AppendAt
import Derived.Deep.AppendLies
import Derived.OwnWalk
import Derived.Deep.Upon
/- within, isConst, AffineValid of the program; l1Within, AffineValid of the reference: both answer affOk. -/
set_option linter.all false
set_option linter.unusedSimpArgs false
set_option linter.unusedVariables false
namespace Go.Proofs.YtbhniobgaoncaaaGreatDoor
open Go.ChangeShapes Go.WideShapes Go.ChangeAt Go.RowKit Go.Deep

/-- lo ≤ n ≤ hi -/
def inB (n lo hi : Int) : Bool := decide (lo ≤ n) && decide (n ≤ hi)
def coefBad (x : Int) : Bool := !inB x (-9) 9
/-- the expression is valid -/
def affOk (a : Aff) : Bool := decide (a.coefs.length = 4) && inB a.const (-99) 99 && !a.coefs.any coefBad
theorem inB_true {n lo hi : Int} (h1 : lo ≤ n) (h2 : n ≤ hi) : inB n lo hi = true := by simp [inB, h1, h2]
theorem inB_lo {n lo hi : Int} (h1 : ¬ lo ≤ n) : inB n lo hi = false := by simp [inB, h1]
theorem inB_hi {n lo hi : Int} (h1 : ¬ n ≤ hi) : inB n lo hi = false := by simp [inB, h1]
theorem inB_iff {n lo hi : Int} : inB n lo hi = true ↔ lo ≤ n ∧ n ≤ hi := by simp [inB]

section
variable {w : World} {a : Aff} {A : Option Addr} {n c : Nat} {k : Int} {bs : List Nat}

theorem within_c (x lo hi : Int) (w : World) :
    Calls Tryz.prog 129 #[.int .i64 x, .int .i64 lo, .int .i64 hi] w fun e w' => e = .returned (.bool (inB x lo hi)) ∧ w = w' := by
  by_cases h1 : lo ≤ x
  · by_cases h2 : x ≤ hi
    · have hr := Lib.hid (inB_true h1 h2)
      go_enter Tryz.func129, Tryz.ntmps129
      go_wp2
      go_ret
      exact ⟨ret_bool hr.out.symm, rfl⟩
    · have hr := Lib.hid (inB_hi (lo := lo) h2)
      go_enter Tryz.func129, Tryz.ntmps129
      go_wp2
      go_ret
      exact ⟨ret_bool hr.out.symm, rfl⟩
  · have hr := Lib.hid (inB_lo (hi := hi) h1)
    go_enter Tryz.func129, Tryz.ntmps129
    go_wp2
    go_ret
    exact ⟨ret_bool hr.out.symm, rfl⟩

theorem isConst_c (x : Int) (w : World) :
    Calls Tryz.prog 191 #[.int .i64 x] w fun e w' => e = .returned (.bool (inB x (-99) 99)) ∧ w = w' := by
  go_enter Tryz.func191, Tryz.ntmps191
  go_wp2_with fail
  refine (within_c _ _ _ _).mono ?_
  rintro e w' ⟨rfl, rfl⟩
  go_wp2
  go_ret
  exact ⟨rfl, rfl⟩

theorem AffineValid1_c (x : Int) (W : World) : Calls Tryz.prog 192 (#[.int .i64 x] ++ #[]) W fun e w' => e = .returned (.bool (coefBad x)) ∧ W = w' := by
  show Calls Tryz.prog 192 #[.int .i64 x] W _
  go_enter Tryz.func192, Tryz.ntmps192
  go_wp2_with fail
  refine (within_c _ _ _ _).mono ?_
  rintro e w' ⟨rfl, rfl⟩
  go_wp2
  go_ret
  exact ⟨rfl, rfl⟩
theorem AffineValid1_e : Enters Tryz.prog 192 := fun args W => by go_simp

set_option maxHeartbeats 400000 in
theorem implAffineValid_c (h : Rep w a.d [.slice A n c, .int .i64 k] bs) :
    Calls Tryz.prog 145 #[.agg #[.slice A n c, .int .i64 k]] w fun e w' => e = .returned (.bool (affOk a)) ∧ Below w.heap.size w w' := by
  obtain ⟨rfl, h1, _⟩ := h.aff
  obtain ⟨rfl, _, _⟩ := h1.ints_len
  have HH := Lib.hid h1; clear h1 h
  by_cases hl : a.coefs.length = 4
  · have hl1 : ((a.coefs.length : Int) == 4) = true := by simp [hl]
    cases hc : inB a.const (-99) 99 with
    | false =>
      have HR := Lib.hid (show affOk a = false by simp [affOk, hc])
      have HC := Lib.hid hc
      have HL := Lib.hid hl
      clear hc hl
      go_enter Tryz.func145, Tryz.ntmps145
      go_wp2_with fail
      refine (isConst_c _ _).mono ?_
      rintro e w' ⟨rfl, rfl⟩
      rw [HC.out]
      go_wp2
      go_ret
      exact ⟨ret_bool HR.out.symm, bel⟩
    | true =>
      have HR := Lib.hid (show affOk a = !a.coefs.any coefBad by simp [affOk, hc, hl])
      have HC := Lib.hid hc
      have HL := Lib.hid hl
      clear hc hl
      go_enter Tryz.func145, Tryz.ntmps145
      go_wp2_with fail
      refine (isConst_c _ _).mono ?_
      rintro e w' ⟨rfl, rfl⟩
      rw [HC.out]
      go_wp2_with fail
      refine (ContainsFunc_int_c (HH.out.below bel) AffineValid1_e fun x W _ => AffineValid1_c x W).mono ?_
      rintro e w' ⟨rfl, rfl⟩
      go_wp2
      go_ret
      exact ⟨ret_bool HR.out.symm, bel⟩
  · have hl1 : ((a.coefs.length : Int) == 4) = false := by simp; omega
    have HR := Lib.hid (show affOk a = false by simp [affOk, hl])
    clear hl
    go_enter Tryz.func145, Tryz.ntmps145
    go_wp2
    go_ret
    exact ⟨ret_bool HR.out.symm, bel⟩

theorem l1Within_c (x hi : Int) (w : World) (h : 0 ≤ hi) (h' : hi ≤ 1000000) :
    Calls Tryz.prog 172 #[.int .i64 x, .int .i64 hi] w fun e w' => e = .returned (.bool (inB x (-hi) hi)) ∧ w = w' := by
  by_cases h1 : -hi ≤ x
  · by_cases h2 : x ≤ hi
    · have hr := Lib.hid (inB_true h1 h2)
      go_enter Tryz.func172, Tryz.ntmps172
      go_wp2
      go_ret
      exact ⟨ret_bool hr.out.symm, rfl⟩
    · have hr := Lib.hid (inB_hi (lo := -hi) h2)
      go_enter Tryz.func172, Tryz.ntmps172
      go_wp2
      go_ret
      exact ⟨ret_bool hr.out.symm, rfl⟩
  · have hr := Lib.hid (inB_lo (hi := hi) h1)
    go_enter Tryz.func172, Tryz.ntmps172
    go_wp2
    go_ret
    exact ⟨ret_bool hr.out.symm, rfl⟩

theorem anyBad_step {xs : List Int} {j : Nat} (h : j < xs.length) : xs.any coefBad = ((xs.take j).any coefBad || coefBad xs[j] || (xs.drop (j + 1)).any coefBad) := by
  conv => lhs; rw [← List.take_append_drop j xs, ← List.getElem_cons_drop h]
  rw [List.any_append, List.any_cons, Bool.or_assoc]
theorem anyBad_take {xs : List Int} {j : Nat} (h : j < xs.length) : (xs.take (j + 1)).any coefBad = ((xs.take j).any coefBad || coefBad xs[j]) := by
  rw [List.take_succ_eq_append_getElem h, List.any_append, List.any_cons, List.any_nil, Bool.or_false]

set_option maxHeartbeats 400000 in
theorem specAffineValid_c (h : Rep w a.d [.slice A n c, .int .i64 k] bs) :
    Calls Tryz.prog 138 #[.agg #[.slice A n c, .int .i64 k]] w fun e w' => e = .returned (.bool (affOk a)) ∧ Below w.heap.size w w' := by
  obtain ⟨rfl, h1, _⟩ := h.aff
  obtain ⟨rfl, h2, h3⟩ := h1.ints_len
  have hn : a.coefs.length ≤ 9223372036854775807 := Nat.le_trans h2 h3
  clear h2 h3 h
  go_enter Tryz.func138, Tryz.ntmps138
  go_wp2
  go_loop [3] (fun i => ∃ j : Nat, j ≤ a.coefs.length ∧ i = .int .i64 j ∧ (a.coefs.take j).any coefBad = false) (fun i => a.coefs.length - (intOf i).toNat)
  case atStart => exact ⟨0, Nat.zero_le _, rfl, rfl⟩
  case round =>
    obtain ⟨j, hj, rfl, ht⟩ := hrel
    have HT := Lib.hid ht; clear ht
    by_cases hlt : j < a.coefs.length
    · obtain ⟨b, o, rfl, _, hbl, hc, _⟩ := h1.ints_at hlt
      rw [gi_eq hlt] at hc
      go_wp2_with fail
      refine (l1Within_c _ _ _ (by omega) (by omega)).mono ?_
      rintro e w' ⟨rfl, rfl⟩
      cases hb : inB a.coefs[j] (-9) 9 with
      | false =>
        have HR := Lib.hid (show affOk a = false by simp [affOk, anyBad_step hlt, coefBad, hb])
        have HB := Lib.hid hb; clear hb
        go_wp2
        go_ret
        exact ⟨ret_bool HR.out.symm, bel⟩
      | true =>
        have HR := Lib.hid (show (a.coefs.take (j + 1)).any coefBad = false by rw [anyBad_take hlt, HT.out]; simp [coefBad, hb])
        have HB := Lib.hid hb; clear hb
        go_wp2
        go_round
        case rel => exact ⟨j + 1, by omega, by go_num, HR.out⟩
        case measure => simp [intOf]; omega
    · have hjj : j = a.coefs.length := by omega
      have hany : a.coefs.any coefBad = false := by have := HT.out; rwa [hjj, List.take_length] at this
      have HA := Lib.hid hany; clear hany
      subst hjj
      by_cases hl : a.coefs.length = 4
      · have hl1 : ((a.coefs.length : Int) == 4) = true := by simp [hl]
        have HR := Lib.hid (show affOk a = inB a.const (-99) 99 by simp [affOk, hl, HA.out])
        clear hl
        go_wp2_with fail
        refine (l1Within_c _ _ _ (by omega) (by omega)).mono ?_
        rintro e w' ⟨rfl, rfl⟩
        go_wp2
        go_ret
        exact ⟨ret_bool HR.out.symm, bel⟩
      · have hl1 : ((a.coefs.length : Int) == 4) = false := by simp; omega
        have HR := Lib.hid (show affOk a = false by simp [affOk, hl])
        clear hl
        go_wp2
        go_ret
        exact ⟨ret_bool HR.out.symm, bel⟩
end
end Go.Proofs.YtbhniobgaoncaaaGreatDoor

/- Constants and variables as affine expressions: constant, variable, VarAffine of the program; l1Zero, l1Const, l1Var, VarAffine of the reference. AffineSame of both. -/
namespace Go.Proofs.YtbhniobgaoncaaaGreatDoor
open Go.ChangeShapes Go.WideShapes Go.ChangeAt Go.RowKit Go.Deep

/-- the call answers a new affine expression -/
def MadeAff (w : World) (a : Aff) (e : Ending) (w' : World) : Prop :=
  ∃ A n c k bs, e = .returned (.agg #[.slice A n c, .int .i64 k]) ∧ Rep w' a.d [.slice A n c, .int .i64 k] bs ∧ bs.Nodup ∧ (∀ b ∈ bs, w.heap.size ≤ b) ∧ Below w.heap.size w w'
end Go.Proofs.YtbhniobgaoncaaaGreatDoor

/- The law package's functions on integers and affine expressions, in the form that lawgen.py's walks ask for. -/
namespace Go.Proofs.YtbhniobgaoncaaaGreatDoor
open Go.ChangeShapes Go.WideShapes Go.ChangeAt Go.RowKit Go.Deep

end Go.Proofs.YtbhniobgaoncaaaGreatDoor

/- Depths and values of affine expressions: depth, AffineDepth, isPoint, eval, EvalAffine of the program; l1Depth, AffineDepth, l1Point, l1Eval, EvalAffine of the reference. -/
namespace Go.Proofs.YtbhniobgaoncaaaGreatDoor
open Go.ChangeShapes Go.WideShapes Go.ChangeAt Go.RowKit Go.Deep

/-- 1 plus the last index below j whose number is not 0, or 0 -/
def depTo (xs : List Int) : Nat → Nat
  | 0 => 0
  | j + 1 => if gi xs j = 0 then depTo xs j else j + 1
def depF (xs : List Int) : Nat := depTo xs xs.length
theorem depTo_le (xs : List Int) : ∀ j, depTo xs j ≤ j
  | 0 => Nat.le_refl _
  | j + 1 => by unfold depTo; split; have := depTo_le xs j; omega; omega
def ptBad (x : Int) : Bool := !inB x (-9999) 9999
def ptOk (xs : List Int) : Bool := decide (xs.length ≤ 4) && !xs.any ptBad
/-- the value at a point's first j coordinates -/
def evTo (a : Aff) (pt : List Int) : Nat → Int
  | 0 => a.const
  | j + 1 => evTo a pt j + gi a.coefs j * gi pt j
def evF (a : Aff) (pt : List Int) : Int := evTo a pt pt.length
section
variable {w : World} {a : Aff} {A : Option Addr} {n c : Nat} {k : Int} {bs : List Nat} {xs : List Int}

set_option maxHeartbeats 400000 in
theorem l1Depth_c (h : Rep w a.d [.slice A n c, .int .i64 k] bs) :
    Calls Tryz.prog 139 #[.agg #[.slice A n c, .int .i64 k]] w fun e w' => e = .returned (.int .i64 (depF a.coefs)) ∧ Below w.heap.size w w' := by
  obtain ⟨rfl, h1, _⟩ := h.aff
  obtain ⟨rfl, h2, h3⟩ := h1.ints_len
  have hn : a.coefs.length ≤ 9223372036854775807 := Nat.le_trans h2 h3
  clear h2 h3 h
  go_enter Tryz.func139, Tryz.ntmps139
  go_wp2
  go_loop [3, 4] (fun q i => ∃ j : Nat, j ≤ a.coefs.length ∧ i = .int .i64 j ∧ q = .int .i64 (depTo a.coefs j)) (fun _ i => a.coefs.length - (intOf i).toNat)
  case atStart => exact ⟨0, Nat.zero_le _, rfl, rfl⟩
  case round =>
    obtain ⟨j, hj, rfl, rfl⟩ := hrel
    by_cases hlt : j < a.coefs.length
    · obtain ⟨b, o, rfl, _, hbl, hc, _⟩ := h1.ints_at hlt
      by_cases hz : gi a.coefs j = 0
      · have HD := Lib.hid (show depTo a.coefs (j + 1) = depTo a.coefs j from if_pos hz)
        have hz1 : (gi a.coefs j != 0) = false := by simp [hz]
        have HZ := Lib.hid hz; clear hz
        go_wp2
        go_round
        case rel => exact ⟨j + 1, by omega, by go_num, by rw [HD.out]⟩
        case measure => simp [intOf]; omega
      · have HD := Lib.hid (show depTo a.coefs (j + 1) = j + 1 from if_neg hz)
        have hz1 : (gi a.coefs j != 0) = true := by simp [hz]
        clear hz
        go_wp2
        go_round
        case rel => exact ⟨j + 1, by omega, by go_num, by rw [HD.out]; go_num⟩
        case measure => simp [intOf]; omega
    · have hjj : j = a.coefs.length := by omega
      subst hjj
      go_wp2
      go_ret
      exact ⟨rfl, bel⟩

set_option maxHeartbeats 400000 in
theorem depth_c (h : Rep w a.d [.slice A n c, .int .i64 k] bs) :
    Calls Tryz.prog 146 #[.agg #[.slice A n c, .int .i64 k]] w fun e w' => e = .returned (.int .i64 (depF a.coefs)) ∧ Below w.heap.size w w' := by
  obtain ⟨rfl, h1, _⟩ := h.aff
  obtain ⟨rfl, h2, h3⟩ := h1.ints_len
  have hn : a.coefs.length ≤ 9223372036854775807 := Nat.le_trans h2 h3
  clear h2 h3 h
  go_enter Tryz.func146, Tryz.ntmps146
  go_wp2
  go_loop [3] (fun q => ∃ j : Nat, j ≤ a.coefs.length ∧ q = .int .i64 j ∧ depF a.coefs = depTo a.coefs j) (fun q => (intOf q).toNat)
  case atStart => exact ⟨_, Nat.le_refl _, rfl, rfl⟩
  case round =>
    obtain ⟨j, hj, rfl, hd⟩ := hrel
    have HD := Lib.hid hd; clear hd
    rcases j with _ | j
    · go_wp2
      go_ret
      exact ⟨ret_int (by rw [HD.out]; rfl), bel⟩
    · obtain ⟨b, o, rfl, _, hbl, hc, _⟩ := h1.ints_at (k := j) (by omega)
      by_cases hz : gi a.coefs j = 0
      · have HE := Lib.hid (show depTo a.coefs (j + 1) = depTo a.coefs j from if_pos hz)
        have hz1 : (gi a.coefs j == 0) = true := by simp [hz]
        have HZ := Lib.hid hz; clear hz
        go_wp2
        go_round
        case rel => exact ⟨j, by omega, by go_num, by rw [HD.out, HE.out]⟩
        case measure => simp [intOf]
      · have HE := Lib.hid (show depTo a.coefs (j + 1) = j + 1 from if_neg hz)
        have hz1 : (gi a.coefs j == 0) = false := by simp [hz]
        clear hz
        go_wp2
        go_ret
        exact ⟨ret_int (by rw [HD.out, HE.out]; go_num), bel⟩

/-- bounds under which eval neither wraps nor panics: at most as many coordinates as coefficients, the coefficients at most 9, the coordinates at most 10^12 -/
structure EvBd (a : Aff) (pt : List Int) : Prop where
  len : pt.length ≤ a.coefs.length
  len4 : pt.length ≤ 4
  const : -99 ≤ a.const ∧ a.const ≤ 99
  coef : ∀ x ∈ a.coefs, -9 ≤ x ∧ x ≤ 9
  pt : ∀ x ∈ pt, -1000000000000 ≤ x ∧ x ≤ 1000000000000
theorem mul_bd {x y m n : Int} (hx : -m ≤ x ∧ x ≤ m) (hy : -n ≤ y ∧ y ≤ n) : -(m * n) ≤ x * y ∧ x * y ≤ m * n := by
  have h1 : 0 ≤ (m - x) * (n + y) := Int.mul_nonneg (by omega) (by omega)
  have h2 : 0 ≤ (m + x) * (n - y) := Int.mul_nonneg (by omega) (by omega)
  have h3 : 0 ≤ (m - x) * (n - y) := Int.mul_nonneg (by omega) (by omega)
  have h4 : 0 ≤ (m + x) * (n + y) := Int.mul_nonneg (by omega) (by omega)
  simp only [Int.sub_mul, Int.add_mul, Int.mul_sub, Int.mul_add] at h1 h2 h3 h4
  omega
theorem EvBd.prod {a : Aff} {pt : List Int} (h : EvBd a pt) (j : Nat) : -9000000000000 ≤ gi a.coefs j * gi pt j ∧ gi a.coefs j * gi pt j ≤ 9000000000000 := by
  have h1 : -9 ≤ gi a.coefs j ∧ gi a.coefs j ≤ 9 := by
    rcases Nat.lt_or_ge j a.coefs.length with hj | hj
    · rw [gi_eq hj]; exact h.coef _ (List.getElem_mem _)
    · simp [gi, List.getD_eq_getElem?_getD, hj]
  have h2 : -1000000000000 ≤ gi pt j ∧ gi pt j ≤ 1000000000000 := by
    rcases Nat.lt_or_ge j pt.length with hj | hj
    · rw [gi_eq hj]; exact h.pt _ (List.getElem_mem _)
    · simp [gi, List.getD_eq_getElem?_getD, hj]
  have := mul_bd h1 h2
  omega
theorem EvBd.ev {a : Aff} {pt : List Int} (h : EvBd a pt) : ∀ j : Nat, -99 - 9000000000000 * (j : Int) ≤ evTo a pt j ∧ evTo a pt j ≤ 99 + 9000000000000 * (j : Int)
  | 0 => by have := h.const; simp only [evTo]; omega
  | j + 1 => by
    have h1 := EvBd.ev h j
    have h2 := h.prod j
    simp only [evTo]; omega
theorem affOk_iff {a : Aff} : affOk a = true ↔ a.coefs.length = 4 ∧ (-99 ≤ a.const ∧ a.const ≤ 99) ∧ ∀ x ∈ a.coefs, -9 ≤ x ∧ x ≤ 9 := by
  simp only [affOk, Bool.and_eq_true, decide_eq_true_iff, inB_iff, Bool.not_eq_true', List.any_eq_false, coefBad, Bool.not_eq_true]
  constructor
  · rintro ⟨⟨h1, h2⟩, h3⟩
    exact ⟨h1, h2, fun x hx => by have := h3 x hx; simp at this; exact inB_iff.1 this⟩
  · rintro ⟨h1, h2, h3⟩
    exact ⟨⟨h1, h2⟩, fun x hx => by simp; exact inB_iff.2 (h3 x hx)⟩
theorem isPoint1_c (x : Int) (W : World) : Calls Tryz.prog 180 (#[.int .i64 x] ++ #[]) W fun e w' => e = .returned (.bool (ptBad x)) ∧ W = w' := by
  show Calls Tryz.prog 180 #[.int .i64 x] W _
  go_enter Tryz.func180, Tryz.ntmps180
  go_wp2_with fail
  refine (within_c _ _ _ _).mono ?_
  rintro e w' ⟨rfl, rfl⟩
  go_wp2
  go_ret
  exact ⟨rfl, rfl⟩
theorem isPoint1_e : Enters Tryz.prog 180 := fun args W => by go_simp
theorem isPoint_c (h : Rep w (ints xs) [.slice A n c] bs) :
    Calls Tryz.prog 132 #[.slice A n c] w fun e w' => e = .returned (.bool (ptOk xs)) ∧ w = w' := by
  obtain ⟨rfl, _, _⟩ := h.ints_len
  have H := Lib.hid h; clear h
  by_cases hl : xs.length ≤ 4
  · have HR := Lib.hid (show ptOk xs = !xs.any ptBad by simp [ptOk, hl])
    go_enter Tryz.func132, Tryz.ntmps132
    go_wp2_with fail
    refine (ContainsFunc_int_c H.out isPoint1_e fun x W _ => isPoint1_c x W).mono ?_
    rintro e w' ⟨rfl, rfl⟩
    go_wp2
    go_ret
    exact ⟨ret_bool HR.out.symm, rfl⟩
  · have HR := Lib.hid (show ptOk xs = false by simp [ptOk]; intro h; omega)
    go_enter Tryz.func132, Tryz.ntmps132
    go_wp2
    go_ret
    exact ⟨ret_bool HR.out.symm, rfl⟩

theorem anyPt_step {xs : List Int} {j : Nat} (h : j < xs.length) : xs.any ptBad = ((xs.take j).any ptBad || (ptBad xs[j] || (xs.drop (j + 1)).any ptBad)) := by
  conv => lhs; rw [← List.take_append_drop j xs, ← List.getElem_cons_drop h]
  rw [List.any_append, List.any_cons]
theorem anyPt_take {xs : List Int} {j : Nat} (h : j < xs.length) : (xs.take (j + 1)).any ptBad = ((xs.take j).any ptBad || ptBad xs[j]) := by
  rw [List.take_succ_eq_append_getElem h, List.any_append, List.any_cons, List.any_nil, Bool.or_false]

set_option maxHeartbeats 400000 in
theorem l1Point_c (h : Rep w (ints xs) [.slice A n c] bs) :
    Calls Tryz.prog 122 #[.slice A n c] w fun e w' => e = .returned (.bool (ptOk xs)) ∧ w = w' := by
  obtain ⟨rfl, h2, h3⟩ := h.ints_len
  have hn : xs.length ≤ 9223372036854775807 := Nat.le_trans h2 h3
  clear h2 h3
  go_enter Tryz.func122, Tryz.ntmps122
  go_wp2
  go_loop [3] (fun i => ∃ j : Nat, j ≤ xs.length ∧ i = .int .i64 j ∧ (xs.take j).any ptBad = false) (fun i => xs.length - (intOf i).toNat)
  case atStart => exact ⟨0, Nat.zero_le _, rfl, rfl⟩
  case round =>
    obtain ⟨j, hj, rfl, ht⟩ := hrel
    have HT := Lib.hid ht; clear ht
    by_cases hlt : j < xs.length
    · obtain ⟨b, o, rfl, _, hbl, hc, _⟩ := h.ints_at hlt
      rw [gi_eq hlt] at hc
      go_wp2_with fail
      refine (l1Within_c _ _ _ (by omega) (by omega)).mono ?_
      rintro e w' ⟨rfl, rfl⟩
      cases hb : inB xs[j] (-9999) 9999 with
      | false =>
        have HR := Lib.hid (show ptOk xs = false by simp [ptOk, anyPt_step hlt, ptBad, hb])
        have HB := Lib.hid hb; clear hb
        go_wp2
        go_ret
        exact ⟨ret_bool HR.out.symm, rfl⟩
      | true =>
        have HR := Lib.hid (show (xs.take (j + 1)).any ptBad = false by rw [anyPt_take hlt, HT.out]; simp [ptBad, hb])
        have HB := Lib.hid hb; clear hb
        go_wp2
        go_round
        case rel => exact ⟨j + 1, by omega, by go_num, HR.out⟩
        case measure => simp [intOf]; omega
    · have hjj : j = xs.length := by omega
      have hany : xs.any ptBad = false := by have := HT.out; rwa [hjj, List.take_length] at this
      have HA := Lib.hid hany; clear hany
      subst hjj
      by_cases hl : xs.length ≤ 4
      · have HR := Lib.hid (show ptOk xs = true by simp [ptOk, hl, HA.out])
        go_wp2
        go_ret
        exact ⟨ret_bool (by rw [HR.out, decide_eq_true_iff]; omega), rfl⟩
      · have HR := Lib.hid (show ptOk xs = false by simp [ptOk]; intro h; omega)
        go_wp2
        go_ret
        exact ⟨ret_bool (by rw [HR.out, decide_eq_false_iff_not]; omega), rfl⟩

set_option maxHeartbeats 400000 in
theorem eval_c {B : Option Addr} {m d : Nat} {bs' : List Nat} (h : Rep w a.d [.slice A n c, .int .i64 k] bs) (hp : Rep w (ints xs) [.slice B m d] bs') (he : EvBd a xs) :
    Calls Tryz.prog 232 #[.agg #[.slice A n c, .int .i64 k], .slice B m d] w fun e w' => e = .returned (.int .i64 (evF a xs)) ∧ Below w.heap.size w w' := by
  obtain ⟨rfl, h1, _⟩ := h.aff
  obtain ⟨rfl, _, _⟩ := h1.ints_len
  obtain ⟨rfl, _, _⟩ := hp.ints_len
  have hl4 := he.len4
  have hle := he.len
  have HE := Lib.hid he; clear he h
  go_enter Tryz.func232, Tryz.ntmps232
  go_wp2
  go_loop [5, 12] (fun q i => ∃ j : Nat, j ≤ xs.length ∧ i = .int .i64 j ∧ q = .int .i64 (evTo a xs j)) (fun _ i => xs.length - (intOf i).toNat)
  case atStart => exact ⟨0, Nat.zero_le _, rfl, rfl⟩
  case round =>
    obtain ⟨j, hj, rfl, rfl⟩ := hrel
    by_cases hlt : j < xs.length
    · obtain ⟨b, o, rfl, _, hbl, hc, _⟩ := h1.ints_at (k := j) (by omega)
      obtain ⟨b', o', rfl, _, hbl', hc', _⟩ := hp.ints_at hlt
      obtain ⟨q1, q2⟩ := HE.out.prod j
      obtain ⟨e1, e2⟩ := HE.out.ev j
      have HS := Lib.hid (show evTo a xs (j + 1) = evTo a xs j + gi a.coefs j * gi xs j from rfl)
      go_wp2
      go_round
      case rel => exact ⟨j + 1, by omega, by go_num, by rw [HS.out]⟩
      case measure => simp [intOf]; omega
    · have hjj : j = xs.length := by omega
      subst hjj
      go_wp2
      go_ret
      exact ⟨rfl, bel⟩

set_option maxHeartbeats 400000 in
theorem l1Eval_c {B : Option Addr} {m d : Nat} {bs' : List Nat} (h : Rep w a.d [.slice A n c, .int .i64 k] bs) (hp : Rep w (ints xs) [.slice B m d] bs') (he : EvBd a xs) :
    Calls Tryz.prog 224 #[.agg #[.slice A n c, .int .i64 k], .slice B m d] w fun e w' => e = .returned (.int .i64 (evF a xs)) ∧ Below w.heap.size w w' := by
  obtain ⟨rfl, h1, _⟩ := h.aff
  obtain ⟨rfl, _, _⟩ := h1.ints_len
  obtain ⟨rfl, _, _⟩ := hp.ints_len
  have hl4 := he.len4
  have hle := he.len
  have HE := Lib.hid he; clear he h
  go_enter Tryz.func224, Tryz.ntmps224
  go_wp2
  have P0 : Box2 (w.alloc (.cells #[.slice A a.coefs.length c, .int .i64 a.const] 46)) w.heap.size (.slice A a.coefs.length c) (.int .i64 a.const) := Box2.new w _ _ _
  go_loopw [5, 6] (fun q i wr => ∃ j : Nat, j ≤ xs.length ∧ i = .int .i64 j ∧ q = .int .i64 (evTo a xs j) ∧ ∃ nq, wr = (w.alloc (.cells #[.slice A a.coefs.length c, .int .i64 a.const] 46)).drewN nq) (fun _ i _ => xs.length - (intOf i).toNat)
  case atStart => exact ⟨0, Nat.zero_le _, rfl, rfl, 0, rfl⟩
  case round =>
    obtain ⟨j, hj, rfl, rfl, nq, rfl⟩ := hrel
    by_cases hlt : j < xs.length
    · obtain ⟨b, o, rfl, _, hbl, hc, _⟩ := h1.ints_at (k := j) (by omega)
      obtain ⟨b', o', rfl, _, hbl', hc', _⟩ := hp.ints_at hlt
      obtain ⟨q1, q2⟩ := HE.out.prod j
      obtain ⟨e1, e2⟩ := HE.out.ev j
      have HS := Lib.hid (show evTo a xs (j + 1) = evTo a xs j + gi a.coefs j * gi xs j from rfl)
      have hlt2 : j < a.coefs.length := by omega
      go_wp2
      go_quiet (fail)
      go_wp2
      go_roundw
      case rel => exact ⟨j + 1, by omega, by go_num, by rw [HS.out], _, rfl⟩
      case measure => simp [intOf]; omega
    · have hjj : j = xs.length := by omega
      subst hjj
      go_wp2
      go_ret
      exact ⟨rfl, bel⟩

end
end Go.Proofs.YtbhniobgaoncaaaGreatDoor

/- Texts: what laws.markText writes. -/
namespace Go.Proofs.YtbhniobgaoncaaaGreatDoor
open Go.ChangeShapes Go.WideShapes Go.ChangeAt Go.RowKit Go.Deep

theorem add_none1 (b o j : Nat) : (⟨b, o, none⟩ : Addr).add j = ⟨b, o + j, none⟩ := by
  unfold Addr.add; split
  · simp_all
  · rfl
end Go.Proofs.YtbhniobgaoncaaaGreatDoor

/- Names of arrays: strings.Contains at one byte (after the shelf's templates), isArray of the program. -/
namespace Go.Proofs.YtbhniobgaoncaaaGreatDoor
open Go.ChangeShapes Go.WideShapes Go.ChangeAt Go.RowKit Go.Deep

set_option maxHeartbeats 1000000 in
set_option maxRecDepth 100000 in
theorem stringslite_IndexByte_c (s : ByteArray) (c : Int) (w : World) :
    Calls Tryz.prog 162 #[.string s, .int .u8 c] w fun e w' => e = .returned (.int .i64 (Lib.indexByte s.data.toList c.toNat.toUInt8)) ∧ w = w' := by
  go_enter Tryz.func162, Tryz.ntmps162
  go_wp2
  rw [run_callFunc_extern Tryz.func213 (by kernel_rfl) (by kernel_rfl) (by kernel_rfl) (e := Extern.BytealgIndexByte.indexByte) (by kernel_rfl), Lib.run_indexByteString]
  simp only [Result.andThen]
  rw [Oper.upon_value]
  go_wp2
  go_ret
  exact ⟨rfl, rfl⟩
set_option maxHeartbeats 2000000 in
set_option maxRecDepth 100000 in
theorem stringslite_Index_c (s : ByteArray) (c : UInt8) (w : World) :
    Calls Tryz.prog 189 #[.string s, .string ⟨#[c]⟩] w fun e w' => e = .returned (.int .i64 (Lib.indexByte s.data.toList c)) ∧ w = w' := by
  go_enter Tryz.func189, Tryz.ntmps189
  go_wp2_with (go_at_call 162; refine (stringslite_IndexByte_c _ _ _).mono ?_; rintro e w' ⟨rfl, rfl⟩)
  · have h : ([c] == s.toList) = true := by assumption
    go_ret
    refine ⟨?_, rfl⟩
    have e : s.data.toList = [c] := by rw [← Lib.toList_data]; exact (beq_iff_eq.1 h).symm
    rw [e]
    simp [Lib.indexByte]
  · go_ret
    exact ⟨rfl, rfl⟩
set_option maxHeartbeats 1000000 in
theorem strings_Index_c (s : ByteArray) (c : UInt8) (w : World) :
    Calls Tryz.prog 142 #[.string s, .string ⟨#[c]⟩] w fun e w' => e = .returned (.int .i64 (Lib.indexByte s.data.toList c)) ∧ w = w' := by
  go_enter Tryz.func142, Tryz.ntmps142
  go_wp2_with (go_at_call 189; refine (stringslite_Index_c _ _ _).mono ?_; rintro e w' ⟨rfl, rfl⟩)
  go_ret
  exact ⟨rfl, rfl⟩
set_option maxHeartbeats 1000000 in
theorem strings_Contains_c (s : ByteArray) (c : UInt8) (w : World) :
    Calls Tryz.prog 228 #[.string s, .string ⟨#[c]⟩] w fun e w' => e = .returned (.bool (decide (0 ≤ Lib.indexByte s.data.toList c))) ∧ w = w' := by
  go_enter Tryz.func228, Tryz.ntmps228
  go_wp2_with (go_at_call 142; refine (strings_Index_c _ _ _).mono ?_; rintro e w' ⟨rfl, rfl⟩)
  go_ret
  exact ⟨rfl, rfl⟩

/-- the name of an array: A, B, C or D -/
def arrL : List UInt8 → Bool
  | [c] => decide (65 ≤ c.toNat) && decide (c.toNat ≤ 68)
  | _ => false
def arrOk (s : ByteArray) : Bool := arrL s.data.toList
theorem arrOk_ne {s : ByteArray} (h : ¬ s.size = 1) : arrOk s = false := by
  unfold arrOk
  have hl : s.data.toList.length = s.size := rfl
  rcases hx : s.data.toList with _ | ⟨c, _ | ⟨d, l⟩⟩
  · rfl
  · rw [hx] at hl; exact absurd hl.symm h
  · rfl
theorem one_byte {s : ByteArray} (h : s.size = 1) : ∃ c, s = ⟨#[c]⟩ := by
  obtain ⟨⟨l⟩⟩ := s
  have hl : l.length = 1 := h
  rcases l with _ | ⟨c, _ | ⟨d, l⟩⟩
  · cases hl
  · exact ⟨c, rfl⟩
  · simp at hl
theorem arrOk_one (c : UInt8) : arrOk ⟨#[c]⟩ = decide (0 ≤ Lib.indexByte [65, 66, 67, 68] c) := by
  show (decide (65 ≤ c.toNat) && decide (c.toNat ≤ 68)) = _
  have h : ∀ n : Nat, n < 256 → (decide (65 ≤ (UInt8.ofNat n).toNat) && decide ((UInt8.ofNat n).toNat ≤ 68)) = decide (0 ≤ Lib.indexByte [65, 66, 67, 68] (UInt8.ofNat n)) := by decide +kernel
  have := h c.toNat c.toNat_lt
  rwa [UInt8.ofNat_toNat] at this

theorem bl_one (a b : UInt8) : Op.bytesLess [a] [b] = decide (a.toNat < b.toNat) := by
  simp [Op.bytesLess, UInt8.lt_iff_toNat_lt]
theorem arrL_one (c : UInt8) : arrOk ⟨#[c]⟩ = (decide (65 ≤ c.toNat) && decide (c.toNat ≤ 68)) := rfl

theorem isArray_c (s : ByteArray) (hs : s.size ≤ maxLen) (w : World) :
    Calls Tryz.prog 175 #[.string s] w fun e w' => e = .returned (.bool (arrOk s)) ∧ w = w' := by
  have hs2 : s.size ≤ 9223372036854775807 := Nat.le_trans hs (by unfold maxLen; omega)
  by_cases h : s.size = 1
  · obtain ⟨c, rfl⟩ := one_byte h
    rw [arrOk_one]
    go_enter Tryz.func175, Tryz.ntmps175
    go_wp2_with fail
    refine (strings_Contains_c _ c _).mono ?_
    rintro e w' ⟨rfl, rfl⟩
    go_wp2
    go_ret
    exact ⟨rfl, rfl⟩
  · have h1 : ((s.size : Int) == 1) = false := by simp; omega
    rw [arrOk_ne h]
    clear hs
    go_enter Tryz.func175, Tryz.ntmps175
    go_wp2
    go_ret
    exact ⟨rfl, rfl⟩
end Go.Proofs.YtbhniobgaoncaaaGreatDoor

/- A slice of the call's own that grows by append, element by element: what it reads as; append's law on it. -/
namespace Go.Proofs.YtbhniobgaoncaaaGreatDoor
open Go.ChangeShapes Go.WideShapes Go.ChangeAt Go.RowKit Go.Deep

/-- the value v is a slice of elements e (size cells each) that the call has made since the heap had B blocks; it reads as xs -/
def Grow (w : World) (B : Nat) (e : TypeId) (size : Nat) (v : Value) (xs : List D) : Prop :=
  ∃ es cb, w.ownsRow B e size v xs.length es ∧ Reps w xs es cb ∧ cb.Nodup ∧ (∀ y ∈ cb, B ≤ y) ∧ ∀ g, v.ownBlock = some g → g ∉ cb

section
variable {w w' w0 : World} {B : Nat} {e : TypeId} {size : Nat} {v : Value} {xs : List D}
theorem Grow.nil (w : World) (B : Nat) (e : TypeId) (size : Nat) : Grow w B e size (.slice none 0 0) [] :=
  ⟨[], [], ⟨by simp, .inl ⟨rfl, rfl⟩⟩, ⟨rfl, rfl⟩, by simp, by simp, fun g h => by cases h⟩
theorem Grow.made (w : World) {B : Nat} (e : TypeId) (size : Nat) (hB : B ≤ w.heap.size) : Grow (w.alloc (.cells #[] e)) B e size (.slice (some ⟨w.heap.size, 0, none⟩) 0 0) [] :=
  ⟨[], [], ⟨by simp, .inr ⟨w.heap.size, 0, #[], rfl, hB, heap_alloc_new w _, Nat.le_refl _, Nat.zero_le _, by simp, by simp⟩⟩, ⟨rfl, rfl⟩, by simp, by simp, by simp⟩
theorem own_kept {n : Nat} {es : List Value} (h : w.ownsRow B e size v n es) (hs : w.heap.size ≤ w'.heap.size) (hb : ∀ g, B ≤ g → g < w.heap.size → w'.heap[g]? = w.heap[g]?) : w'.ownsRow B e size v n es := by
  refine ⟨h.1, ?_⟩
  rcases h.2 with h0 | ⟨g, cap, cur, rfl, h1, h2, h3, h4, h5, h6⟩
  · exact .inl h0
  · have hlt : g < w.heap.size := by
      rcases Nat.lt_or_ge g w.heap.size with hlt | hge
      · exact hlt
      · rw [Array.getElem?_eq_none hge] at h2; cases h2
    exact .inr ⟨g, cap, cur, rfl, h1, (hb g h1 hlt).trans h2, h3, h4, h5, h6⟩
theorem own_lt' {n g : Nat} {es : List Value} (h : w.ownsRow B e size v n es) (hg : v.ownBlock = some g) : B ≤ g ∧ g < w.heap.size := by
  rcases h.2 with ⟨rfl, _⟩ | ⟨g', cap, cur, rfl, h1, hh, _⟩
  · cases hg
  · have : g' = g := by simpa [Value.ownBlock] using hg
    subst this
    refine ⟨h1, ?_⟩
    rcases Nat.lt_or_ge g' w.heap.size with h | h
    · exact h
    · rw [Array.getElem?_eq_none h] at hh; cases hh
theorem Grow.kept (h : Grow w B e size v xs) (hs : w.heap.size ≤ w'.heap.size) (hb : ∀ g, B ≤ g → g < w.heap.size → w'.heap[g]? = w.heap[g]?) : Grow w' B e size v xs := by
  obtain ⟨es, cb, h1, h2, h3, h4, h5⟩ := h
  exact ⟨es, cb, own_kept h1 hs hb, Reps.keep _ h2 ⟨hs, fun y hy => hb y (h4 y hy) (Reps.lt _ h2 y hy)⟩, h3, h4, h5⟩
theorem Grow.below (h : Grow w B e size v xs) (hb : Below w.heap.size w w') : Grow w' B e size v xs := h.kept hb.size fun g _ hl => hb.block g hl
theorem Grow.set_low (h : Grow w B e size v xs) {p : Addr} (hp : p.block < B) (u : Value) : Grow (w.setCell p u) B e size v xs :=
  h.kept (by simp [World.setCell]) fun g hg _ => Below.heap_setCell _ _ _ _ (fun e => by omega)
theorem Grow.more (h : Grow w B e size v xs) {B' : Nat} (hB : B' ≤ B) : Grow w B' e size v xs := by
  obtain ⟨es, cb, h1, h2, h3, h4, h5⟩ := h
  refine ⟨es, cb, ⟨h1.1, ?_⟩, h2, h3, fun y hy => Nat.le_trans hB (h4 y hy), h5⟩
  rcases h1.2 with h0 | ⟨g, cap, cur, r1, r2, r3⟩
  · exact .inl h0
  · exact .inr ⟨g, cap, cur, r1, Nat.le_trans hB r2, r3⟩
theorem Grow.rep (h : Grow w B e size v xs) : ∃ A c bs, v = .slice A xs.length c ∧ Rep w (.sl xs) [.slice A xs.length c] bs ∧ bs.Nodup ∧ ∀ y ∈ bs, B ≤ y := by
  obtain ⟨es, cb, h1, h2, h3, h4, h5⟩ := h
  obtain ⟨A, c, bs, rfl, h6, h7⟩ := Rep.of_own h1 rfl h2
  refine ⟨A, c, bs, rfl, h6, ?_, ?_⟩
  · rcases h7 with ⟨_, rfl⟩ | ⟨g, rfl, _, hg⟩
    · simp
    · exact List.nodup_cons.2 ⟨h5 g hg, h3⟩
  · rcases h7 with ⟨_, rfl⟩ | ⟨g, rfl, hg, _⟩
    · simp
    · intro y hy
      rcases List.mem_cons.1 hy with rfl | hy
      · exact hg
      · exact h4 y hy
theorem Grow.form (h : Grow w B e size v xs) : ∃ A c, v = .slice A xs.length c ∧ xs.length ≤ c ∧ c ≤ maxLen := by
  obtain ⟨A, c, bs, rfl, h6, _⟩ := h.rep
  obtain ⟨h1, h2, h3⟩ := h6.sl_len
  exact ⟨A, c, rfl, h2, h3⟩

/-- a slice of one element, its block just made -/
theorem one_new (w : World) {d : D} {cells : List Value} {b : List Nat} (h : Rep w d cells b) (t : TypeId) : Rep (w.alloc (.cells cells.toArray t)) (.sl [d]) [.slice (some ⟨w.heap.size, 0, none⟩) 1 1] (w.heap.size :: b) := by
  have h' := h.below (w' := w.alloc (.cells cells.toArray t)) ((Below.refl _ _).alloc (Nat.le_refl _) _)
  refine ⟨_, 1, cells, b, rfl, Nat.le_refl _, by unfold maxLen; omega, ⟨cells, [], b, [], by simp, by simp, h', rfl, rfl⟩, .inr ⟨w.heap.size, 0, rfl, rfl, by simp, fun j u hu => ⟨?_, ?_⟩⟩⟩
  · rw [Nat.zero_add, World.cell?_alloc_new]
    simpa using hu
  · exact Row.frozen (t := t) (cells := cells) (by unfold Row; rw [heap_alloc_new]) _
end
end Go.Proofs.YtbhniobgaoncaaaGreatDoor

/- A slice of the call's own that grows: what a step leaves of the rest; append of a whole slice of data; calls that hand a growing slice on. -/
namespace Go.Proofs.YtbhniobgaoncaaaGreatDoor
open Go.ChangeShapes Go.WideShapes Go.ChangeAt Go.RowKit Go.Deep

/-- the block that a growing slice lies in, if it has one -/
def ownL (v : Value) : List Nat := match v.ownBlock with
  | some b => [b]
  | none => []
theorem mem_ownL {v : Value} {b : Nat} : b ∈ ownL v ↔ v.ownBlock = some b := by
  unfold ownL
  cases v.ownBlock with
  | none => simp
  | some c => simp [eq_comm]
/-- from w to w' only the growing slice's block has been written; it lies where it lay or in a new block -/
structure Grew (w w' : World) (v v' : Value) : Prop where
  touch : Touch (ownL v) w w'
  own : ∀ b, v'.ownBlock = some b → v.ownBlock = some b ∨ w.heap.size ≤ b
theorem Grew.refl (w : World) (v : Value) : Grew w w v v := ⟨Touch.refl _ _, fun _ h => .inl h⟩
theorem Grew.of_below {w w' : World} (h : Below w.heap.size w w') (v : Value) : Grew w w' v v := ⟨Touch.of_below h, fun _ h => .inl h⟩
theorem Grew.trans {a b c : World} {u v x : Value} (h : Grew a b u v) (k : Grew b c v x) : Grew a c u x := by
  refine ⟨⟨k.touch.os.trans h.touch.os, k.touch.tape.trans h.touch.tape, k.touch.output.trans h.touch.output, Nat.le_trans h.touch.size k.touch.size, fun y hy hn => ?_⟩, fun y hy => ?_⟩
  · rw [k.touch.block y (Nat.lt_of_lt_of_le hy h.touch.size) (fun hm => ?_)]
    · exact h.touch.block y hy hn
    · rcases h.own y (mem_ownL.1 hm) with e | e
      · exact hn (mem_ownL.2 e)
      · omega
  · rcases k.own y hy with e | e
    · exact h.own y e
    · exact .inr (Nat.le_trans h.touch.size e)
theorem Grew.below {w w' : World} {v v' : Value} {B : Nat} (h : Grew w w' v v') (hB : B ≤ w.heap.size) (hv : ∀ b, v.ownBlock = some b → B ≤ b) : Below B w w' :=
  h.touch.below hB fun y hy => hv y (mem_ownL.1 hy)
theorem Grow.own_ge {w : World} {B : Nat} {e : TypeId} {size : Nat} {v : Value} {xs : List D} (h : Grow w B e size v xs) : ∀ b, v.ownBlock = some b → B ≤ b ∧ b < w.heap.size := by
  obtain ⟨es, cb, h1, _⟩ := h
  exact fun b hb => own_lt' h1 hb
theorem Grew.belowG {w w' : World} {v v' : Value} {B : Nat} {e : TypeId} {size : Nat} {xs : List D} (h : Grew w w' v v') (hB : B ≤ w.heap.size) (hv : Grow w B e size v xs) : Below B w w' :=
  h.below hB fun b hb => (hv.own_ge b hb).1
theorem Rep.grew {w w' : World} {v v' : Value} {d : D} {cs : List Value} {bs : List Nat} (h : Rep w d cs bs) (g : Grew w w' v v') (hv : ∀ y ∈ bs, v.ownBlock ≠ some y) : Rep w' d cs bs :=
  Rep.keep d h (g.touch.keeps fun y hy => ⟨Rep.lt d h y hy, fun hm => hv y hy (mem_ownL.1 hm)⟩)
/-- blocks that are not the growing slice's stay apart from it -/
theorem Grew.apart {w w' : World} {v v' : Value} {bs : List Nat} (g : Grew w w' v v') (hv : ∀ y ∈ bs, v.ownBlock ≠ some y) (hl : ∀ y ∈ bs, y < w.heap.size) : ∀ y ∈ bs, v'.ownBlock ≠ some y := fun y hy e => by
  rcases g.own y e with h | h
  · exact hv y hy h
  · have := hl y hy; omega

mutual
theorem Rep.one {w : World} : (d : D) → {cs : List Value} → {bs : List Nat} → Rep w d cs bs → ∀ u ∈ cs, u.oneCell' = true
  | .int _, _, _, h => by obtain ⟨rfl, _⟩ := h; simp [Value.oneCell']
  | .bool _, _, _, h => by obtain ⟨rfl, _⟩ := h; simp [Value.oneCell']
  | .str _, _, _, h => by obtain ⟨rfl, _⟩ := h; simp [Value.oneCell']
  | .st fs, _, _, h => Reps.one fs h
  | .sl xs, _, _, h => by obtain ⟨A, c, es, cb, rfl, _⟩ := h; simp [Value.oneCell']
theorem Reps.one {w : World} : (xs : List D) → {cs : List Value} → {bs : List Nat} → Reps w xs cs bs → ∀ u ∈ cs, u.oneCell' = true
  | [], _, _, h => by obtain ⟨rfl, _⟩ := h; simp
  | x :: xs, _, _, h => by
    obtain ⟨c1, c2, b1, b2, rfl, _, h1, h2⟩ := h
    intro u hu
    rcases List.mem_append.1 hu with hu | hu
    · exact Rep.one x h1 u hu
    · exact Reps.one xs h2 u hu
end
theorem add_none (b o j : Nat) : (⟨b, o, none⟩ : Addr).add j = ⟨b, o + j, none⟩ := by
  unfold Addr.add; split
  · simp_all
  · rfl

section
variable {P : Program} {w w0 : World} {B : Nat} {e : TypeId} {size : Nat} {v : Value} {xs : List D}
/-- append of a slice of data whose elements' own blocks are new -/
theorem run_append_more (w w0 : World) (t ty : TypeId) (i : TypeInfo) (z : Value) (bytes : Nat) (ht : P.underlying t = some (.slice e)) (hi : P.info? e = some i) (hz : i.zero = some z)
    (hsize : i.size = size) (hby : i.bytes = bytes) (hzs : z.cells.size = size) (hsz : 0 < size) (hG : Grow w0 B e size v xs) (hb0 : Below w0.heap.size w0 w) {ys : List D} {A : Option Addr} {m c : Nat} {bs : List Nat}
    (hr : Rep w (.sl ys) [.slice A m c] bs) (hs : ∀ y ∈ ys, y.size = size) (hn : bs.tail.Nodup) (hf : ∀ y ∈ bs.tail, w0.heap.size ≤ y)
    (h63 : xs.length + ys.length ≤ 100000000000) (hbytes : bytes ≤ 1024) (hbase : B ≤ w0.heap.size) :
    ∃ v' w', (Builtin.append_ #[t, t] ty #[v, .slice A m c]).run P w = .ok v' w' ∧ Grow w' B e size v' (xs ++ ys) ∧ Grew w w' v v' := by
  have hG0 := hG
  obtain ⟨es, cb, q1, q2, q3, q4, q5⟩ := hG
  have hown := own_kept q1 hb0.size (w' := w) fun g _ hl => hb0.block g hl
  have hG1 : Grow w B e size v xs := hG0.below hb0
  obtain ⟨A', c', es2, cb2, he, hc1, hc2, hreps, h0⟩ := hr
  simp only [List.cons.injEq, Value.slice.injEq] at he
  obtain ⟨⟨rfl, rfl, rfl⟩, _⟩ := he
  rcases h0 with ⟨rfl, rfl⟩ | ⟨b, o, rfl, rfl, hb, hcell⟩
  · obtain ⟨Av, cv, hv, hle, hcm⟩ := hG1.form
    obtain ⟨ees, _⟩ := hreps
    refine ⟨v, w, ?_, by simpa using hG1, Grew.refl _ _⟩
    rw [hv]
    refine run_append_nothing w t t ty e i ht hi Av xs.length cv hle _ ?_
    rcases A with _ | ad
    · exact Src.ofNil w ht c
    · exact Src.ofSlice w ht ad 0 c [] (by simp) (by simp) (by simp)
  · have hl2 : es2.length = ys.length * size := by rw [Reps.length _ hreps, sizes_eq ys hs]
    obtain ⟨v', w', hrun, h2, h3, _, h5⟩ := run_append_own_at (P := P) w B t ty e i z size bytes ht hi hz hsize hby hzs hsz v xs.length es hown ⟨b, o, none⟩ ys.length c es2 hl2
      (fun j u hu => by rw [add_none]; exact (hcell j u hu).1) (Reps.one _ hreps) (by unfold maxLen; omega) (by have := Nat.mul_le_mul h63 hbytes; omega) (Nat.le_trans hbase hb0.size)
    have hlt0 := Reps.lt _ q2
    have hblk : ∀ y, y < w.heap.size → v.ownBlock ≠ some y → w'.heap[y]? = w.heap[y]? := fun y hy hne => h3.block y hy (fun e => hne e.symm)
    simp only [List.tail_cons] at hn hf
    refine ⟨v', w', hrun, ⟨es ++ es2, cb ++ cb2, by simpa using h2, ?_, ?_, ?_, ?_⟩, ⟨h3.os, h3.tape, h3.output, h3.size, fun y hy hm => hblk y hy fun e => hm (mem_ownL.2 e)⟩, fun y hy => ?_⟩
    · refine (Reps_append xs ys).2 ⟨es, es2, cb, cb2, rfl, rfl, Reps.keep _ q2 ⟨Nat.le_trans hb0.size h3.size, fun y hy => ?_⟩, Reps.keep _ hreps ⟨h3.size, fun y hy => ?_⟩⟩
      · rw [hblk y (Nat.lt_of_lt_of_le (hlt0 y hy) hb0.size) (fun h => q5 y h hy)]
        exact hb0.block y (hlt0 y hy)
      · exact hblk y (Reps.lt _ hreps y hy) fun h => by
          have := (own_lt' q1 h).2
          have := hf y hy
          omega
    · refine List.nodup_append.2 ⟨q3, hn, fun y hy z hz e => ?_⟩
      subst e
      have := hlt0 y hy
      have := hf y hz
      omega
    · intro y hy
      rcases List.mem_append.1 hy with hy | hy
      · exact q4 y hy
      · exact Nat.le_trans hbase (hf y hy)
    · intro g hg hm
      rcases h5 with h5 | h5
      · rw [h5] at hg
        rcases List.mem_append.1 hm with hm | hm
        · exact q5 g hg hm
        · have := (own_lt' q1 hg).2
          have := hf g hm
          omega
      · rw [h5] at hg
        have hgw : w.heap.size = g := by simpa using hg
        rcases List.mem_append.1 hm with hm | hm
        · have := hlt0 g hm
          have := hb0.size
          omega
        · have := Reps.lt _ hreps g hm
          omega
    · rcases h5 with h5 | h5
      · rw [h5] at hy; exact .inl hy
      · rw [h5] at hy
        have : w.heap.size = y := by simpa using hy
        exact .inr (by omega)

theorem wp_append_more {o : Oper} {a : Act} {K : Act → World → Prop} {Q : Exit → Act → World → Prop} (s x : Operand) (t : TypeId)
    (ho : o.op = .call { callee := .builtin .append, args := #[s, x], argTypes := #[t, t] })
    (z : Value) (ht : P.underlying t = some (.slice e)) (hinfo : (P.info? e).map (fun i => (i.zero, i.size, decide (i.bytes ≤ 1024))) = some (some z, size, true)) (hzs : z.cells.size = size) (hsz : 0 < size) (hs : a.eval s = v) (hG : Grow w0 B e size v xs) (hb0 : Below w0.heap.size w0 w)
    {ys : List D} {A : Option Addr} {m c : Nat} {bs : List Nat} (hx : a.eval x = .slice A m c) (hr : Rep w (.sl ys) [.slice A m c] bs) (hys : ∀ y ∈ ys, y.size = size) (hn : bs.tail.Nodup) (hf : ∀ y ∈ bs.tail, w0.heap.size ≤ y)
    (h63 : xs.length + ys.length ≤ 100000000000) (hbase : B ≤ w0.heap.size)
    (h : ∀ v' w', Grow w' B e size v' (xs ++ ys) → Grew w w' v v' → K (a.put o.dst v') w') : o.wp P a w K Q := by
  obtain ⟨i, hi, hzz⟩ := Option.map_eq_some_iff.1 hinfo
  simp only [Prod.mk.injEq, decide_eq_true_iff] at hzz
  obtain ⟨v', w', hrun, h2, h3⟩ := run_append_more (P := P) w w0 t o.type i z i.bytes ht hi hzz.1 hzz.2.1 rfl hzs hsz hG hb0 hr hys hn hf h63 hzz.2.2 hbase
  unfold Oper.wp execOp
  simp only [ho, resolve, invoke, builtin, Sem.run_bind, Sem.run_pure, Result.andThen_ok, List.map_toArray, List.map_cons, List.map_nil, hs, hx, hrun]
  exact h v' w' h2 h3
theorem wpList_append_more {ops : Array Oper} {rest : List Oper} {o : Oper} {a : Act} {Q : Exit → Act → World → Prop} (hgd : o.guard = none) (s x : Operand) (t : TypeId)
    (ho : o.op = .call { callee := .builtin .append, args := #[s, x], argTypes := #[t, t] })
    (z : Value) (ht : P.underlying t = some (.slice e)) (hinfo : (P.info? e).map (fun i => (i.zero, i.size, decide (i.bytes ≤ 1024))) = some (some z, size, true)) (hzs : z.cells.size = size) (hsz : 0 < size) (hs : a.eval s = v) (hG : Grow w0 B e size v xs) (hb0 : Below w0.heap.size w0 w)
    {ys : List D} {A : Option Addr} {m c : Nat} {bs : List Nat} (hx : a.eval x = .slice A m c) (hr : Rep w (.sl ys) [.slice A m c] bs) (hys : ∀ y ∈ ys, y.size = size) (hn : bs.tail.Nodup) (hf : ∀ y ∈ bs.tail, w0.heap.size ≤ y)
    (h63 : xs.length + ys.length ≤ 100000000000) (hbase : B ≤ w0.heap.size)
    (h : ∀ v' w', Grow w' B e size v' (xs ++ ys) → Grew w w' v v' → wpList P ops Q rest (a.put o.dst v') w') : wpList P ops Q (o :: rest) a w :=
  wpList_plain hgd fun _ hK => wp_append_more s x t ho z ht hinfo hzs hsz hs hG hb0 hx hr hys hn hf h63 hbase fun v' w' h2 h3 => hK _ _ (h v' w' h2 h3)
theorem wpList_wanted {ops : Array Oper} {rest : List Oper} {o : Oper} {a : Act} {w : World} {Q : Exit → Act → World → Prop} (hw : Region.wanted o (yielded ops a.tmps) = true)
    (h : ∀ K : Act → World → Prop, (∀ a w, wpList P ops Q rest a w → K a w) → o.wp P a w K Q) : wpList P ops Q (o :: rest) a w :=
  wpList_step fun K hK => by rw [if_pos hw]; exact h K hK
theorem wpList_append_more_g {ops : Array Oper} {rest : List Oper} {o : Oper} {a : Act} {Q : Exit → Act → World → Prop} (hgd : Region.wanted o (yielded ops a.tmps) = true) (s x : Operand) (t : TypeId)
    (ho : o.op = .call { callee := .builtin .append, args := #[s, x], argTypes := #[t, t] })
    (z : Value) (ht : P.underlying t = some (.slice e)) (hinfo : (P.info? e).map (fun i => (i.zero, i.size, decide (i.bytes ≤ 1024))) = some (some z, size, true)) (hzs : z.cells.size = size) (hsz : 0 < size) (hs : a.eval s = v) (hG : Grow w0 B e size v xs) (hb0 : Below w0.heap.size w0 w)
    {ys : List D} {A : Option Addr} {m c : Nat} {bs : List Nat} (hx : a.eval x = .slice A m c) (hr : Rep w (.sl ys) [.slice A m c] bs) (hys : ∀ y ∈ ys, y.size = size) (hn : bs.tail.Nodup) (hf : ∀ y ∈ bs.tail, w0.heap.size ≤ y)
    (h63 : xs.length + ys.length ≤ 100000000000) (hbase : B ≤ w0.heap.size)
    (h : ∀ v' w', Grow w' B e size v' (xs ++ ys) → Grew w w' v v' → wpList P ops Q rest (a.put o.dst v') w') : wpList P ops Q (o :: rest) a w :=
  wpList_wanted hgd fun _ hK => wp_append_more s x t ho z ht hinfo hzs hsz hs hG hb0 hx hr hys hn hf h63 hbase fun v' w' h2 h3 => hK _ _ (h v' w' h2 h3)
end

/-- the blocks behind a slice of plain data's first are none -/
theorem Reps.plain {w : World} : (xs : List Int) → {cs : List Value} → {cb : List Nat} → Reps w (xs.map D.int) cs cb → cb = []
  | [], _, _, h => h.2
  | x :: xs, _, _, h => by
    obtain ⟨c1, c2, b1, b2, _, rfl, ⟨_, rfl, _⟩, h2⟩ := h
    rw [Reps.plain xs h2]; rfl
theorem Rep.ints_tail {w : World} {xs : List Int} {cs : List Value} {bs : List Nat} (h : Rep w (ints xs) cs bs) : bs.tail = [] := by
  obtain ⟨A, c, es, cb, _, _, _, hr, h0⟩ := h
  rcases h0 with ⟨_, rfl⟩ | ⟨b, o, _, rfl, _⟩
  · rfl
  · exact Reps.plain xs hr
/-- one slice of a growing list of slices: its rep out of Grow's -/
theorem Grow.ints {w : World} {B : Nat} {e : TypeId} {v : Value} {xs : List Int} (h : Grow w B e 1 v (xs.map D.int)) : ∃ A c bs, v = .slice A xs.length c ∧ Rep w (ints xs) [.slice A xs.length c] bs ∧ bs.Nodup ∧ (∀ y ∈ bs, B ≤ y) ∧ ∀ y ∈ bs, v.ownBlock = some y := by
  obtain ⟨es, cb, h1, h2, h3, h4, h5⟩ := h
  obtain ⟨A, c, bs, rfl, h6, h7⟩ := Rep.of_own h1 rfl h2
  have hcb := Reps.plain xs h2
  subst hcb
  rw [List.length_map] at *
  refine ⟨A, c, bs, rfl, h6, ?_⟩
  rcases h7 with ⟨_, rfl⟩ | ⟨g, rfl, hB, hg⟩
  · exact ⟨by simp, by simp, by simp⟩
  · exact ⟨by simp, by simpa using hB, fun y hy => by rw [List.mem_singleton.1 hy]; exact hg⟩

section
variable {w : World} {xs : List Int} {A : Option Addr} {n c : Nat} {bs : List Nat}
set_option maxHeartbeats 400000 in
theorem Clone_int_g (h : Rep w (ints xs) [.slice A n c] bs) (hn : n ≤ 10000000) :
    Calls Tryz.prog 134 #[.slice A n c] w fun e w' => ∃ v, e = .returned v ∧ Grow w' w.heap.size 3 1 v (xs.map D.int) ∧ Below w.heap.size w w' := by
  obtain ⟨rfl, _, _⟩ := h.ints_len
  have HN := Lib.hid hn; clear hn
  rcases A with _ | ad
  · have hx : xs = [] := by
      rcases xs with _ | ⟨x, xs⟩
      · rfl
      · obtain ⟨b, o, e, _⟩ := h.ints_at (k := 0) (by simp); cases e
    subst hx
    have hq := fun W => Lib.run_eql_slice_nil (P := Tryz.prog) W 44 3 none 0 c 0 0 Tryz.underlying44
    go_enter Tryz.func134, Tryz.ntmps134
    go_wp2
    go_ret
    exact ⟨_, rfl, Grow.nil _ _ _ _, bel⟩
  · have hq := fun W => Lib.run_eql_slice_nil (P := Tryz.prog) W 44 3 (some ad) xs.length c 0 0 Tryz.underlying44
    obtain ⟨i0, hi, hz0, hz1, hz2⟩ := Tryz.info3
    have hI := Lib.hid (And.intro hi (And.intro hz0 (And.intro hz1 hz2))); clear hi hz0 hz1 hz2
    have hfit := Lib.hid h.ints_fit
    have hcells : ∀ j u, (xs.map (Value.int .i64 ·))[j]? = some u → w.cell? (ad.add j) = some u := by
      intro j u hu
      have hj : j < xs.length := by
        rcases Nat.lt_or_ge j xs.length with hj | hj
        · exact hj
        · rw [List.getElem?_eq_none (by simpa using hj)] at hu; cases hu
      obtain ⟨b, o, e, _, _, hc, _⟩ := h.ints_at hj
      simp only [Option.some.injEq] at e
      subst e
      rw [List.getElem?_map, List.getElem?_eq_getElem hj] at hu
      rw [gi_eq hj] at hc
      have : (⟨b, o, none⟩ : Addr).add j = ⟨b, o + j, none⟩ := by
        unfold Addr.add; split
        · simp_all
        · rfl
      rw [this, hc]
      simpa using hu
    have hblk : 0 < xs.length → ad.block < w.heap.size := fun h0 => by
      obtain ⟨b, o, e, _, hlt, _⟩ := h.ints_at h0
      simp only [Option.some.injEq] at e
      subst e; exact hlt
    have hown : (w.alloc (.cells #[] 3)).ownsRow w.heap.size 3 1 (.slice (some ⟨w.heap.size, 0, none⟩) 0 0) 0 [] :=
      ⟨rfl, .inr ⟨w.heap.size, 0, #[], rfl, Nat.le_refl _, heap_alloc_new w _, Nat.le_refl _, Nat.zero_le _, rfl, rfl⟩⟩
    have hnews : ∀ j u, (xs.map (Value.int .i64 ·))[j]? = some u → (w.alloc (.cells #[] 3)).cell? (ad.add j) = some u := by
      intro j u hu
      rw [World.cell?_alloc_lt _ _ _ (by
        have hj : j < xs.length := by
          rcases Nat.lt_or_ge j xs.length with hj | hj
          · exact hj
          · rw [List.getElem?_eq_none (by simpa using hj)] at hu; cases hu
        have := hblk (by omega)
        unfold Addr.add; split
        · exact this
        · exact this)]
      exact hcells j u hu
    have hone : ∀ u ∈ xs.map (Value.int .i64 ·), u.oneCell' = true := by
      intro u hu
      obtain ⟨x, _, rfl⟩ := List.mem_map.1 hu
      rfl
    have HW := Lib.hid (And.intro hown (And.intro hnews hone)); clear hown hnews hone hcells hblk
    go_enter Tryz.func134, Tryz.ntmps134
    go_wp2_with (at_builtin; refine wpList_append_own_at _ rfl _ _ 44 rfl w.heap.size 3 i0 (.int .i64 0) 1 8 Tryz.underlying44 hI.out.1 hI.out.2.1 hI.out.2.2.1 hI.out.2.2.2 rfl (by decide) (.slice (some ⟨w.heap.size, 0, none⟩) 0 0) 0 [] rfl HW.out.1 ad xs.length c (xs.map (Value.int .i64 ·)) rfl (by simp) HW.out.2.1 HW.out.2.2 (by have := HN.out; unfold maxLen; omega) (by have := HN.out; omega) (by simp) ?_; intro v' w1 hown1 hgrow _ hat)
    rw [Nat.zero_add, List.nil_append] at hown1
    have HG := Lib.hid (show Grow w1 w.heap.size 3 1 v' (xs.map D.int) from ⟨_, [], by rw [List.length_map]; exact hown1, (reps_ints xs).2 ⟨rfl, rfl, hfit.out⟩, by simp, by simp, by simp⟩)
    clear hown1
    obtain ⟨Av, cv, rfl, _, _⟩ := HG.out.form
    go_wp2
    go_ret
    refine ⟨_, rfl, HG.out, ?_⟩
    refine ((Below.refl _ _).alloc (Nat.le_refl _) _).grown hgrow (by simp) fun k hk => ?_
    have : w.heap.size = k := by simpa [Value.ownBlock] using hk
    omega
end

theorem Tryz.infoInt : (Tryz.prog.info? 3).map (fun i => (i.zero, i.size, decide (i.bytes ≤ 1024))) = some (some (.int .i64 0), 1, true) := by kernel_rfl
theorem Tryz.infoInts : (Tryz.prog.info? 44).map (fun i => (i.zero, i.size, decide (i.bytes ≤ 1024))) = some (some (.slice none 0 0), 1, true) := by kernel_rfl
/-- one integer as a slice, its block just made -/
theorem one_int (w : World) {x : Int} (h : I64 x) (t : TypeId) : Rep (w.alloc (.cells #[.int .i64 x] t)) (ints [x]) [.slice (some ⟨w.heap.size, 0, none⟩) 1 1] [w.heap.size] :=
  one_new w (d := .int x) (cells := [.int .i64 x]) (b := []) ⟨rfl, rfl, h⟩ t

/-- an empty slice just made, other blocks made behind it -/
theorem Grow.madeE {w : World} {g B : Nat} (e : TypeId) (size : Nat) (h : w.heap.size = g) (hB : B ≤ g) : Grow (w.alloc (.cells #[] e)) B e size (.slice (some ⟨g, 0, none⟩) 0 0) [] := by
  subst h; exact Grow.made w e size hB
theorem Grow.drewG {w : World} {B : Nat} {e : TypeId} {size : Nat} {v : Value} {xs : List D} (h : Grow w B e size v xs) : Grow w.drew B e size v xs := h.below (Below.refl _ _).drew
theorem Grow.allocG {w : World} {B : Nat} {e : TypeId} {size : Nat} {v : Value} {xs : List D} (h : Grow w B e size v xs) (c : Obj) : Grow (w.alloc c) B e size v xs := h.below ((Below.refl _ _).alloc (Nat.le_refl _) _)

theorem have_of {P Q : Prop} (h : Q) (k : Q → P) : P := k h
theorem Touch.boxW {bs : List Nat} {a b : World} (h : Touch bs a b) {g : Nat} {u v : Value} (k : BoxW a g u v) (hn : g ∉ bs) : BoxW b g u v := by
  have hl := lt_of_cell k.1.1
  exact ⟨h.box2 k.1 hn, by rw [h.frozen hl hn]; exact k.2.1, by rw [h.frozen hl hn]; exact k.2.2⟩

theorem Box2.toB {w w' : World} {g B : Nat} {u v : Value} (h : Box2 w g u v) (hg : g < B) (hb : Below B w w') : Box2 w' g u v :=
  ⟨(hb.cell (p := ⟨g, 0, none⟩) hg).trans h.1, (hb.cell (p := ⟨g, 1, none⟩) hg).trans h.2⟩
theorem BoxW.toB {w w' : World} {g B : Nat} {u v : Value} (h : BoxW w g u v) (hg : g < B) (hb : Below B w w') : BoxW w' g u v :=
  ⟨Box2.toB h.1 hg hb, (hb.frozen (p := ⟨g, 0, none⟩) hg).trans h.2.1, (hb.frozen (p := ⟨g, 1, none⟩) hg).trans h.2.2⟩

/-- append of integers to an empty slice just made -/
theorem wp_append_copy {P : Program} {w : World} {B N : Nat} {e t : TypeId} {o : Oper} {a : Act} {K : Act → World → Prop} {Q : Exit → Act → World → Prop} (s x : Operand)
    (ho : o.op = .call { callee := .builtin .append, args := #[s, x], argTypes := #[t, t] })
    (ht : P.underlying t = some (.slice e)) (hinfo : (P.info? e).map (fun i => (i.zero, i.size, decide (i.bytes ≤ 1024))) = some (some (.int .i64 0), 1, true)) (hs : a.eval s = .slice (some ⟨N, 0, none⟩) 0 0) (hG : Grow w B e 1 (.slice (some ⟨N, 0, none⟩) 0 0) [])
    {ys : List Int} {A : Option Addr} {m c : Nat} {bs : List Nat} (hx : a.eval x = .slice A m c) (hr : Rep w (ints ys) [.slice A m c] bs) (h63 : ys.length ≤ 10000000) (hbase : B ≤ w.heap.size)
    (h : ∀ v' w', Grow w' B e 1 v' (ys.map D.int) → Grew w w' (.slice (some ⟨N, 0, none⟩) 0 0) v' → K (a.put o.dst v') w') : o.wp P a w K Q :=
  wp_append_more (w0 := w) (xs := []) (ys := ys.map D.int) s x t ho (.int .i64 0) ht hinfo rfl (by decide) hs hG (Below.refl _ _) hx hr (fun y hy => by obtain ⟨_, _, rfl⟩ := List.mem_map.1 hy; rfl) (by rw [hr.ints_tail]; simp) (by rw [hr.ints_tail]; simp) (by simp; omega) hbase h
end Go.Proofs.YtbhniobgaoncaaaGreatDoor

/- Slices of slices of integers: the law package's functions on them. -/
namespace Go.Proofs.YtbhniobgaoncaaaGreatDoor
open Go.ChangeShapes Go.WideShapes Go.ChangeAt Go.RowKit Go.Deep

theorem ints_size (x : List Int) : (ints x).size = 1 := rfl
theorem Rep.ints_form1 {w : World} {x : List Int} {cs : List Value} {bs : List Nat} (h : Rep w (ints x) cs bs) : ∃ A c, cs = [.slice A x.length c] := by
  obtain ⟨A, c, rfl, _⟩ := h.ints_form
  exact ⟨A, c, rfl⟩

end Go.Proofs.YtbhniobgaoncaaaGreatDoor

/- The Go type Instance: how it reads; the law package's functions on it and on slices of it. Printed by tygen.py. -/
namespace Go.Proofs.YtbhniobgaoncaaaGreatDoor
open Go.ChangeShapes Go.WideShapes Go.ChangeAt Go.RowKit Go.Deep

structure In where
  part : Int
  stmt : Int
  point : List Int
  deriving DecidableEq
def In.d (x : In) : D := .st [.int x.part, .int x.stmt, ints x.point]
theorem Rep.in_iff {w : World} {x : In} {cs : List Value} {bs : List Nat} : Rep w x.d cs bs ↔ ∃ (A3 : Option Addr) (c3 : Nat) (d3 : List Nat), cs = [.int .i64 x.part, .int .i64 x.stmt, .slice A3 x.point.length c3] ∧ bs = d3 ∧ I64 x.part ∧ I64 x.stmt ∧ Rep w (ints x.point) [.slice A3 x.point.length c3] d3 := by
  constructor
  · intro h
    replace h : Reps w [.int x.part, .int x.stmt, ints x.point] cs bs := h
    obtain ⟨_, _, _, _, rfl, rfl, g1, h⟩ := h
    obtain ⟨_, _, _, _, rfl, rfl, g2, h⟩ := h
    obtain ⟨_, _, _, _, rfl, rfl, g3, h⟩ := h
    obtain ⟨rfl, rfl⟩ := h
    obtain ⟨rfl, rfl, g1⟩ := g1
    obtain ⟨rfl, rfl, g2⟩ := g2
    obtain ⟨B3, e3, rfl, _⟩ := g3.ints_form
    exact ⟨_, _, _, rfl, by simp, g1, g2, g3⟩
  · rintro ⟨A3, c3, d3, rfl, rfl, g1, g2, g3⟩
    have h : Reps w [.int x.part, .int x.stmt, ints x.point] _ _ := ⟨_, _, _, _, rfl, rfl, ⟨rfl, rfl, g1⟩, ⟨_, _, _, _, rfl, rfl, ⟨rfl, rfl, g2⟩, ⟨_, _, _, _, rfl, rfl, g3, ⟨rfl, rfl⟩⟩⟩⟩
    simpa using (show Rep w x.d _ _ from h)

end Go.Proofs.YtbhniobgaoncaaaGreatDoor
