/- Depths and values of affine expressions: depth, AffineDepth, isPoint, eval, EvalAffine of the program; l1Depth, AffineDepth, l1Point, l1Eval, EvalAffine of the reference. -/
import Derived.Test.YtadmmlflngkpiaaValid
set_option linter.all false
set_option linter.unusedSimpArgs false
set_option linter.unusedVariables false
namespace Go.Proofs.Ytadmmlflngkpiaa
open Go.ChangeShapes Go.WideShapes Go.ChangeAt Go.RowKit Go.Deep

/-- 1 plus the last index below j whose number is not 0, or 0 -/
def depTo (xs : List Int) : Nat → Nat
  | 0 => 0
  | j + 1 => if gi xs j = 0 then depTo xs j else j + 1
def depF (xs : List Int) : Nat := depTo xs xs.length
theorem depTo_le (xs : List Int) : ∀ j, depTo xs j ≤ j
  | 0 => Nat.le_refl _
  | j + 1 => by unfold depTo; split; have := depTo_le xs j; omega; omega
def AffineDepthF (a : Aff) : Int := if affOk a then depF a.coefs else 0
def ptBad (x : Int) : Bool := !inB x (-9999) 9999
def ptOk (xs : List Int) : Bool := decide (xs.length ≤ 4) && !xs.any ptBad
/-- the value at a point's first j coordinates -/
def evTo (a : Aff) (pt : List Int) : Nat → Int
  | 0 => a.const
  | j + 1 => evTo a pt j + gi a.coefs j * gi pt j
def evF (a : Aff) (pt : List Int) : Int := evTo a pt pt.length
def EvalAffineF (a : Aff) (pt : List Int) : Int := if affOk a && ptOk pt then evF a pt else 0

section
variable {w : World} {a : Aff} {A : Option Addr} {n c : Nat} {k : Int} {bs : List Nat} {xs : List Int}

set_option maxHeartbeats 400000 in
theorem l1Depth_c (h : Rep w a.d [.slice A n c, .int .i64 k] bs) :
    Calls Try.prog 93 #[.agg #[.slice A n c, .int .i64 k]] w fun e w' => e = .returned (.int .i64 (depF a.coefs)) ∧ Below w.heap.size w w' := by
  obtain ⟨rfl, h1, _⟩ := h.aff
  obtain ⟨rfl, h2, h3⟩ := h1.ints_len
  have hn : a.coefs.length ≤ 9223372036854775807 := Nat.le_trans h2 h3
  clear h2 h3 h
  go_enter Try.func93, Try.ntmps93
  go_wp2
  go_loop [3, 4] (fun q i => ∃ j : Nat, j ≤ a.coefs.length ∧ i = .int .i64 j ∧ q = .int .i64 (depTo a.coefs j)) (fun _ i => a.coefs.length - (intOf i).toNat)
  case atStart => exact ⟨0, Nat.zero_le _, rfl, rfl⟩
  case round =>
    obtain ⟨j, hj, rfl, rfl⟩ := hrel
    by_cases hlt : j < a.coefs.length
    · obtain ⟨b, o, rfl, _, hbl, hc, _⟩ := h1.ints_at hlt
      by_cases hz : gi a.coefs j = 0
      · have HD := Lib.hid (show depTo a.coefs (j + 1) = depTo a.coefs j from if_pos hz)
        have hz1 : (gi a.coefs j != 0) = false := by simp [hz]
        have HZ := Lib.hid hz; clear hz
        go_wp2
        go_round
        case rel => exact ⟨j + 1, by omega, by go_num, by rw [HD.out]⟩
        case measure => simp [intOf]; omega
      · have HD := Lib.hid (show depTo a.coefs (j + 1) = j + 1 from if_neg hz)
        have hz1 : (gi a.coefs j != 0) = true := by simp [hz]
        clear hz
        go_wp2
        go_round
        case rel => exact ⟨j + 1, by omega, by go_num, by rw [HD.out]; go_num⟩
        case measure => simp [intOf]; omega
    · have hjj : j = a.coefs.length := by omega
      subst hjj
      go_wp2
      go_ret
      exact ⟨rfl, bel⟩

set_option maxHeartbeats 400000 in
theorem depth_c (h : Rep w a.d [.slice A n c, .int .i64 k] bs) :
    Calls Try.prog 50 #[.agg #[.slice A n c, .int .i64 k]] w fun e w' => e = .returned (.int .i64 (depF a.coefs)) ∧ Below w.heap.size w w' := by
  obtain ⟨rfl, h1, _⟩ := h.aff
  obtain ⟨rfl, h2, h3⟩ := h1.ints_len
  have hn : a.coefs.length ≤ 9223372036854775807 := Nat.le_trans h2 h3
  clear h2 h3 h
  go_enter Try.func50, Try.ntmps50
  go_wp2
  go_loop [3] (fun q => ∃ j : Nat, j ≤ a.coefs.length ∧ q = .int .i64 j ∧ depF a.coefs = depTo a.coefs j) (fun q => (intOf q).toNat)
  case atStart => exact ⟨_, Nat.le_refl _, rfl, rfl⟩
  case round =>
    obtain ⟨j, hj, rfl, hd⟩ := hrel
    have HD := Lib.hid hd; clear hd
    rcases j with _ | j
    · go_wp2
      go_ret
      exact ⟨ret_int (by rw [HD.out]; rfl), bel⟩
    · obtain ⟨b, o, rfl, _, hbl, hc, _⟩ := h1.ints_at (k := j) (by omega)
      by_cases hz : gi a.coefs j = 0
      · have HE := Lib.hid (show depTo a.coefs (j + 1) = depTo a.coefs j from if_pos hz)
        have hz1 : (gi a.coefs j == 0) = true := by simp [hz]
        have HZ := Lib.hid hz; clear hz
        go_wp2
        go_round
        case rel => exact ⟨j, by omega, by go_num, by rw [HD.out, HE.out]⟩
        case measure => simp [intOf]
      · have HE := Lib.hid (show depTo a.coefs (j + 1) = j + 1 from if_neg hz)
        have hz1 : (gi a.coefs j == 0) = false := by simp [hz]
        clear hz
        go_wp2
        go_ret
        exact ⟨ret_int (by rw [HD.out, HE.out]; go_num), bel⟩

/-- bounds under which eval neither wraps nor panics: at most as many coordinates as coefficients, the coefficients at most 9, the coordinates at most 10^12 -/
structure EvBd (a : Aff) (pt : List Int) : Prop where
  len : pt.length ≤ a.coefs.length
  len4 : pt.length ≤ 4
  const : -99 ≤ a.const ∧ a.const ≤ 99
  coef : ∀ x ∈ a.coefs, -9 ≤ x ∧ x ≤ 9
  pt : ∀ x ∈ pt, -1000000000000 ≤ x ∧ x ≤ 1000000000000
theorem mul_bd {x y m n : Int} (hx : -m ≤ x ∧ x ≤ m) (hy : -n ≤ y ∧ y ≤ n) : -(m * n) ≤ x * y ∧ x * y ≤ m * n := by
  have h1 : 0 ≤ (m - x) * (n + y) := Int.mul_nonneg (by omega) (by omega)
  have h2 : 0 ≤ (m + x) * (n - y) := Int.mul_nonneg (by omega) (by omega)
  have h3 : 0 ≤ (m - x) * (n - y) := Int.mul_nonneg (by omega) (by omega)
  have h4 : 0 ≤ (m + x) * (n + y) := Int.mul_nonneg (by omega) (by omega)
  simp only [Int.sub_mul, Int.add_mul, Int.mul_sub, Int.mul_add] at h1 h2 h3 h4
  omega
theorem EvBd.prod {a : Aff} {pt : List Int} (h : EvBd a pt) (j : Nat) : -9000000000000 ≤ gi a.coefs j * gi pt j ∧ gi a.coefs j * gi pt j ≤ 9000000000000 := by
  have h1 : -9 ≤ gi a.coefs j ∧ gi a.coefs j ≤ 9 := by
    rcases Nat.lt_or_ge j a.coefs.length with hj | hj
    · rw [gi_eq hj]; exact h.coef _ (List.getElem_mem _)
    · simp [gi, List.getD_eq_getElem?_getD, hj]
  have h2 : -1000000000000 ≤ gi pt j ∧ gi pt j ≤ 1000000000000 := by
    rcases Nat.lt_or_ge j pt.length with hj | hj
    · rw [gi_eq hj]; exact h.pt _ (List.getElem_mem _)
    · simp [gi, List.getD_eq_getElem?_getD, hj]
  have := mul_bd h1 h2
  omega
theorem EvBd.ev {a : Aff} {pt : List Int} (h : EvBd a pt) : ∀ j : Nat, -99 - 9000000000000 * (j : Int) ≤ evTo a pt j ∧ evTo a pt j ≤ 99 + 9000000000000 * (j : Int)
  | 0 => by have := h.const; simp only [evTo]; omega
  | j + 1 => by
    have h1 := EvBd.ev h j
    have h2 := h.prod j
    simp only [evTo]; omega
theorem affOk_iff {a : Aff} : affOk a = true ↔ a.coefs.length = 4 ∧ (-99 ≤ a.const ∧ a.const ≤ 99) ∧ ∀ x ∈ a.coefs, -9 ≤ x ∧ x ≤ 9 := by
  simp only [affOk, Bool.and_eq_true, decide_eq_true_iff, inB_iff, Bool.not_eq_true', List.any_eq_false, coefBad, Bool.not_eq_true]
  constructor
  · rintro ⟨⟨h1, h2⟩, h3⟩
    exact ⟨h1, h2, fun x hx => by have := h3 x hx; simp at this; exact inB_iff.1 this⟩
  · rintro ⟨h1, h2, h3⟩
    exact ⟨⟨h1, h2⟩, fun x hx => by simp; exact inB_iff.2 (h3 x hx)⟩
theorem ptOk_iff {xs : List Int} : ptOk xs = true ↔ xs.length ≤ 4 ∧ ∀ x ∈ xs, -9999 ≤ x ∧ x ≤ 9999 := by
  simp only [ptOk, Bool.and_eq_true, decide_eq_true_iff, Bool.not_eq_true', List.any_eq_false, ptBad, Bool.not_eq_true]
  constructor
  · rintro ⟨h1, h3⟩
    exact ⟨h1, fun x hx => by have := h3 x hx; simp at this; exact inB_iff.1 this⟩
  · rintro ⟨h1, h3⟩
    exact ⟨h1, fun x hx => by simp; exact inB_iff.2 (h3 x hx)⟩
theorem evBd {a : Aff} {pt : List Int} (h : affOk a = true) (hp : ptOk pt = true) : EvBd a pt := by
  obtain ⟨h1, h2, h3⟩ := affOk_iff.1 h
  obtain ⟨h4, h5⟩ := ptOk_iff.1 hp
  exact ⟨by omega, h4, h2, h3, fun x hx => by have := h5 x hx; omega⟩

theorem anyPt_step {xs : List Int} {j : Nat} (h : j < xs.length) : xs.any ptBad = ((xs.take j).any ptBad || (ptBad xs[j] || (xs.drop (j + 1)).any ptBad)) := by
  conv => lhs; rw [← List.take_append_drop j xs, ← List.getElem_cons_drop h]
  rw [List.any_append, List.any_cons]
theorem anyPt_take {xs : List Int} {j : Nat} (h : j < xs.length) : (xs.take (j + 1)).any ptBad = ((xs.take j).any ptBad || ptBad xs[j]) := by
  rw [List.take_succ_eq_append_getElem h, List.any_append, List.any_cons, List.any_nil, Bool.or_false]

end
end Go.Proofs.Ytadmmlflngkpiaa
