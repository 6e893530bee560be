/- Points of nests: l2Work, l2Points, NestPoints of the reference. -/
import Derived.Test.YtbhniobgaoncaaaDoorRange
import Derived.Test.YtbhniobgaoncaaaDoorBasic
set_option linter.all false
set_option linter.unusedSimpArgs false
set_option linter.unusedVariables false
namespace Go.Proofs.YtbhniobgaoncaaaDoor
open Go.ChangeShapes Go.WideShapes Go.ChangeAt Go.RowKit Go.Deep

def sumN (f : Nat → Nat) : Nat → Nat
  | 0 => 0
  | m + 1 => sumN f m + f m
def catN {α : Type} (f : Nat → List α) : Nat → List α
  | 0 => []
  | m + 1 => catN f m ++ f m
/-- how many values the loop takes at a point -/
def widN (l : Lp) (p : List Int) : Nat := (hiF l p - loF l p).toNat
/-- the points of the loops that are left, behind some coordinates; the number of all steps -/
def ptsF : List Lp → List Int → List (List Int)
  | [], p => [p]
  | l :: ls, p => catN (fun k => ptsF ls (p ++ [loF l p + (k : Int)])) (widN l p)
def cntF : List Lp → List Int → Nat
  | [], _ => 1
  | l :: ls, p => 1 + sumN (fun k => cntF ls (p ++ [loF l p + (k : Int)])) (widN l p)
def NestPointsF (xs : List Lp) : List (List Int) × Bool :=
  if NestValidF xs && (decide (cntF xs [] ≤ 1200) && decide ((ptsF xs []).length ≤ 120)) then (ptsF xs [], true) else ([], false)
theorem sumN_le (f : Nat → Nat) : ∀ {j m : Nat}, j ≤ m → sumN f j ≤ sumN f m := fun {j m} h => by
  induction m with
  | zero => rw [Nat.le_zero.1 h]; exact Nat.le_refl _
  | succ m ih =>
    rcases Nat.lt_or_ge m j with hj | hj
    · rw [show j = m + 1 by omega]; exact Nat.le_refl _
    · exact Nat.le_trans (ih hj) (Nat.le_add_right _ _)
theorem catN_len {α : Type} (f : Nat → List α) : ∀ m, (catN f m).length = sumN (fun k => (f k).length) m
  | 0 => rfl
  | m + 1 => by rw [catN, sumN, List.length_append, catN_len f m]

/-- bounds of the coordinates that loops take -/
def PtB (p : List Int) : Prop := ∀ i : Nat, i < p.length → -(99 * 10 ^ i) ≤ gi p i ∧ gi p i ≤ 99 * 10 ^ i
theorem PtB.nil : PtB [] := fun i h => by simp at h
theorem PtB.snoc {p : List Int} {v : Int} (h : PtB p) (h1 : -(99 * 10 ^ p.length) ≤ v) (h2 : v ≤ 99 * 10 ^ p.length) : PtB (p ++ [v]) := fun i hi => by
  rw [List.length_append, List.length_singleton] at hi
  rcases Nat.lt_or_ge i p.length with hj | hj
  · have : gi (p ++ [v]) i = gi p i := by simp [gi, List.getD_eq_getElem?_getD, List.getElem?_append_left hj]
    rw [this]; exact h i hj
  · have he : i = p.length := by omega
    subst he
    have : gi (p ++ [v]) p.length = v := by simp [gi, List.getD_eq_getElem?_getD]
    rw [this]; exact ⟨h1, h2⟩
theorem pow_small {i : Nat} (h : i ≤ 3) : (99 * 10 ^ i : Int) ≤ 99000 := by
  have : i = 0 ∨ i = 1 ∨ i = 2 ∨ i = 3 := by omega
  rcases this with rfl | rfl | rfl | rfl <;> decide
theorem PtB.small {p : List Int} (h : PtB p) (hl : p.length ≤ 4) : ∀ x ∈ p, -99000 ≤ x ∧ x ≤ 99000 := fun x hx => by
  obtain ⟨i, hi, rfl⟩ := List.getElem_of_mem hx
  have := h i hi
  rw [gi_eq hi] at this
  have := pow_small (i := i) (by omega)
  omega
theorem PtB.ev {a : Aff} {p : List Int} (ha : affOk a = true) (h : PtB p) : ∀ j : Nat, j ≤ p.length → -(99 * 10 ^ j) ≤ evTo a p j ∧ evTo a p j ≤ 99 * 10 ^ j
  | 0, _ => by obtain ⟨_, h2, _⟩ := affOk_iff.1 ha; simp only [evTo]; omega
  | j + 1, hj => by
    have h1 := PtB.ev ha h j (by omega)
    have h2 := h j (by omega)
    have h3 : -9 ≤ gi a.coefs j ∧ gi a.coefs j ≤ 9 := by
      rcases Nat.lt_or_ge j a.coefs.length with hj | hj
      · rw [gi_eq hj]; exact (affOk_iff.1 ha).2.2 _ (List.getElem_mem _)
      · simp [gi, List.getD_eq_getElem?_getD, hj]
    have h4 := mul_bd h3 h2
    simp only [evTo]
    have h5 : (10 : Int) ^ (j + 1) = 10 ^ j * 10 := Int.pow_succ _ _
    rw [h5]
    generalize (10 : Int) ^ j = T at *
    omega
theorem PtB.evBd {a : Aff} {p : List Int} (ha : affOk a = true) (h : PtB p) (hl : p.length ≤ 4) : EvBd a p := by
  obtain ⟨h1, h2, h3⟩ := affOk_iff.1 ha
  exact ⟨by omega, hl, h2, h3, fun x hx => by have := h.small hl x hx; omega⟩
theorem mxTo_bd {xs : List Aff} {p : List Int} {T : Int} (h0 : 0 < xs.length) (h : ∀ a ∈ xs, -T ≤ evF a p ∧ evF a p ≤ T) : ∀ j : Nat, j ≤ xs.length → -T ≤ mxTo xs p j ∧ mxTo xs p j ≤ T
  | 0, _ => by rw [mxTo, ← evAt_eq h0]; exact h _ (List.getElem_mem _)
  | j + 1, hj => by
    have h1 := mxTo_bd h0 h j (by omega)
    have h2 : -T ≤ evAt xs p j ∧ evAt xs p j ≤ T := by rw [← evAt_eq (show j < xs.length by omega)]; exact h _ (List.getElem_mem _)
    rw [mxTo]; split
    · exact h2
    · exact h1
theorem mnTo_bd {xs : List Aff} {p : List Int} {T : Int} (h0 : 0 < xs.length) (h : ∀ a ∈ xs, -T ≤ evF a p ∧ evF a p ≤ T) : ∀ j : Nat, j ≤ xs.length → -T ≤ mnTo xs p j ∧ mnTo xs p j ≤ T
  | 0, _ => by rw [mnTo, ← evAt_eq h0]; exact h _ (List.getElem_mem _)
  | j + 1, hj => by
    have h1 := mnTo_bd h0 h j (by omega)
    have h2 : -T ≤ evAt xs p j ∧ evAt xs p j ≤ T := by rw [← evAt_eq (show j < xs.length by omega)]; exact h _ (List.getElem_mem _)
    rw [mnTo]; split
    · exact h2
    · exact h1
/-- a loop whose bounds are valid -/
def LpOk (l : Lp) : Prop := (0 < l.lo.length ∧ ∀ a ∈ l.lo, affOk a = true) ∧ 0 < l.hi.length ∧ ∀ a ∈ l.hi, affOk a = true
theorem LpOk.bd {l : Lp} {p : List Int} (h : LpOk l) (hp : PtB p) (hl : p.length ≤ 4) : LpBd l p :=
  ⟨h.1.1, h.2.1, fun a ha => hp.evBd (h.1.2 a ha) hl, fun a ha => hp.evBd (h.2.2 a ha) hl⟩
theorem LpOk.lo {l : Lp} {p : List Int} (h : LpOk l) (hp : PtB p) : -(99 * 10 ^ p.length) ≤ loF l p ∧ loF l p ≤ 99 * 10 ^ p.length :=
  mxTo_bd h.1.1 (fun a ha => hp.ev (h.1.2 a ha) p.length (Nat.le_refl _)) _ (Nat.le_refl _)
theorem LpOk.hi {l : Lp} {p : List Int} (h : LpOk l) (hp : PtB p) : -(99 * 10 ^ p.length) ≤ hiF l p ∧ hiF l p ≤ 99 * 10 ^ p.length :=
  mnTo_bd h.2.1 (fun a ha => hp.ev (h.2.2 a ha) p.length (Nat.le_refl _)) _ (Nat.le_refl _)
theorem nest_ok {xs : List Lp} (h : NestValidF xs = true) : xs.length ≤ 4 ∧ ∀ l ∈ xs, LpOk l := by
  simp only [NestValidF, Bool.and_eq_true, decide_eq_true_iff] at h
  refine ⟨h.1, fun l hl => ?_⟩
  obtain ⟨i, hi, rfl⟩ := List.getElem_of_mem hl
  obtain ⟨h1, h2⟩ := nestFrom_at xs 0 h.2 i hi
  have a1 := sideOk_iff h1
  have a2 := sideOk_iff h2
  exact ⟨⟨a1.1, fun a ha => (a1.2.2 a ha).1⟩, a2.1, fun a ha => (a2.2.2 a ha).1⟩
/-- the next coordinate -/
theorem LpOk.next {l : Lp} {p : List Int} (h : LpOk l) (hp : PtB p) {k : Nat} (hk : k < widN l p) : PtB (p ++ [loF l p + (k : Int)]) := by
  have h1 := h.lo hp
  have h2 := h.hi hp
  unfold widN at hk
  exact hp.snoc (by omega) (by omega)
theorem LpOk.small {l : Lp} {p : List Int} (h : LpOk l) (hp : PtB p) (hl : p.length ≤ 3) : (-99000 ≤ loF l p ∧ loF l p ≤ 99000) ∧ -99000 ≤ hiF l p ∧ hiF l p ≤ 99000 := by
  have h1 := h.lo hp
  have h2 := h.hi hp
  have := pow_small hl
  omega
theorem ptB_i64 {p : List Int} (h : PtB p) (hl : p.length ≤ 4) : ∀ x ∈ p, I64 x := fun x hx => by have := h.small hl x hx; unfold I64; omega


end Go.Proofs.YtbhniobgaoncaaaDoor
