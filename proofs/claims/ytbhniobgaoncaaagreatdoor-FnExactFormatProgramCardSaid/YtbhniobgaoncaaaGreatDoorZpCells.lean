/- Arrays and cells in plain Lean: which arrays are valid, how many cells they have, which cell an access denotes. -/
import Derived.Test.YtbhniobgaoncaaaGreatDoorZpTyArray
import Derived.Test.YtbhniobgaoncaaaGreatDoorZpScanI
import Derived.Test.YtbhniobgaoncaaaGreatDoorZpPoints
set_option linter.all false
set_option linter.unusedSimpArgs false
set_option linter.unusedVariables false
namespace Go.Proofs.YtbhniobgaoncaaaGreatDoor
open Go.ChangeShapes Go.WideShapes Go.ChangeAt Go.RowKit Go.Deep

/-- f holds at n indices from j on -/
def allN (f : Nat → Bool) : Nat → Nat → Bool
  | 0, _ => true
  | n + 1, j => f j && allN f n (j + 1)
theorem allN_step {f : Nat → Bool} {n j : Nat} (h : j < n) : allN f (n - j) j = (f j && allN f (n - (j + 1)) (j + 1)) := by
  rw [show n - j = (n - (j + 1)) + 1 by omega]; rfl
theorem allN_end (f : Nat → Bool) (n : Nat) : allN f (n - n) n = true := by simp [allN]
theorem allN_at {f : Nat → Bool} : ∀ (n j : Nat), allN f n j = true → ∀ i, j ≤ i → i < j + n → f i = true
  | 0, j, _, i, h1, h2 => by omega
  | n + 1, j, h, i, h1, h2 => by
    simp only [allN, Bool.and_eq_true] at h
    rcases Nat.eq_or_lt_of_le h1 with rfl | hl
    · exact h.1
    · exact allN_at n (j + 1) h.2 i hl (by omega)

def nthA (xs : List Ar) (j : Nat) : Ar := xs.getD j ⟨⟨#[]⟩, []⟩
theorem nthA_eq {xs : List Ar} {j : Nat} (h : j < xs.length) : nthA xs j = xs[j] := by simp [nthA, List.getD_eq_getElem?_getD, h]
def ltB (a b : ByteArray) : Bool := Op.bytesLess a.toList b.toList
def dimBad (n : Int) : Bool := !inB n 1 6
def dimsOk (l : List Int) : Bool := inB (l.length : Int) 1 2 && !l.any dimBad
def ordAt (xs : List Ar) (j : Nat) : Bool := decide (j = 0) || ltB (nthA xs (j - 1)).name (nthA xs j).name
def arrAt (xs : List Ar) (j : Nat) : Bool := arrOk (nthA xs j).name && (ordAt xs j && dimsOk (nthA xs j).dims)
def arrsOk (xs : List Ar) : Bool := allN (arrAt xs) xs.length 0 && decide (xs.length ≤ 4)

def prodTo (xs : List Int) : Nat → Int
  | 0 => 1
  | j + 1 => prodTo xs j * gi xs j
def szF (a : Ar) : Int := prodTo a.dims a.dims.length
/-- cells of the first n arrays -/
def cellsTo (xs : List Ar) : Nat → Int
  | 0 => 0
  | j + 1 => cellsTo xs j + szF (nthA xs j)
def cellsF (xs : List Ar) : Int := cellsTo xs xs.length
def nthAf (xs : List Aff) (j : Nat) : Aff := xs.getD j ⟨[], 0⟩
theorem nthAf_eq {xs : List Aff} {j : Nat} (h : j < xs.length) : nthAf xs j = xs[j] := by simp [nthAf, List.getD_eq_getElem?_getD, h]
/-- the place in an array, from subscript k on, n subscripts left; -1 outside -/
def atN (subs : List Aff) (dims pt : List Int) : Nat → Nat → Int → Int
  | 0, _, r => r
  | n + 1, k, r => if 0 ≤ evF (nthAf subs k) pt ∧ evF (nthAf subs k) pt < gi dims k then atN subs dims pt n (k + 1) (r * gi dims k + evF (nthAf subs k) pt) else -1
def atF (a : Acc) (x : Ar) (pt : List Int) : Int := if a.subs.length = x.dims.length then atN a.subs x.dims pt a.subs.length 0 0 else -1
/-- the cell from array j on, n arrays left -/
def cellN (xs : List Ar) (a : Acc) (pt : List Int) : Nat → Nat → Int
  | 0, _ => -1
  | n + 1, j => if (nthA xs j).name.toList = a.arr.toList then (if 0 ≤ atF a (nthA xs j) pt then cellsTo xs j + atF a (nthA xs j) pt else -1) else cellN xs a pt n (j + 1)
def cellF (xs : List Ar) (a : Acc) (pt : List Int) : Int := cellN xs a pt xs.length 0

theorem dims_bd {l : List Int} (h : dimsOk l = true) : (1 ≤ l.length ∧ l.length ≤ 2) ∧ ∀ j, j < l.length → 1 ≤ gi l j ∧ gi l j ≤ 6 := by
  simp only [dimsOk, Bool.and_eq_true, Bool.not_eq_true', List.any_eq_false] at h
  obtain ⟨h1, h2⟩ := h
  have := inB_iff.1 h1
  refine ⟨by omega, fun j hj => ?_⟩
  have h3 := h2 _ (List.getElem_mem hj)
  simp only [dimBad, Bool.not_eq_true, Bool.not_eq_false'] at h3
  rw [gi_eq hj]
  exact inB_iff.1 h3
theorem prod_bd {l : List Int} (h : dimsOk l = true) : ∀ j, j ≤ l.length → 1 ≤ prodTo l j ∧ prodTo l j ≤ 6 ^ j
  | 0, _ => by simp [prodTo]
  | j + 1, hj => by
    obtain ⟨h1, h2⟩ := prod_bd h j (by omega)
    obtain ⟨h3, h4⟩ := (dims_bd h).2 j hj
    have e : (6 : Int) ^ (j + 1) = 6 ^ j * 6 := Int.pow_succ _ _
    simp only [prodTo]
    refine ⟨?_, ?_⟩
    · have := Int.mul_le_mul h1 h3 (by omega) (by omega); omega
    · rw [e]; exact Int.mul_le_mul h2 h4 (by omega) (by have : (0 : Int) < 6 ^ j := Int.pow_pos (by omega); omega)
theorem prod_bd36 {l : List Int} (h : dimsOk l = true) {j : Nat} (hj : j ≤ l.length) : 1 ≤ prodTo l j ∧ prodTo l j ≤ 36 := by
  have h1 := prod_bd h j hj
  have h2 := (dims_bd h).1
  have : j = 0 ∨ j = 1 ∨ j = 2 := by omega
  rcases this with rfl | rfl | rfl <;> simp at h1 <;> omega
theorem arrsOk_at {xs : List Ar} (h : arrsOk xs = true) : xs.length ≤ 4 ∧ ∀ j, j < xs.length → dimsOk (nthA xs j).dims = true := by
  simp only [arrsOk, Bool.and_eq_true, decide_eq_true_iff] at h
  refine ⟨h.2, fun j hj => ?_⟩
  have := allN_at _ _ h.1 j (Nat.zero_le _) (by omega)
  simp only [arrAt, Bool.and_eq_true] at this
  exact this.2.2
theorem cellsTo_bd {xs : List Ar} (h : arrsOk xs = true) : ∀ j, j ≤ xs.length → 0 ≤ cellsTo xs j ∧ cellsTo xs j ≤ 36 * (j : Int)
  | 0, _ => by simp [cellsTo]
  | j + 1, hj => by
    have h1 := cellsTo_bd h j (by omega)
    have h2 := prod_bd36 ((arrsOk_at h).2 j hj) (Nat.le_refl _)
    simp only [cellsTo, szF]
    omega
theorem atN_bd {subs : List Aff} {dims pt : List Int} (h : dimsOk dims = true) (hl : subs.length = dims.length) : ∀ (n k : Nat) (r : Int), k + n = subs.length → 0 ≤ r → r < prodTo dims k → -1 ≤ atN subs dims pt n k r ∧ atN subs dims pt n k r < prodTo dims subs.length
  | 0, k, r, hk, h0, h1 => by
    have : k = subs.length := by omega
    subst this
    simp only [atN]; omega
  | n + 1, k, r, hk, h0, h1 => by
    have h2 := (dims_bd h).2 k (by omega)
    simp only [atN]
    split
    · next hv =>
      refine atN_bd h hl n (k + 1) _ (by omega) ?_ ?_
      · have := Int.mul_nonneg h0 (show 0 ≤ gi dims k by omega); omega
      · have : r * gi dims k ≤ (prodTo dims k - 1) * gi dims k := Int.mul_le_mul_of_nonneg_right (by omega) (by omega)
        simp only [prodTo]
        rw [Int.sub_mul] at this
        omega
    · have := prod_bd h subs.length (by omega); omega
/-- a step's bounds -/
theorem step_bd {dims : List Int} (h : dimsOk dims = true) {k : Nat} (hk : k < dims.length) {r v : Int} (h0 : 0 ≤ r) (h1 : r < prodTo dims k) (hv0 : 0 ≤ v) (hv : v < gi dims k) : 0 ≤ r * gi dims k ∧ 0 ≤ r * gi dims k + v ∧ r * gi dims k + v < prodTo dims (k + 1) ∧ prodTo dims (k + 1) ≤ 36 := by
  have h2 := (dims_bd h).2 k hk
  have h3 := Int.mul_nonneg h0 (show 0 ≤ gi dims k by omega)
  have : r * gi dims k ≤ (prodTo dims k - 1) * gi dims k := Int.mul_le_mul_of_nonneg_right (by omega) (by omega)
  have h4 := prod_bd36 h (j := k + 1) (by omega)
  rw [Int.sub_mul] at this
  simp only [prodTo] at h4 ⊢
  omega
theorem atF_bd {a : Acc} {x : Ar} {pt : List Int} (h : dimsOk x.dims = true) : -1 ≤ atF a x pt ∧ atF a x pt < szF x := by
  have hp := prod_bd36 h (Nat.le_refl _)
  unfold atF szF
  split
  · next hl =>
    have := atN_bd (pt := pt) h hl a.subs.length 0 0 (by omega) (by omega) (by simp [prodTo])
    rw [hl] at this
    rw [hl]
    exact this
  · omega
theorem cellN_bd {xs : List Ar} {a : Acc} {pt : List Int} (h : arrsOk xs = true) : ∀ (n j : Nat), j + n = xs.length → -1 ≤ cellN xs a pt n j ∧ cellN xs a pt n j < cellsF xs
  | 0, j, hj => by
    have := cellsTo_bd h xs.length (Nat.le_refl _)
    simp only [cellN, cellsF]; omega
  | n + 1, j, hj => by
    have hm : ∀ (d i : Nat), i + d ≤ xs.length → cellsTo xs i ≤ cellsTo xs (i + d) := by
      intro d
      induction d with
      | zero => intro i _; exact Int.le_refl _
      | succ d ih =>
        intro i hi
        have h1 := ih i (by omega)
        have h2 := prod_bd36 ((arrsOk_at h).2 (i + d) (by omega)) (Nat.le_refl _)
        rw [show i + (d + 1) = (i + d) + 1 by omega]
        simp only [cellsTo, szF]
        omega
    simp only [cellN]
    split
    · split
      · have h1 := atF_bd (a := a) (pt := pt) ((arrsOk_at h).2 j (by omega))
        have h2 := cellsTo_bd h j (by omega)
        have h3 := hm n (j + 1) (by omega)
        rw [show j + 1 + n = xs.length by omega] at h3
        simp only [cellsTo] at h3
        unfold cellsF
        omega
      · have := cellsTo_bd h xs.length (Nat.le_refl _)
        unfold cellsF; omega
    · exact cellN_bd h n (j + 1) (by omega)
theorem cellF_bd {xs : List Ar} {a : Acc} {pt : List Int} (h : arrsOk xs = true) : -1 ≤ cellF xs a pt ∧ cellF xs a pt < cellsF xs := cellN_bd h _ _ (by omega)
theorem cellsF_bd {xs : List Ar} (h : arrsOk xs = true) : 0 ≤ cellsF xs ∧ cellsF xs ≤ 144 := by
  have := cellsTo_bd h xs.length (Nat.le_refl _)
  have := (arrsOk_at h).1
  unfold cellsF; omega

mutual
/-- the accesses that an expression reads -/
def readsF : Ex → List Acc
  | ⟨k, _, _, r, kids⟩ => if k = 3 then r :: [] else readsL kids
def readsL : List Ex → List Acc
  | [] => []
  | x :: l => readsF x ++ readsL l
end
end Go.Proofs.YtbhniobgaoncaaaGreatDoor
