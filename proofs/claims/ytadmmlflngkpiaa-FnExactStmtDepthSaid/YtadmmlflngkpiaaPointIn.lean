/- Points of nests: PointIn of both sides. -/
import Derived.Test.YtadmmlflngkpiaaRange
set_option linter.all false
set_option linter.unusedSimpArgs false
set_option linter.unusedVariables false
namespace Go.Proofs.Ytadmmlflngkpiaa
open Go.ChangeShapes Go.WideShapes Go.ChangeAt Go.RowKit Go.Deep

/-- the j-th coordinate is in its loop's range -/
def inAt (xs : List Lp) (p : List Int) (j : Nat) : Bool := decide (loF (nthL xs j) (p.take j) ≤ gi p j) && decide (gi p j < hiF (nthL xs j) (p.take j))
/-- k coordinates from j on are -/
def inFrom (xs : List Lp) (p : List Int) : Nat → Nat → Bool
  | 0, _ => true
  | k + 1, j => inAt xs p j && inFrom xs p k (j + 1)
def PointInF (xs : List Lp) (p : List Int) : Bool := NestValidF xs && (ptOk p && (decide (p.length = xs.length) && inFrom xs p p.length 0))
theorem inFrom_step {xs : List Lp} {p : List Int} {n j : Nat} (h : j < n) : inFrom xs p (n - j) j = (inAt xs p j && inFrom xs p (n - (j + 1)) (j + 1)) := by
  rw [show n - j = (n - (j + 1)) + 1 by omega, inFrom]
theorem inAt_lo {xs : List Lp} {p : List Int} {j : Nat} (h : gi p j < loF (nthL xs j) (p.take j)) : inAt xs p j = false := by
  simp only [inAt, show ¬ loF (nthL xs j) (p.take j) ≤ gi p j by omega, decide_false, Bool.false_and]
theorem inAt_hi {xs : List Lp} {p : List Int} {j : Nat} (h : hiF (nthL xs j) (p.take j) ≤ gi p j) : inAt xs p j = false := by
  simp only [inAt, show ¬ gi p j < hiF (nthL xs j) (p.take j) by omega, decide_false, Bool.and_false]
theorem inAt_ok {xs : List Lp} {p : List Int} {j : Nat} (h1 : ¬ gi p j < loF (nthL xs j) (p.take j)) (h : ¬ hiF (nthL xs j) (p.take j) ≤ gi p j) : inAt xs p j = true := by
  simp only [inAt, show loF (nthL xs j) (p.take j) ≤ gi p j by omega, show gi p j < hiF (nthL xs j) (p.take j) by omega, decide_true, Bool.and_true]
theorem PointInF_1 {xs : List Lp} {p : List Int} (h : NestValidF xs = false) : PointInF xs p = false := by simp [PointInF, h]
theorem PointInF_2 {xs : List Lp} {p : List Int} (h : ptOk p = false) : PointInF xs p = false := by simp [PointInF, h]
theorem PointInF_3 {xs : List Lp} {p : List Int} (h : ¬ p.length = xs.length) : PointInF xs p = false := by simp [PointInF, h]
theorem PointInF_4 {xs : List Lp} {p : List Int} (h1 : NestValidF xs = true) (h2 : ptOk p = true) (h : p.length = xs.length) : PointInF xs p = inFrom xs p p.length 0 := by simp [PointInF, h, h1, h2]

section
variable {w : World} {A B : Option Addr} {n m c d : Nat} {bs bs' : List Nat}

end
end Go.Proofs.Ytadmmlflngkpiaa
