/- The range of a loop at a point: l2Range of the reference, span of the program. -/
import Derived.Test.YtbhniobgaoncaaaDoorNestValid
set_option linter.all false
set_option linter.unusedSimpArgs false
set_option linter.unusedVariables false
namespace Go.Proofs.YtbhniobgaoncaaaDoor
open Go.ChangeShapes Go.WideShapes Go.ChangeAt Go.RowKit Go.Deep

/-- the value of the j-th expression at a point -/
def evAt (xs : List Aff) (pt : List Int) (j : Nat) : Int := evF (xs.getD j ⟨[], 0⟩) pt
theorem evAt_eq {xs : List Aff} {pt : List Int} {j : Nat} (h : j < xs.length) : evF xs[j] pt = evAt xs pt j := by simp [evAt, List.getD_eq_getElem?_getD, h]
/-- the greatest, the least of the first one's and the first j's values -/
def mxTo (xs : List Aff) (pt : List Int) : Nat → Int
  | 0 => evAt xs pt 0
  | j + 1 => if mxTo xs pt j < evAt xs pt j then evAt xs pt j else mxTo xs pt j
def mnTo (xs : List Aff) (pt : List Int) : Nat → Int
  | 0 => evAt xs pt 0
  | j + 1 => if evAt xs pt j < mnTo xs pt j then evAt xs pt j else mnTo xs pt j
def loF (x : Lp) (pt : List Int) : Int := mxTo x.lo pt x.lo.length
def hiF (x : Lp) (pt : List Int) : Int := mnTo x.hi pt x.hi.length
theorem mxTo_one (xs : List Aff) (pt : List Int) : mxTo xs pt 1 = evAt xs pt 0 := by simp [mxTo]
theorem mnTo_one (xs : List Aff) (pt : List Int) : mnTo xs pt 1 = evAt xs pt 0 := by simp [mnTo]
theorem mxTo_up {xs : List Aff} {pt : List Int} {j : Nat} (h : mxTo xs pt j < evAt xs pt j) : mxTo xs pt (j + 1) = evAt xs pt j := if_pos h
theorem mxTo_no {xs : List Aff} {pt : List Int} {j : Nat} (h : ¬ mxTo xs pt j < evAt xs pt j) : mxTo xs pt (j + 1) = mxTo xs pt j := if_neg h
theorem mnTo_up {xs : List Aff} {pt : List Int} {j : Nat} (h : evAt xs pt j < mnTo xs pt j) : mnTo xs pt (j + 1) = evAt xs pt j := if_pos h
theorem mnTo_no {xs : List Aff} {pt : List Int} {j : Nat} (h : ¬ evAt xs pt j < mnTo xs pt j) : mnTo xs pt (j + 1) = mnTo xs pt j := if_neg h
theorem mxTo_max (xs : List Aff) (pt : List Int) (j : Nat) : max (mxTo xs pt j) (evAt xs pt j) = mxTo xs pt (j + 1) := by
  rw [show mxTo xs pt (j + 1) = if mxTo xs pt j < evAt xs pt j then evAt xs pt j else mxTo xs pt j from rfl, Int.max_def]; split <;> split <;> omega
theorem mnTo_min (xs : List Aff) (pt : List Int) (j : Nat) : min (mnTo xs pt j) (evAt xs pt j) = mnTo xs pt (j + 1) := by
  rw [show mnTo xs pt (j + 1) = if evAt xs pt j < mnTo xs pt j then evAt xs pt j else mnTo xs pt j from rfl, Int.min_def]; split <;> split <;> omega

/-- what the ranges ask: both sides have bounds, and these may be valued at the point -/
structure LpBd (x : Lp) (pt : List Int) : Prop where
  lo1 : 1 ≤ x.lo.length
  hi1 : 1 ≤ x.hi.length
  lo : ∀ a ∈ x.lo, EvBd a pt
  hi : ∀ a ∈ x.hi, EvBd a pt

section
variable {w : World} {bs bs' : List Nat}

end
end Go.Proofs.YtbhniobgaoncaaaDoor
