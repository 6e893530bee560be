/- Arrays of both sides: how many cells one has, which lists of arrays are valid. -/
import Derived.Test.YtbhniobgaoncaaaDoorCells
import Derived.Test.YtbhniobgaoncaaaDoorCore
import Derived.IntWalk
set_option linter.all false
set_option linter.unusedSimpArgs false
set_option linter.unusedVariables false
namespace Go.Proofs.YtbhniobgaoncaaaDoor
open Go.ChangeShapes Go.WideShapes Go.ChangeAt Go.RowKit Go.Deep

section
variable {w : World} {bs : List Nat}
theorem prod_step {l : List Int} (h : dimsOk l = true) {j : Nat} (hj : j < l.length) : (1 ≤ prodTo l j ∧ prodTo l j ≤ 36) ∧ (1 ≤ gi l j ∧ gi l j ≤ 6) ∧ 0 ≤ prodTo l j * gi l j ∧ prodTo l j * gi l j ≤ 36 := by
  have h1 := prod_bd36 h (Nat.le_of_lt hj)
  have h2 := (dims_bd h).2 j hj
  have h3 := prod_bd36 h (j := j + 1) hj
  simp only [prodTo] at h3
  omega



end
end Go.Proofs.YtbhniobgaoncaaaDoor
