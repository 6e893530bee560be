/- The cell that an access denotes at a point, on both sides. -/
import Derived.Test.YtbhniobgaoncaaaDoorArrs
import Derived.Test.YtbhniobgaoncaaaDoorTyProgram
import Derived.Test.YtbhniobgaoncaaaDoorSqArray
set_option linter.all false
set_option linter.unusedSimpArgs false
set_option linter.unusedVariables false
namespace Go.Proofs.YtbhniobgaoncaaaDoor
open Go.ChangeShapes Go.WideShapes Go.ChangeAt Go.RowKit Go.Deep

theorem cellN_step {xs : List Ar} {a : Acc} {q : List Int} {j : Nat} (h : j < xs.length) : cellN xs a q (xs.length - j) j = if xs[j].name.toList = a.arr.toList then (if 0 ≤ atF a xs[j] q then cellsTo xs j + atF a xs[j] q else -1) else cellN xs a q (xs.length - (j + 1)) (j + 1) := by
  rw [show xs.length - j = (xs.length - (j + 1)) + 1 by omega, cellN, nthA_eq h]
theorem atN_step {subs : List Aff} {dims q : List Int} {k : Nat} {r : Int} (h : k < subs.length) : atN subs dims q (subs.length - k) k r = if 0 ≤ evF subs[k] q ∧ evF subs[k] q < gi dims k then atN subs dims q (subs.length - (k + 1)) (k + 1) (r * gi dims k + evF subs[k] q) else -1 := by
  rw [show subs.length - k = (subs.length - (k + 1)) + 1 by omega, atN, nthAf_eq h]
theorem cellsTo_step {xs : List Ar} {j : Nat} (h : j < xs.length) : cellsTo xs (j + 1) = cellsTo xs j + szF xs[j] := by rw [cellsTo, nthA_eq h]
/-- what the walk of an array's cells needs to know -/
theorem arr_bd {xs : List Ar} (h : arrsOk xs = true) {j : Nat} (hj : j < xs.length) : dimsOk xs[j].dims = true ∧ (0 ≤ cellsTo xs j ∧ cellsTo xs j ≤ 144) ∧ (1 ≤ szF xs[j] ∧ szF xs[j] ≤ 36) := by
  have h1 := arrsOk_at h
  have h2 := h1.2 j hj
  rw [nthA_eq hj] at h2
  have h3 := cellsTo_bd h j (Nat.le_of_lt hj)
  have h4 := prod_bd36 h2 (Nat.le_refl _)
  have := h1.1
  exact ⟨h2, by omega, h4⟩

section
variable {w : World} {bs bs' bs2 : List Nat}

end
end Go.Proofs.YtbhniobgaoncaaaDoor
