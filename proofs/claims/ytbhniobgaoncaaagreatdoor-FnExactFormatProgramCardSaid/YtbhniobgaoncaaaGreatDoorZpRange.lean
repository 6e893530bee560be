/- Ranges of loops, points of nests: LoopRange, PointIn of both sides; constant bounds: RectNest of both sides. -/
import Derived.Test.YtbhniobgaoncaaaGreatDoorZpTyLoop
import Derived.Test.YtbhniobgaoncaaaGreatDoorZpCore
import Derived.Test.YtbhniobgaoncaaaGreatDoorZpSpan
set_option linter.all false
set_option linter.unusedSimpArgs false
set_option linter.unusedVariables false
namespace Go.Proofs.YtbhniobgaoncaaaGreatDoor
open Go.ChangeShapes Go.WideShapes Go.ChangeAt Go.RowKit Go.Deep

end Go.Proofs.YtbhniobgaoncaaaGreatDoor
set_option linter.all false
set_option linter.unusedSimpArgs false
set_option linter.unusedVariables false
namespace Go.Proofs.YtbhniobgaoncaaaGreatDoor
open Go.ChangeShapes Go.WideShapes Go.ChangeAt Go.RowKit Go.Deep

theorem nestFrom_at : (xs : List Lp) → (i : Nat) → nestFrom xs i = true → ∀ j (h : j < xs.length), sideOk xs[j].lo (i + j : Nat) = true ∧ sideOk xs[j].hi (i + j : Nat) = true
  | [], _, _, j, h => by simp at h
  | x :: xs, i, hv, j, h => by
    simp only [nestFrom, Bool.and_eq_true] at hv
    rcases j with _ | j
    · exact ⟨hv.1.1, hv.1.2⟩
    · have := nestFrom_at xs (i + 1) hv.2 j (by simpa using h)
      simpa [Nat.add_assoc, Nat.add_comm 1 j] using this
theorem sideOk_iff {xs : List Aff} {d : Int} (h : sideOk xs d = true) : 1 ≤ xs.length ∧ xs.length ≤ 2 ∧ ∀ a ∈ xs, affOk a = true ∧ (depF a.coefs : Int) ≤ d := by
  simp only [sideOk, Bool.and_eq_true, decide_eq_true_iff, Bool.not_eq_true', List.any_eq_false] at h
  refine ⟨h.1.1, h.1.2, fun a ha => ?_⟩
  have := h.2 a ha
  simp only [affBad, Bool.or_eq_true, Bool.not_eq_true', decide_eq_true_iff, not_or, Bool.not_eq_false] at this
  exact ⟨this.1, by omega⟩
end Go.Proofs.YtbhniobgaoncaaaGreatDoor
