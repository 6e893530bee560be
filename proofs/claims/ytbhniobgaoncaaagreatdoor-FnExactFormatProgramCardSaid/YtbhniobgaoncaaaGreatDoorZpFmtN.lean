/- FormatNest of both. -/
import Derived.Test.YtbhniobgaoncaaaGreatDoorZpTxtE
set_option linter.all false
set_option linter.unusedSimpArgs false
set_option linter.unusedVariables false
namespace Go.Proofs.YtbhniobgaoncaaaGreatDoor
open Go.ChangeShapes Go.WideShapes Go.ChangeAt Go.RowKit Go.Deep

theorem side_sd {al : List Aff} {d : Int} (h : sideOk al d = true) : SdOk al := by
  unfold sideOk at h
  simp only [Bool.and_eq_true, decide_eq_true_iff, Bool.not_eq_true'] at h
  refine ⟨by omega, fun a ha => ?_⟩
  cases e : affOk a with
  | true => rfl
  | false => exact absurd (List.any_eq_true.2 ⟨a, ha, affBad_no e⟩) (by rw [h.2]; simp)
end Go.Proofs.YtbhniobgaoncaaaGreatDoor
