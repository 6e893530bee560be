/- The functions on one affine expression, their argument as a list of cells. -/
import Derived.Test.YtbhniobgaoncaaaDoorTyAffine
import Derived.Test.YtbhniobgaoncaaaDoorBasic
set_option linter.all false
set_option linter.unusedSimpArgs false
set_option linter.unusedVariables false
namespace Go.Proofs.YtbhniobgaoncaaaDoor
open Go.ChangeShapes Go.WideShapes Go.ChangeAt Go.RowKit Go.Deep
section
variable {w : World} {x : Aff} {cs : List Value} {bs : List Nat}
theorem specAffineValid_d (h : Rep w x.d cs bs) : Calls Tryd.prog 27 #[.agg cs.toArray] w fun e w' => e = .returned (.bool (affOk x)) ∧ Below w.heap.size w w' := by
  obtain ⟨A, n, c, rfl, _⟩ := Rep.aff_iff.1 h
  exact specAffineValid_c h
theorem implAffineValid_d (h : Rep w x.d cs bs) : Calls Tryd.prog 30 #[.agg cs.toArray] w fun e w' => e = .returned (.bool (affOk x)) ∧ Below w.heap.size w w' := by
  obtain ⟨A, n, c, rfl, _⟩ := Rep.aff_iff.1 h
  exact implAffineValid_c h
theorem l1Depth_d (h : Rep w x.d cs bs) : Calls Tryd.prog 101 #[.agg cs.toArray] w fun e w' => e = .returned (.int .i64 (depF x.coefs)) ∧ Below w.heap.size w w' := by
  obtain ⟨A, n, c, rfl, _⟩ := Rep.aff_iff.1 h
  exact l1Depth_c h
theorem depth_d (h : Rep w x.d cs bs) : Calls Tryd.prog 104 #[.agg cs.toArray] w fun e w' => e = .returned (.int .i64 (depF x.coefs)) ∧ Below w.heap.size w w' := by
  obtain ⟨A, n, c, rfl, _⟩ := Rep.aff_iff.1 h
  exact depth_c h
end
end Go.Proofs.YtbhniobgaoncaaaDoor
