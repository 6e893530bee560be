/- The functions on one affine expression, their argument as a list of cells. -/
import Derived.Test.YtbhniobgaoncaaaGreatDoorZpTyAffine
import Derived.Test.YtbhniobgaoncaaaGreatDoorZpBasic
set_option linter.all false
set_option linter.unusedSimpArgs false
set_option linter.unusedVariables false
namespace Go.Proofs.YtbhniobgaoncaaaGreatDoor
open Go.ChangeShapes Go.WideShapes Go.ChangeAt Go.RowKit Go.Deep
section
variable {w : World} {x : Aff} {cs : List Value} {bs : List Nat}
theorem specAffineValid_d (h : Rep w x.d cs bs) : Calls Tryz.prog 138 #[.agg cs.toArray] w fun e w' => e = .returned (.bool (affOk x)) ∧ Below w.heap.size w w' := by
  obtain ⟨A, n, c, rfl, _⟩ := Rep.aff_iff.1 h
  exact specAffineValid_c h
theorem implAffineValid_d (h : Rep w x.d cs bs) : Calls Tryz.prog 145 #[.agg cs.toArray] w fun e w' => e = .returned (.bool (affOk x)) ∧ Below w.heap.size w w' := by
  obtain ⟨A, n, c, rfl, _⟩ := Rep.aff_iff.1 h
  exact implAffineValid_c h
theorem l1Depth_d (h : Rep w x.d cs bs) : Calls Tryz.prog 139 #[.agg cs.toArray] w fun e w' => e = .returned (.int .i64 (depF x.coefs)) ∧ Below w.heap.size w w' := by
  obtain ⟨A, n, c, rfl, _⟩ := Rep.aff_iff.1 h
  exact l1Depth_c h
theorem depth_d (h : Rep w x.d cs bs) : Calls Tryz.prog 146 #[.agg cs.toArray] w fun e w' => e = .returned (.int .i64 (depF x.coefs)) ∧ Below w.heap.size w w' := by
  obtain ⟨A, n, c, rfl, _⟩ := Rep.aff_iff.1 h
  exact depth_c h
theorem l1Eval_d {xs : List Int} {B : Option Addr} {m d : Nat} {bs' : List Nat} (h : Rep w x.d cs bs) (hp : Rep w (ints xs) [.slice B m d] bs') (he : EvBd x xs) :
    Calls Tryz.prog 224 #[.agg cs.toArray, .slice B m d] w fun e w' => e = .returned (.int .i64 (evF x xs)) ∧ Below w.heap.size w w' := by
  obtain ⟨A, n, c, rfl, _⟩ := Rep.aff_iff.1 h
  exact l1Eval_c h hp he
theorem eval_d {xs : List Int} {B : Option Addr} {m d : Nat} {bs' : List Nat} (h : Rep w x.d cs bs) (hp : Rep w (ints xs) [.slice B m d] bs') (he : EvBd x xs) :
    Calls Tryz.prog 232 #[.agg cs.toArray, .slice B m d] w fun e w' => e = .returned (.int .i64 (evF x xs)) ∧ Below w.heap.size w w' := by
  obtain ⟨A, n, c, rfl, _⟩ := Rep.aff_iff.1 h
  exact eval_c h hp he
end
end Go.Proofs.YtbhniobgaoncaaaGreatDoor
