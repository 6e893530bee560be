/- ProgramValid of the program. -/
import Derived.Test.YtgimggpmnemkbaaGreatZInsts
import Derived.Test.YtgimggpmnemkbaaGreatZProgValidS
set_option linter.all false
set_option linter.unusedSimpArgs false
set_option linter.unusedVariables false
namespace Go.Proofs.YtgimggpmnemkbaaGreat
open Go.ChangeShapes Go.WideShapes Go.ChangeAt Go.RowKit Go.Deep

set_option maxHeartbeats 1000000 in
theorem implProgramValid_c {w : World} {p : Pgm} {cs : List Value} {bs : List Nat} (h : Rep w p.d cs bs) :
    Calls Tryz.prog 95 #[.agg cs.toArray] w fun e w' => e = .returned (.bool (progOk p)) ∧ Below w.heap.size w w' := by
  have HP := Lib.hid h
  have HX := Lib.hid (InstsF_2 p)
  obtain ⟨A1, c1, A2, c2, d1, d2, rfl, rfl, g1, g2⟩ := Rep.pgm_iff.1 h
  have Garrays := Lib.hid g1
  have Gparts := Lib.hid g2
  clear h g1 g2
  go_enter Tryz.func95, Tryz.ntmps95
  go_wp2_with fail
  refine (instances_c (HP.out.below bel)).mono ?_
  rintro e w1 ⟨A3, n3, c3, bs3, rfl, _, _, _, b1⟩
  rw [HX.out]
  go_wp2
  go_ret
  exact ⟨rfl, bel⟩
end Go.Proofs.YtgimggpmnemkbaaGreat
