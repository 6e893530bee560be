/- Points of nests: NestPoints of the reference; walk, NestPoints of the program. -/
import Derived.Test.YtbhniobgaoncaaaDoorPoints
import Derived.Deep.RegionLaw
set_option linter.all false
set_option linter.unusedSimpArgs false
set_option linter.unusedVariables false
namespace Go.Proofs.YtbhniobgaoncaaaDoor
open Go.ChangeShapes Go.WideShapes Go.ChangeAt Go.RowKit Go.Deep

theorem NestPointsF_1 {xs : List Lp} (h : NestValidF xs = false) : NestPointsF xs = ([], false) := by simp [NestPointsF, h]
theorem NestPointsF_2 {xs : List Lp} (h : ¬ cntF xs [] ≤ 1200) : NestPointsF xs = ([], false) := by simp [NestPointsF, h]
theorem NestPointsF_3 {xs : List Lp} (h : ¬ (ptsF xs []).length ≤ 120) : NestPointsF xs = ([], false) := by simp [NestPointsF, h]
theorem NestPointsF_4 {xs : List Lp} (h : NestValidF xs = true) (h1 : cntF xs [] ≤ 1200) (h2 : (ptsF xs []).length ≤ 120) : NestPointsF xs = (ptsF xs [], true) := by simp [NestPointsF, h, h1, h2]

/-- the call answers new points and a truth value -/
def MadePtsB (w : World) (r : List (List Int) × Bool) (e : Ending) (w' : World) : Prop :=
  ∃ A n c bs, e = .returned (.tuple #[.slice A n c, .bool r.2]) ∧ Rep w' (sls ints r.1) [.slice A n c] bs ∧ bs.Nodup ∧ (∀ b ∈ bs, w.heap.size ≤ b) ∧ Below w.heap.size w w'



end Go.Proofs.YtbhniobgaoncaaaDoor
