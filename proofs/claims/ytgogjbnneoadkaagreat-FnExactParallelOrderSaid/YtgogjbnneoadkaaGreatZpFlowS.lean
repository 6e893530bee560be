/- Sources of what an instance reads, on both sides; FlowSources. -/
import Derived.Test.YtgogjbnneoadkaaGreatZpWaveV
import Derived.Test.YtgogjbnneoadkaaGreatZpDeps1
set_option linter.all false
set_option linter.unusedSimpArgs false
set_option linter.unusedVariables false
namespace Go.Proofs.YtgogjbnneoadkaaGreat
open Go.ChangeShapes Go.WideShapes Go.ChangeAt Go.RowKit Go.Deep

/-- the call answers new integers and a truth value -/
def MadeIB (w : World) (r : List Int × Bool) (e : Ending) (w' : World) : Prop :=
  ∃ A n c bs, e = .returned (.tuple #[.slice A n c, .bool r.2]) ∧ Rep w' (ints r.1) [.slice A n c] bs ∧ bs.Nodup ∧ (∀ b ∈ bs, w.heap.size ≤ b) ∧ Below w.heap.size w w'
theorem MadeIB.of_grow {w w' : World} {e : TypeId} {v : Value} {l : List Int} {b : Bool} {B : Nat} (h : Grow w' B e 1 v (l.map D.int)) (hB : w.heap.size ≤ B) (hb : Below w.heap.size w w') : MadeIB w (l, b) (.returned (.tuple #[v, .bool b])) w' := by
  obtain ⟨A, c, bs, rfl, h1, h2, h3, _⟩ := h.ints
  exact ⟨A, _, c, bs, rfl, h1, h2, fun y hy => Nat.le_trans hB (h3 y hy), hb⟩
end Go.Proofs.YtgogjbnneoadkaaGreat
