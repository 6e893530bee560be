/- Slices of slices of integers: the law package's functions on them. -/
import Derived.Test.YtadmmlflngkpiaaCore
import Derived.Test.YtadmmlflngkpiaaUni
set_option linter.all false
set_option linter.unusedSimpArgs false
set_option linter.unusedVariables false
namespace Go.Proofs.Ytadmmlflngkpiaa
open Go.ChangeShapes Go.WideShapes Go.ChangeAt Go.RowKit Go.Deep

theorem ints_size (x : List Int) : (ints x).size = 1 := rfl
def mkI (q : Int) (x : List Int) : List Int := seqI q x.length
def cntI (x : List Int) : Nat := x.length
theorem Rep.ints_form1 {w : World} {x : List Int} {cs : List Value} {bs : List Nat} (h : Rep w (ints x) cs bs) : ∃ A c, cs = [.slice A x.length c] := by
  obtain ⟨A, c, rfl, _⟩ := h.ints_form
  exact ⟨A, c, rfl⟩



end Go.Proofs.Ytadmmlflngkpiaa
