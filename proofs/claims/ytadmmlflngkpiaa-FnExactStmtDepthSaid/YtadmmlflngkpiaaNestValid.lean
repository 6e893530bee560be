/- Validity of nests: l2Side, NestValid of the reference; boundsOk, NestValid of the program. -/
import Derived.Test.YtadmmlflngkpiaaSqAffine
import Derived.Test.YtadmmlflngkpiaaTyLoop
import Derived.Test.YtadmmlflngkpiaaAffD
import Derived.Test.YtadmmlflngkpiaaCore
set_option linter.all false
set_option linter.unusedSimpArgs false
set_option linter.unusedVariables false
namespace Go.Proofs.Ytadmmlflngkpiaa
open Go.ChangeShapes Go.WideShapes Go.ChangeAt Go.RowKit Go.Deep

def affBad (d : Int) (a : Aff) : Bool := !affOk a || decide (d < (depF a.coefs : Int))
def sideOk (xs : List Aff) (d : Int) : Bool := decide (1 ≤ xs.length) && decide (xs.length ≤ 2) && !xs.any (affBad d)
def nestFrom : List Lp → Nat → Bool
  | [], _ => true
  | x :: xs, i => sideOk x.lo i && sideOk x.hi i && nestFrom xs (i + 1)
def NestValidF (xs : List Lp) : Bool := decide (xs.length ≤ 4) && nestFrom xs 0
theorem nestFrom_drop (xs : List Lp) (j : Nat) (h : j < xs.length) : nestFrom (xs.drop j) j = (sideOk xs[j].lo j && sideOk xs[j].hi j && nestFrom (xs.drop (j + 1)) (j + 1)) := by
  rw [← List.getElem_cons_drop h, nestFrom]
theorem any_drop {α : Type} (p : α → Bool) (xs : List α) (j : Nat) (h : j < xs.length) : (xs.drop j).any p = (p xs[j] || (xs.drop (j + 1)).any p) := by
  rw [← List.getElem_cons_drop h, List.any_cons]
theorem affBad_no {d : Int} {a : Aff} (h : affOk a = false) : affBad d a = true := by simp [affBad, h]
theorem affBad_deep {d : Int} {a : Aff} (h : affOk a = true) (hd : d < (depF a.coefs : Int)) : affBad d a = true := by simp [affBad, h, hd]
theorem affBad_ok {d : Int} {a : Aff} (h : affOk a = true) (hd : ¬ d < (depF a.coefs : Int)) : affBad d a = false := by simp [affBad, h, hd]

section
variable {w : World} {A : Option Addr} {n c : Nat} {bs : List Nat}

end
end Go.Proofs.Ytadmmlflngkpiaa
