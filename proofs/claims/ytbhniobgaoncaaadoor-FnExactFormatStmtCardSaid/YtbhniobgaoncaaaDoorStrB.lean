/- Texts as lists of bytes: what two of them make, numbers below 100 in digits. -/
import Derived.Test.YtbhniobgaoncaaaDoorFmtF
import Derived.Lib.ItoaNum
set_option linter.all false
set_option linter.unusedSimpArgs false
set_option linter.unusedVariables false
namespace Go.Proofs.YtbhniobgaoncaaaDoor
open Go.ChangeShapes Go.WideShapes Go.ChangeAt Go.RowKit Go.Deep

theorem strOf_app (a b : List UInt8) : strOf a ++ strOf b = strOf (a ++ b) := by
  apply ByteArray.ext
  apply Array.toList_inj.1
  rw [data_app, strOf_data, strOf_data, strOf_data]
theorem decDigits_lt {n : Nat} (h : n < 100) : Lib.decDigits n = decL n := by
  have : ∀ n : Fin 100, Lib.decDigits n.val = decL n.val := by decide +kernel
  exact this ⟨n, h⟩
end Go.Proofs.YtbhniobgaoncaaaDoor
