/- Orders, on both sides: which lists name every number below n once; OrderValid. -/
import Derived.Test.YtpmgmekbnbligaaGreatZdInstsS
import Derived.Test.YtpmgmekbnbligaaGreatZdTotal
import Derived.Deep.OwnRows
set_option linter.all false
set_option linter.unusedSimpArgs false
set_option linter.unusedVariables false
namespace Go.Proofs.YtpmgmekbnbligaaGreat
open Go.ChangeShapes Go.WideShapes Go.ChangeAt Go.RowKit Go.Deep

theorem InstsF_ok {p : Pgm} (h : progOk p = true) : (InstsF p).1 = instsF p := by
  obtain ⟨h1, h2, _⟩ := progOk_all h
  rw [InstsF_y (progOk_arr h) h1 (List.all_eq_true.2 h2)]
end Go.Proofs.YtpmgmekbnbligaaGreat
