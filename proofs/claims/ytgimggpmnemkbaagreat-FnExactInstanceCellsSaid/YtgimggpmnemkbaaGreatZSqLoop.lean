/- Library functions on slices of Loop: slices.IndexFunc, ContainsFunc, EqualFunc. Printed by tygen.py. -/
import Derived.Test.YtgimggpmnemkbaaGreatZTyLoop
import Derived.Test.YtgimggpmnemkbaaGreatZCore
set_option linter.all false
set_option linter.unusedSimpArgs false
set_option linter.unusedVariables false
namespace Go.Proofs.YtgimggpmnemkbaaGreat
open Go.ChangeShapes Go.WideShapes Go.ChangeAt Go.RowKit Go.Deep

end Go.Proofs.YtgimggpmnemkbaaGreat
