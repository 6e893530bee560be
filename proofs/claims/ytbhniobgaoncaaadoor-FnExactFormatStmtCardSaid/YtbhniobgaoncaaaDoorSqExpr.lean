/- Library functions on slices of Expr: slices.IndexFunc, ContainsFunc, EqualFunc. Printed by tygen.py. -/
import Derived.Test.YtbhniobgaoncaaaDoorTyExpr
import Derived.Test.YtbhniobgaoncaaaDoorCore
set_option linter.all false
set_option linter.unusedSimpArgs false
set_option linter.unusedVariables false
namespace Go.Proofs.YtbhniobgaoncaaaDoor
open Go.ChangeShapes Go.WideShapes Go.ChangeAt Go.RowKit Go.Deep




end Go.Proofs.YtbhniobgaoncaaaDoor
