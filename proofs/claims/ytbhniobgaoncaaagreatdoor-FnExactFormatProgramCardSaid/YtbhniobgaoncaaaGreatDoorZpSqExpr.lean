/- Library functions on slices of Expr: slices.IndexFunc, ContainsFunc, EqualFunc. Printed by tygen.py. -/
import Derived.Test.YtbhniobgaoncaaaGreatDoorZpTyExpr
import Derived.Test.YtbhniobgaoncaaaGreatDoorZpCore
set_option linter.all false
set_option linter.unusedSimpArgs false
set_option linter.unusedVariables false
namespace Go.Proofs.YtbhniobgaoncaaaGreatDoor
open Go.ChangeShapes Go.WideShapes Go.ChangeAt Go.RowKit Go.Deep

end Go.Proofs.YtbhniobgaoncaaaGreatDoor
