/- Library functions on slices of Expr: slices.IndexFunc, ContainsFunc, EqualFunc. Printed by tygen.py. -/
import Derived.Test.YtgogjbnneoadkaaGreatZtTyExpr
import Derived.Test.YtgogjbnneoadkaaGreatZtCore
set_option linter.all false
namespace Go.Proofs.YtgogjbnneoadkaaGreat
open Go.ChangeShapes Go.WideShapes Go.ChangeAt Go.RowKit Go.Deep
end Go.Proofs.YtgogjbnneoadkaaGreat
