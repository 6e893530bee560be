/- Library functions on slices of Loop: slices.IndexFunc, ContainsFunc, EqualFunc. Printed by tygen.py. -/
import Derived.Test.YtadmmlflngkpiaaTyLoop
import Derived.Test.YtadmmlflngkpiaaCore
set_option linter.all false
set_option linter.unusedSimpArgs false
set_option linter.unusedVariables false
namespace Go.Proofs.Ytadmmlflngkpiaa
open Go.ChangeShapes Go.WideShapes Go.ChangeAt Go.RowKit Go.Deep




end Go.Proofs.Ytadmmlflngkpiaa
