/- ProgramValid of the program. -/
import Derived.Test.YtimocdpfnncnlaaGreatInsts
import Derived.Test.YtimocdpfnncnlaaGreatPgValidS
set_option linter.all false
set_option linter.unusedSimpArgs false
set_option linter.unusedVariables false
namespace Go.Proofs.YtimocdpfnncnlaaGreat
open Go.ChangeShapes Go.WideShapes Go.ChangeAt Go.RowKit Go.Deep

end Go.Proofs.YtimocdpfnncnlaaGreat
