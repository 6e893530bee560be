/- Facts on the whole program that every row asks for; each stands alone, so that the kernel forgets between them. -/
import Derived.Test.YtadmmlflngkpiaaRows
import Derived.Test.YtadmmlflngkpiaaChecked
import Derived.ProofKit
import Derived.JoinedOf
set_option linter.all false
set_option linter.unusedSimpArgs false
set_option linter.unusedVariables false
namespace Go.Proofs.Ytadmmlflngkpiaa
open Go.RowKit

theorem whole_laid : laidOutB Try.prog = true := by kernel_rfl
theorem whole_maps : mapsRowed Try.prog = true := by kernel_rfl
theorem whole_stops : (Try.prog.stops == []) = true := by kernel_rfl
theorem whole_knobs : (Try.prog.stopKnobs == []) = true := by kernel_rfl
theorem whole_heard : Try.prog.stopsHeard = true := by kernel_rfl
theorem whole_enter : Try.prog.mayEnter = true := by kernel_rfl
theorem whole_lifts : (Rows.fnExactBoxNestRow.lifted == Try.prog.liftsFinal) = true := by kernel_rfl
theorem whole_make : (Try.prog.make == some Rows.fnExactBoxNestRow.make) = true := by kernel_rfl
theorem whole_keys : (Rows.fnExactBoxNestRow.plainKeys == Try.prog.plainKeys) = true := by kernel_rfl
end Go.Proofs.Ytadmmlflngkpiaa
