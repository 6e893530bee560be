/- Facts on the whole program that every row asks for; each stands alone, so that the kernel forgets between them. -/
import Derived.Test.YtimocdpfnncnlaaGreatRows
import Derived.Test.YtimocdpfnncnlaaGreatChecked
import Derived.ProofKit
import Derived.JoinedOf
set_option linter.all false
set_option linter.unusedSimpArgs false
set_option linter.unusedVariables false
namespace Go.Proofs.YtimocdpfnncnlaaGreat
open Go.RowKit

theorem whole_laid : laidOutB Tryz.prog = true := by kernel_rfl
theorem whole_maps : mapsRowed Tryz.prog = true := by kernel_rfl
theorem whole_stops : (Tryz.prog.stops == []) = true := by kernel_rfl
theorem whole_knobs : (Tryz.prog.stopKnobs == []) = true := by kernel_rfl
theorem whole_heard : Tryz.prog.stopsHeard = true := by kernel_rfl
theorem whole_enter : Tryz.prog.mayEnter = true := by kernel_rfl
theorem whole_lifts : (Rows.fnExactDepBetweenRow.lifted == Tryz.prog.liftsFinal) = true := by kernel_rfl
theorem whole_make : (Tryz.prog.make == some Rows.fnExactDepBetweenRow.make) = true := by kernel_rfl
theorem whole_keys : (Rows.fnExactDepBetweenRow.plainKeys == Tryz.prog.plainKeys) = true := by kernel_rfl
end Go.Proofs.YtimocdpfnncnlaaGreat
