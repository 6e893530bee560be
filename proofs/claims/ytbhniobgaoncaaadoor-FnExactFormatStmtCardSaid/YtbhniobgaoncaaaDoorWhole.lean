/- Facts on the whole program that every row asks for; each stands alone, so that the kernel forgets between them. -/
import Derived.Test.YtbhniobgaoncaaaDoorRows
import Derived.Test.YtbhniobgaoncaaaDoorChecked
import Derived.ProofKit
import Derived.JoinedOf
set_option linter.all false
set_option linter.unusedSimpArgs false
set_option linter.unusedVariables false
namespace Go.Proofs.YtbhniobgaoncaaaDoor
open Go.RowKit

theorem whole_laid : laidOutB Tryd.prog = true := by kernel_rfl
theorem whole_maps : mapsRowed Tryd.prog = true := by kernel_rfl
theorem whole_stops : (Tryd.prog.stops == []) = true := by kernel_rfl
theorem whole_knobs : (Tryd.prog.stopKnobs == []) = true := by kernel_rfl
theorem whole_heard : Tryd.prog.stopsHeard = true := by kernel_rfl
theorem whole_enter : Tryd.prog.mayEnter = true := by kernel_rfl
theorem whole_lifts : (Rows.fnExactFormatAffineRow.lifted == Tryd.prog.liftsFinal) = true := by kernel_rfl
theorem whole_make : (Tryd.prog.make == some Rows.fnExactFormatAffineRow.make) = true := by kernel_rfl
theorem whole_keys : (Rows.fnExactFormatAffineRow.plainKeys == Tryd.prog.plainKeys) = true := by kernel_rfl
end Go.Proofs.YtbhniobgaoncaaaDoor
