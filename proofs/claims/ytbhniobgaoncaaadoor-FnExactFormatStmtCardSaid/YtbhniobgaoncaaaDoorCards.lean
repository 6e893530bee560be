/-
  DERIVED. GIVEN WITH THE SEED: THE CARDS: each row of YtbhniobgaoncaaaDoorRows.lean that lists a variable, with what it lists TIED to the program's text (the seventh form; the later family's looks); each row that meets fmt, with fmt's text TOLD by the authors' own Lean function (tested against real Go, not proved from fmt's source: count such statements apart). THE CARD IS WHAT COUNTS. Prove the row's statement (the work); the ties are given (YtbhniobgaoncaaaDoorTie.lean); close each card by the builder's one call (the guide's Derived/Test/ToyasCard.lean, 'card_holds'). Laid BY PROGRAM, IN A SANDBOX (cutbox-door.mjs). By AI agents, Wed Nov 11 2026. No macro, syntax, notation, axiom, sorry.
-/
import Derived.Test.YtbhniobgaoncaaaDoorRows
import GoSem.ClaimSeven
namespace Go.Proofs.YtbhniobgaoncaaaDoor
namespace Rows

/-- THE TIED CARD OF 'laws.FnExactFormatAffine'. -/
def fnExactFormatAffineCard : Claim7 := { stood := { row := fnExactFormatAffineRow, standIns := [], harness := (true, "d793452eb3f2ed9fe201119d52b121905ebebbfa7e489381edd5a669a8c7d290"), looks := true }, kinds := [], alts := [], laidByText := true, laidKinds := [.data, .data, .data], laidTests := true, laidLooks := .later }
def FnExactFormatAffineCardSaid : Prop := Claim7.holds Tryd.pinned (.plain (OpenSpec.ofChange fnExactFormatAffineSpec)) fnExactFormatAffineCard

/-- THE TIED CARD OF 'laws.FnExactFormatNest'. -/
def fnExactFormatNestCard : Claim7 := { stood := { row := fnExactFormatNestRow, standIns := [], harness := (true, "d793452eb3f2ed9fe201119d52b121905ebebbfa7e489381edd5a669a8c7d290"), looks := true }, kinds := [], alts := [], laidByText := true, laidKinds := [.data, .data, .data], laidTests := true, laidLooks := .later }
def FnExactFormatNestCardSaid : Prop := Claim7.holds Tryd.pinned (.plain (OpenSpec.ofChange fnExactFormatNestSpec)) fnExactFormatNestCard

/-- THE TIED CARD OF 'laws.FnExactFormatStmt'. -/
def fnExactFormatStmtCard : Claim7 := { stood := { row := fnExactFormatStmtRow, standIns := [], harness := (true, "d793452eb3f2ed9fe201119d52b121905ebebbfa7e489381edd5a669a8c7d290"), looks := true }, kinds := [], alts := [], laidByText := true, laidKinds := [.data, .data, .data], laidTests := true, laidLooks := .later }
def FnExactFormatStmtCardSaid : Prop := Claim7.holds Tryd.pinned (.plain (OpenSpec.ofChange fnExactFormatStmtSpec)) fnExactFormatStmtCard

/-- THE TIED CARD OF 'laws.FnExactParseAffine'. -/
def fnExactParseAffineCard : Claim7 := { stood := { row := fnExactParseAffineRow, standIns := [], harness := (true, "d793452eb3f2ed9fe201119d52b121905ebebbfa7e489381edd5a669a8c7d290"), looks := true }, kinds := [], alts := [], laidByText := true, laidKinds := [.data, .data, .data, .data, .sentinel, .sentinel, .pinned], laidTests := true, laidLooks := .later }
def FnExactParseAffineCardSaid : Prop := Claim7.holds Tryd.pinned (.plain (OpenSpec.ofChange fnExactParseAffineSpec)) fnExactParseAffineCard

/-- THE SECOND FORM's CARD OF 'laws.FnExactFormatAffine'. -/
def fnExactFormatAffineUptoCard : Claim7 := { stood := { row := fnExactFormatAffineUptoRow, standIns := [], harness := (true, "d793452eb3f2ed9fe201119d52b121905ebebbfa7e489381edd5a669a8c7d290"), looks := true }, kinds := [], alts := [], laidByText := true, laidKinds := [.data, .data, .data], laidTests := true, laidLooks := .later }
def FnExactFormatAffineUptoCardSaid : Prop := Claim7.holds Tryd.pinned (.plain (OpenSpec.upto fnExactFormatAffineSpec)) fnExactFormatAffineUptoCard

/-- THE SECOND FORM's CARD OF 'laws.FnExactFormatNest'. -/
def fnExactFormatNestUptoCard : Claim7 := { stood := { row := fnExactFormatNestUptoRow, standIns := [], harness := (true, "d793452eb3f2ed9fe201119d52b121905ebebbfa7e489381edd5a669a8c7d290"), looks := true }, kinds := [], alts := [], laidByText := true, laidKinds := [.data, .data, .data], laidTests := true, laidLooks := .later }
def FnExactFormatNestUptoCardSaid : Prop := Claim7.holds Tryd.pinned (.plain (OpenSpec.upto fnExactFormatNestSpec)) fnExactFormatNestUptoCard

/-- THE SECOND FORM's CARD OF 'laws.FnExactFormatStmt'. -/
def fnExactFormatStmtUptoCard : Claim7 := { stood := { row := fnExactFormatStmtUptoRow, standIns := [], harness := (true, "d793452eb3f2ed9fe201119d52b121905ebebbfa7e489381edd5a669a8c7d290"), looks := true }, kinds := [], alts := [], laidByText := true, laidKinds := [.data, .data, .data], laidTests := true, laidLooks := .later }
def FnExactFormatStmtUptoCardSaid : Prop := Claim7.holds Tryd.pinned (.plain (OpenSpec.upto fnExactFormatStmtSpec)) fnExactFormatStmtUptoCard

/-- THE SECOND FORM's CARD OF 'laws.FnExactParseAffine'. -/
def fnExactParseAffineUptoCard : Claim7 := { stood := { row := fnExactParseAffineUptoRow, standIns := [], harness := (true, "d793452eb3f2ed9fe201119d52b121905ebebbfa7e489381edd5a669a8c7d290"), looks := true }, kinds := [], alts := [], laidByText := true, laidKinds := [.data, .data, .data, .data, .sentinel, .sentinel, .pinned], laidTests := true, laidLooks := .later }
def FnExactParseAffineUptoCardSaid : Prop := Claim7.holds Tryd.pinned (.plain (OpenSpec.upto fnExactParseAffineSpec)) fnExactParseAffineUptoCard
end Rows
end Go.Proofs.YtbhniobgaoncaaaDoor
