/-
  NARROWER THAN 'FOR EVERY INPUT', by the rows' own cells (each row's printed sentence says how): FnExactStmtSame: loops · FnExactStmtValid: loops · FnExactStmtDepth: loops · FnExactProgramSame: loops.
  DERIVED. THE GIVEN ROWS OF THIS SEAT. 11 by the template 'for every input the law returns true; each argument reads behind the call as it read before'; 0 by the template 'total and deterministic' (their statements: YtlllidhmohdgiaaTotals.lean).
  GIVEN WITH THE SEED: the statements are not yours to turn. If you find one false, say at which input.
  Laid BY PROGRAM, IN A SANDBOX (cutbox-rows.mjs): the forced cells as the released guide's own fill.sh prints them over the translation 021bac2d26d9bee9… (all of the seat's roots in one cut). By AI agents, Wed Nov 11 2026. No macro, syntax, notation, axiom, sorry.
-/
import Derived.Test.YtlllidhmohdgiaaChecked
import GoSem.Claim
import GoSem.ClaimJoined
import GoSem.ClaimMapViews
import Derived.JoinedTies
import Derived.KernelRfl
namespace Go.Proofs.Ytlllidhmohdgiaa
/- THE CELL 'sum', in the pinned program and in every row, IS THE sha256 OF THE DUMP (.gsa) THAT YtlllidhmohdgiaaProg.lean LOADS. Nothing in Lean hashes anything: it is a label: what it is worth is what the hold of that sum in a sandbox is worth. -/
noncomputable def Try.pinned : Pinned := { name := "ytlllidhmohdgiaa", sum := "021bac2d26d9bee9b18d00ca822ff843383e7a989c999237d56eb2cc38eb2fd3", checked := Try.checked }
namespace Rows
def none {H : Type} : Left H := { results := [], args := [] }

/-- 'laws.FnExactSubstAffine': WHATEVER THE INPUT: true; the input reads as it did. -/
def fnExactSubstAffineSpec : ChangeSpec := { name := "fnExactSubstAffine", fn := fun _ => fun
  | [d1, d2, d3] => { results := [.lit (.bool true)], args := [d1, d2, d3] }
  | _ => none }
def fnExactSubstAffineRow : OpenClaim := { program := "ytlllidhmohdgiaa", sum := "021bac2d26d9bee9b18d00ca822ff843383e7a989c999237d56eb2cc38eb2fd3", func := "loop.example/loopnests/laws.FnExactSubstAffine", spec := "fnExactSubstAffine", unfollowed := true, recurses := true, apart := false }
def FnExactSubstAffineSaid : Prop := fnExactSubstAffineRow.holds Try.pinned (OpenSpec.ofChange fnExactSubstAffineSpec)

/-- ITS FALSE NEIGHBOUR: 'it returns false'. Refute it at one input. -/
def fnExactSubstAffineWrong : ChangeSpec := { name := "fnExactSubstAffine", fn := fun _ => fun
  | [d1, d2, d3] => { results := [.lit (.bool false)], args := [d1, d2, d3] }
  | _ => none }
def FnExactSubstAffineWrongFalsely : Prop := fnExactSubstAffineRow.holds Try.pinned (OpenSpec.ofChange fnExactSubstAffineWrong)

/-- 'laws.FnExactNestSame': WHATEVER THE INPUT: true; the input reads as it did. -/
def fnExactNestSameSpec : ChangeSpec := { name := "fnExactNestSame", fn := fun _ => fun
  | [d1, d2] => { results := [.lit (.bool true)], args := [d1, d2] }
  | _ => none }
def fnExactNestSameRow : OpenClaim := { program := "ytlllidhmohdgiaa", sum := "021bac2d26d9bee9b18d00ca822ff843383e7a989c999237d56eb2cc38eb2fd3", func := "loop.example/loopnests/laws.FnExactNestSame", spec := "fnExactNestSame", unfollowed := true, recurses := true, apart := false }
def FnExactNestSameSaid : Prop := fnExactNestSameRow.holds Try.pinned (OpenSpec.ofChange fnExactNestSameSpec)

/-- ITS FALSE NEIGHBOUR: 'it returns false'. Refute it at one input. -/
def fnExactNestSameWrong : ChangeSpec := { name := "fnExactNestSame", fn := fun _ => fun
  | [d1, d2] => { results := [.lit (.bool false)], args := [d1, d2] }
  | _ => none }
def FnExactNestSameWrongFalsely : Prop := fnExactNestSameRow.holds Try.pinned (OpenSpec.ofChange fnExactNestSameWrong)

/-- 'laws.FnExactNestValid': WHATEVER THE INPUT: true; the input reads as it did. -/
def fnExactNestValidSpec : ChangeSpec := { name := "fnExactNestValid", fn := fun _ => fun
  | [d] => { results := [.lit (.bool true)], args := [d] }
  | _ => none }
def fnExactNestValidRow : OpenClaim := { program := "ytlllidhmohdgiaa", sum := "021bac2d26d9bee9b18d00ca822ff843383e7a989c999237d56eb2cc38eb2fd3", func := "loop.example/loopnests/laws.FnExactNestValid", spec := "fnExactNestValid", unfollowed := true, recurses := true, apart := false }
def FnExactNestValidSaid : Prop := fnExactNestValidRow.holds Try.pinned (OpenSpec.ofChange fnExactNestValidSpec)

/-- ITS FALSE NEIGHBOUR: 'it returns false'. Refute it at one input. -/
def fnExactNestValidWrong : ChangeSpec := { name := "fnExactNestValid", fn := fun _ => fun
  | [d] => { results := [.lit (.bool false)], args := [d] }
  | _ => none }
def FnExactNestValidWrongFalsely : Prop := fnExactNestValidRow.holds Try.pinned (OpenSpec.ofChange fnExactNestValidWrong)

/-- 'laws.FnExactRectNest': WHATEVER THE INPUT: true; the input reads as it did. -/
def fnExactRectNestSpec : ChangeSpec := { name := "fnExactRectNest", fn := fun _ => fun
  | [d] => { results := [.lit (.bool true)], args := [d] }
  | _ => none }
def fnExactRectNestRow : OpenClaim := { program := "ytlllidhmohdgiaa", sum := "021bac2d26d9bee9b18d00ca822ff843383e7a989c999237d56eb2cc38eb2fd3", func := "loop.example/loopnests/laws.FnExactRectNest", spec := "fnExactRectNest", unfollowed := true, recurses := true, apart := false }
def FnExactRectNestSaid : Prop := fnExactRectNestRow.holds Try.pinned (OpenSpec.ofChange fnExactRectNestSpec)

/-- ITS FALSE NEIGHBOUR: 'it returns false'. Refute it at one input. -/
def fnExactRectNestWrong : ChangeSpec := { name := "fnExactRectNest", fn := fun _ => fun
  | [d] => { results := [.lit (.bool false)], args := [d] }
  | _ => none }
def FnExactRectNestWrongFalsely : Prop := fnExactRectNestRow.holds Try.pinned (OpenSpec.ofChange fnExactRectNestWrong)

/-- 'laws.FnExactLoopRange': WHATEVER THE INPUT: true; the input reads as it did. -/
def fnExactLoopRangeSpec : ChangeSpec := { name := "fnExactLoopRange", fn := fun _ => fun
  | [d1, d2] => { results := [.lit (.bool true)], args := [d1, d2] }
  | _ => none }
def fnExactLoopRangeRow : OpenClaim := { program := "ytlllidhmohdgiaa", sum := "021bac2d26d9bee9b18d00ca822ff843383e7a989c999237d56eb2cc38eb2fd3", func := "loop.example/loopnests/laws.FnExactLoopRange", spec := "fnExactLoopRange", unfollowed := true, recurses := true, apart := false }
def FnExactLoopRangeSaid : Prop := fnExactLoopRangeRow.holds Try.pinned (OpenSpec.ofChange fnExactLoopRangeSpec)

/-- ITS FALSE NEIGHBOUR: 'it returns false'. Refute it at one input. -/
def fnExactLoopRangeWrong : ChangeSpec := { name := "fnExactLoopRange", fn := fun _ => fun
  | [d1, d2] => { results := [.lit (.bool false)], args := [d1, d2] }
  | _ => none }
def FnExactLoopRangeWrongFalsely : Prop := fnExactLoopRangeRow.holds Try.pinned (OpenSpec.ofChange fnExactLoopRangeWrong)

/-- 'laws.FnExactStmtSame': WHATEVER THE INPUT: true; the input reads as it did. -/
def fnExactStmtSameSpec : ChangeSpec := { name := "fnExactStmtSame", fn := fun _ => fun
  | [d1, d2] => { results := [.lit (.bool true)], args := [d1, d2] }
  | _ => none }
def fnExactStmtSameRow : OpenClaim := { program := "ytlllidhmohdgiaa", sum := "021bac2d26d9bee9b18d00ca822ff843383e7a989c999237d56eb2cc38eb2fd3", func := "loop.example/loopnests/laws.FnExactStmtSame", spec := "fnExactStmtSame", unfollowed := true, recurses := true, loops := true, apart := false }
def FnExactStmtSameSaid : Prop := fnExactStmtSameRow.holds Try.pinned (OpenSpec.ofChange fnExactStmtSameSpec)

/-- ITS FALSE NEIGHBOUR: 'it returns false'. Refute it at one input. -/
def fnExactStmtSameWrong : ChangeSpec := { name := "fnExactStmtSame", fn := fun _ => fun
  | [d1, d2] => { results := [.lit (.bool false)], args := [d1, d2] }
  | _ => none }
def FnExactStmtSameWrongFalsely : Prop := fnExactStmtSameRow.holds Try.pinned (OpenSpec.ofChange fnExactStmtSameWrong)

/-- 'laws.FnExactPointIn': WHATEVER THE INPUT: true; the input reads as it did. -/
def fnExactPointInSpec : ChangeSpec := { name := "fnExactPointIn", fn := fun _ => fun
  | [d1, d2] => { results := [.lit (.bool true)], args := [d1, d2] }
  | _ => none }
def fnExactPointInRow : OpenClaim := { program := "ytlllidhmohdgiaa", sum := "021bac2d26d9bee9b18d00ca822ff843383e7a989c999237d56eb2cc38eb2fd3", func := "loop.example/loopnests/laws.FnExactPointIn", spec := "fnExactPointIn", unfollowed := true, recurses := true, apart := false }
def FnExactPointInSaid : Prop := fnExactPointInRow.holds Try.pinned (OpenSpec.ofChange fnExactPointInSpec)

/-- ITS FALSE NEIGHBOUR: 'it returns false'. Refute it at one input. -/
def fnExactPointInWrong : ChangeSpec := { name := "fnExactPointIn", fn := fun _ => fun
  | [d1, d2] => { results := [.lit (.bool false)], args := [d1, d2] }
  | _ => none }
def FnExactPointInWrongFalsely : Prop := fnExactPointInRow.holds Try.pinned (OpenSpec.ofChange fnExactPointInWrong)

/-- 'laws.FnExactNestPoints': WHATEVER THE INPUT: true; the input reads as it did. -/
def fnExactNestPointsSpec : ChangeSpec := { name := "fnExactNestPoints", fn := fun _ => fun
  | [d] => { results := [.lit (.bool true)], args := [d] }
  | _ => none }
def fnExactNestPointsRow : OpenClaim := { program := "ytlllidhmohdgiaa", sum := "021bac2d26d9bee9b18d00ca822ff843383e7a989c999237d56eb2cc38eb2fd3", func := "loop.example/loopnests/laws.FnExactNestPoints", spec := "fnExactNestPoints", unfollowed := true, recurses := true, apart := false }
def FnExactNestPointsSaid : Prop := fnExactNestPointsRow.holds Try.pinned (OpenSpec.ofChange fnExactNestPointsSpec)

/-- ITS FALSE NEIGHBOUR: 'it returns false'. Refute it at one input. -/
def fnExactNestPointsWrong : ChangeSpec := { name := "fnExactNestPoints", fn := fun _ => fun
  | [d] => { results := [.lit (.bool false)], args := [d] }
  | _ => none }
def FnExactNestPointsWrongFalsely : Prop := fnExactNestPointsRow.holds Try.pinned (OpenSpec.ofChange fnExactNestPointsWrong)

/-- 'laws.FnExactStmtValid': WHATEVER THE INPUT: true; the input reads as it did. -/
def fnExactStmtValidSpec : ChangeSpec := { name := "fnExactStmtValid", fn := fun _ => fun
  | [d1, d2] => { results := [.lit (.bool true)], args := [d1, d2] }
  | _ => none }
def fnExactStmtValidRow : OpenClaim := { program := "ytlllidhmohdgiaa", sum := "021bac2d26d9bee9b18d00ca822ff843383e7a989c999237d56eb2cc38eb2fd3", func := "loop.example/loopnests/laws.FnExactStmtValid", spec := "fnExactStmtValid", inPlace := ["internal/bytealg.IndexByteString", "internal/bytealg.IndexString"], unfollowed := true, recurses := true, named := ["internal/bytealg.MaxLen"], loops := true, apart := false }
def FnExactStmtValidSaid : Prop := fnExactStmtValidRow.holds Try.pinned (OpenSpec.ofChange fnExactStmtValidSpec)

/-- ITS FALSE NEIGHBOUR: 'it returns false'. Refute it at one input. -/
def fnExactStmtValidWrong : ChangeSpec := { name := "fnExactStmtValid", fn := fun _ => fun
  | [d1, d2] => { results := [.lit (.bool false)], args := [d1, d2] }
  | _ => none }
def FnExactStmtValidWrongFalsely : Prop := fnExactStmtValidRow.holds Try.pinned (OpenSpec.ofChange fnExactStmtValidWrong)

/-- 'laws.FnExactStmtDepth': WHATEVER THE INPUT: true; the input reads as it did. -/
def fnExactStmtDepthSpec : ChangeSpec := { name := "fnExactStmtDepth", fn := fun _ => fun
  | [d] => { results := [.lit (.bool true)], args := [d] }
  | _ => none }
def fnExactStmtDepthRow : OpenClaim := { program := "ytlllidhmohdgiaa", sum := "021bac2d26d9bee9b18d00ca822ff843383e7a989c999237d56eb2cc38eb2fd3", func := "loop.example/loopnests/laws.FnExactStmtDepth", spec := "fnExactStmtDepth", inPlace := ["internal/bytealg.IndexByteString", "internal/bytealg.IndexString"], unfollowed := true, recurses := true, named := ["internal/bytealg.MaxLen"], loops := true, apart := false }
def FnExactStmtDepthSaid : Prop := fnExactStmtDepthRow.holds Try.pinned (OpenSpec.ofChange fnExactStmtDepthSpec)

/-- ITS FALSE NEIGHBOUR: 'it returns false'. Refute it at one input. -/
def fnExactStmtDepthWrong : ChangeSpec := { name := "fnExactStmtDepth", fn := fun _ => fun
  | [d] => { results := [.lit (.bool false)], args := [d] }
  | _ => none }
def FnExactStmtDepthWrongFalsely : Prop := fnExactStmtDepthRow.holds Try.pinned (OpenSpec.ofChange fnExactStmtDepthWrong)

/-- 'laws.FnExactProgramSame': WHATEVER THE INPUT: true; the input reads as it did. -/
def fnExactProgramSameSpec : ChangeSpec := { name := "fnExactProgramSame", fn := fun _ => fun
  | [d1, d2] => { results := [.lit (.bool true)], args := [d1, d2] }
  | _ => none }
def fnExactProgramSameRow : OpenClaim := { program := "ytlllidhmohdgiaa", sum := "021bac2d26d9bee9b18d00ca822ff843383e7a989c999237d56eb2cc38eb2fd3", func := "loop.example/loopnests/laws.FnExactProgramSame", spec := "fnExactProgramSame", unfollowed := true, recurses := true, loops := true, apart := false }
def FnExactProgramSameSaid : Prop := fnExactProgramSameRow.holds Try.pinned (OpenSpec.ofChange fnExactProgramSameSpec)

/-- ITS FALSE NEIGHBOUR: 'it returns false'. Refute it at one input. -/
def fnExactProgramSameWrong : ChangeSpec := { name := "fnExactProgramSame", fn := fun _ => fun
  | [d1, d2] => { results := [.lit (.bool false)], args := [d1, d2] }
  | _ => none }
def FnExactProgramSameWrongFalsely : Prop := fnExactProgramSameRow.holds Try.pinned (OpenSpec.ofChange fnExactProgramSameWrong)

/- THE SECOND FORM. 'bulk': how many values and letters a reading holds, each counted each time it is reached (what is shared counts as often as it is met; a slice's spare places count too). A statement '..UptoSaid' is the law's where the arguments, and the package variables that the reading takes, are together of bulk at most 1048576: NARROWER than '..Said'. Prove '..Said' where nothing that the law and all that it calls make is longer than what came in: it says more and counts as full. Else prove '..UptoSaid'. A law counts once. -/
mutual
def uptoBulk {H : Type} : DataW H → Nat
  | .lit (.string bytes) => bytes.length + 1
  | .lit _ => 1
  | .nil => 1
  | .ptr d => uptoBulk d + 1
  | .slice elems spare => uptoBulkAll elems + uptoBulkAll spare + 1
  | .agg parts => uptoBulkAll parts + 1
  | .iface _ d => uptoBulk d + 1
  | .map entries => uptoBulkEntries entries + 1
  | .held _ => 1
def uptoBulkAll {H : Type} : List (DataW H) → Nat
  | [] => 0
  | d :: r => uptoBulk d + uptoBulkAll r
def uptoBulkEntries {H : Type} : List (Lit × DataW H) → Nat
  | [] => 0
  | x :: r => uptoBulkEntry x + uptoBulkEntries r
def uptoBulkEntry {H : Type} : Lit × DataW H → Nat
  | (.string bytes, d) => bytes.length + uptoBulk d + 1
  | (_, d) => uptoBulk d + 1
 end
def uptoSmall : (H : Type) → List (DataW H) → Bool := fun _ ds => decide (uptoBulkAll ds ≤ 1048576)
def OpenSpec.upto (s : _root_.Go.ChangeSpec) : _root_.Go.OpenSpec := { _root_.Go.OpenSpec.ofChange s with cond := some uptoSmall }

/-- 'laws.FnExactSubstAffine', WHERE WHAT IT READS IS OF BULK AT MOST 1048576: true; the input reads as it did. -/
def fnExactSubstAffineUptoRow : OpenClaim := { program := "ytlllidhmohdgiaa", sum := "021bac2d26d9bee9b18d00ca822ff843383e7a989c999237d56eb2cc38eb2fd3", func := "loop.example/loopnests/laws.FnExactSubstAffine", spec := "fnExactSubstAffine", unfollowed := true, recurses := true, apart := false, narrowed := true }
def FnExactSubstAffineUptoSaid : Prop := fnExactSubstAffineUptoRow.holds Try.pinned (OpenSpec.upto fnExactSubstAffineSpec)

/-- 'laws.FnExactNestSame', WHERE WHAT IT READS IS OF BULK AT MOST 1048576: true; the input reads as it did. -/
def fnExactNestSameUptoRow : OpenClaim := { program := "ytlllidhmohdgiaa", sum := "021bac2d26d9bee9b18d00ca822ff843383e7a989c999237d56eb2cc38eb2fd3", func := "loop.example/loopnests/laws.FnExactNestSame", spec := "fnExactNestSame", unfollowed := true, recurses := true, apart := false, narrowed := true }
def FnExactNestSameUptoSaid : Prop := fnExactNestSameUptoRow.holds Try.pinned (OpenSpec.upto fnExactNestSameSpec)

/-- 'laws.FnExactNestValid', WHERE WHAT IT READS IS OF BULK AT MOST 1048576: true; the input reads as it did. -/
def fnExactNestValidUptoRow : OpenClaim := { program := "ytlllidhmohdgiaa", sum := "021bac2d26d9bee9b18d00ca822ff843383e7a989c999237d56eb2cc38eb2fd3", func := "loop.example/loopnests/laws.FnExactNestValid", spec := "fnExactNestValid", unfollowed := true, recurses := true, apart := false, narrowed := true }
def FnExactNestValidUptoSaid : Prop := fnExactNestValidUptoRow.holds Try.pinned (OpenSpec.upto fnExactNestValidSpec)

/-- 'laws.FnExactRectNest', WHERE WHAT IT READS IS OF BULK AT MOST 1048576: true; the input reads as it did. -/
def fnExactRectNestUptoRow : OpenClaim := { program := "ytlllidhmohdgiaa", sum := "021bac2d26d9bee9b18d00ca822ff843383e7a989c999237d56eb2cc38eb2fd3", func := "loop.example/loopnests/laws.FnExactRectNest", spec := "fnExactRectNest", unfollowed := true, recurses := true, apart := false, narrowed := true }
def FnExactRectNestUptoSaid : Prop := fnExactRectNestUptoRow.holds Try.pinned (OpenSpec.upto fnExactRectNestSpec)

/-- 'laws.FnExactLoopRange', WHERE WHAT IT READS IS OF BULK AT MOST 1048576: true; the input reads as it did. -/
def fnExactLoopRangeUptoRow : OpenClaim := { program := "ytlllidhmohdgiaa", sum := "021bac2d26d9bee9b18d00ca822ff843383e7a989c999237d56eb2cc38eb2fd3", func := "loop.example/loopnests/laws.FnExactLoopRange", spec := "fnExactLoopRange", unfollowed := true, recurses := true, apart := false, narrowed := true }
def FnExactLoopRangeUptoSaid : Prop := fnExactLoopRangeUptoRow.holds Try.pinned (OpenSpec.upto fnExactLoopRangeSpec)

/-- 'laws.FnExactStmtSame', WHERE WHAT IT READS IS OF BULK AT MOST 1048576: true; the input reads as it did. -/
def fnExactStmtSameUptoRow : OpenClaim := { program := "ytlllidhmohdgiaa", sum := "021bac2d26d9bee9b18d00ca822ff843383e7a989c999237d56eb2cc38eb2fd3", func := "loop.example/loopnests/laws.FnExactStmtSame", spec := "fnExactStmtSame", unfollowed := true, recurses := true, loops := true, apart := false, narrowed := true }
def FnExactStmtSameUptoSaid : Prop := fnExactStmtSameUptoRow.holds Try.pinned (OpenSpec.upto fnExactStmtSameSpec)

/-- 'laws.FnExactPointIn', WHERE WHAT IT READS IS OF BULK AT MOST 1048576: true; the input reads as it did. -/
def fnExactPointInUptoRow : OpenClaim := { program := "ytlllidhmohdgiaa", sum := "021bac2d26d9bee9b18d00ca822ff843383e7a989c999237d56eb2cc38eb2fd3", func := "loop.example/loopnests/laws.FnExactPointIn", spec := "fnExactPointIn", unfollowed := true, recurses := true, apart := false, narrowed := true }
def FnExactPointInUptoSaid : Prop := fnExactPointInUptoRow.holds Try.pinned (OpenSpec.upto fnExactPointInSpec)

/-- 'laws.FnExactNestPoints', WHERE WHAT IT READS IS OF BULK AT MOST 1048576: true; the input reads as it did. -/
def fnExactNestPointsUptoRow : OpenClaim := { program := "ytlllidhmohdgiaa", sum := "021bac2d26d9bee9b18d00ca822ff843383e7a989c999237d56eb2cc38eb2fd3", func := "loop.example/loopnests/laws.FnExactNestPoints", spec := "fnExactNestPoints", unfollowed := true, recurses := true, apart := false, narrowed := true }
def FnExactNestPointsUptoSaid : Prop := fnExactNestPointsUptoRow.holds Try.pinned (OpenSpec.upto fnExactNestPointsSpec)

/-- 'laws.FnExactStmtValid', WHERE WHAT IT READS IS OF BULK AT MOST 1048576: true; the input reads as it did. -/
def fnExactStmtValidUptoRow : OpenClaim := { program := "ytlllidhmohdgiaa", sum := "021bac2d26d9bee9b18d00ca822ff843383e7a989c999237d56eb2cc38eb2fd3", func := "loop.example/loopnests/laws.FnExactStmtValid", spec := "fnExactStmtValid", inPlace := ["internal/bytealg.IndexByteString", "internal/bytealg.IndexString"], unfollowed := true, recurses := true, named := ["internal/bytealg.MaxLen"], loops := true, apart := false, narrowed := true }
def FnExactStmtValidUptoSaid : Prop := fnExactStmtValidUptoRow.holds Try.pinned (OpenSpec.upto fnExactStmtValidSpec)

/-- 'laws.FnExactStmtDepth', WHERE WHAT IT READS IS OF BULK AT MOST 1048576: true; the input reads as it did. -/
def fnExactStmtDepthUptoRow : OpenClaim := { program := "ytlllidhmohdgiaa", sum := "021bac2d26d9bee9b18d00ca822ff843383e7a989c999237d56eb2cc38eb2fd3", func := "loop.example/loopnests/laws.FnExactStmtDepth", spec := "fnExactStmtDepth", inPlace := ["internal/bytealg.IndexByteString", "internal/bytealg.IndexString"], unfollowed := true, recurses := true, named := ["internal/bytealg.MaxLen"], loops := true, apart := false, narrowed := true }
def FnExactStmtDepthUptoSaid : Prop := fnExactStmtDepthUptoRow.holds Try.pinned (OpenSpec.upto fnExactStmtDepthSpec)

/-- 'laws.FnExactProgramSame', WHERE WHAT IT READS IS OF BULK AT MOST 1048576: true; the input reads as it did. -/
def fnExactProgramSameUptoRow : OpenClaim := { program := "ytlllidhmohdgiaa", sum := "021bac2d26d9bee9b18d00ca822ff843383e7a989c999237d56eb2cc38eb2fd3", func := "loop.example/loopnests/laws.FnExactProgramSame", spec := "fnExactProgramSame", unfollowed := true, recurses := true, loops := true, apart := false, narrowed := true }
def FnExactProgramSameUptoSaid : Prop := fnExactProgramSameUptoRow.holds Try.pinned (OpenSpec.upto fnExactProgramSameSpec)

end Rows
end Go.Proofs.Ytlllidhmohdgiaa
