/-
  NARROWER THAN 'FOR EVERY INPUT', by the rows' own cells (each row's printed sentence says how): FnExactInstanceValue: loops · FnExactCriticalLength: loops · FnExactDependences: loops · FnExactLevelsOf: loops · FnExactProgramInstances: loops · FnExactWrittenCells: loops · FnExactFlowSources: loops · FnExactOrderLegal: loops · FnExactInputCells: loops · FnExactInstanceCells: loops · FnExactOrderBroken: loops · FnExactWaveOrder: loops.
  DERIVED. THE GIVEN ROWS OF THIS SEAT. 12 by the template 'for every input the law returns true; each argument reads behind the call as it read before'; 0 by the template 'total and deterministic' (their statements: YtgimggpmnemkbaaGreatTotals.lean).
  GIVEN WITH THE SEED: the statements are not yours to turn. If you find one false, say at which input.
  Laid BY PROGRAM, IN A SANDBOX (cutbox-rows.mjs): the forced cells as the released guide's own fill.sh prints them over the translation 09f33f4a3d8ccf54… (all of the seat's roots in one cut). By AI agents, Wed Nov 11 2026. No macro, syntax, notation, axiom, sorry.
-/
import Derived.Test.YtgimggpmnemkbaaGreatChecked
import GoSem.Claim
import GoSem.ClaimJoined
import GoSem.ClaimMapViews
import Derived.JoinedTies
import Derived.KernelRfl
namespace Go.Proofs.YtgimggpmnemkbaaGreat
/- THE CELL 'sum', in the pinned program and in every row, IS THE sha256 OF THE DUMP (.gsa) THAT YtgimggpmnemkbaaGreatProg.lean LOADS. Nothing in Lean hashes anything: it is a label: what it is worth is what the hold of that sum in a sandbox is worth. -/
noncomputable def Tryz.pinned : Pinned := { name := "ytgimggpmnemkbaagreat", sum := "09f33f4a3d8ccf54481fb634b2ae1c0ba7b07761f4fcec80c9b6d2047b8c8d61", checked := Tryz.checked }
namespace Rows
def none {H : Type} : Left H := { results := [], args := [] }

/-- 'laws.FnExactInstanceValue': WHATEVER THE INPUT: true; the input reads as it did. -/
def fnExactInstanceValueSpec : ChangeSpec := { name := "fnExactInstanceValue", fn := fun _ => fun
  | [d1, d2, d3] => { results := [.lit (.bool true)], args := [d1, d2, d3] }
  | _ => none }
def fnExactInstanceValueRow : OpenClaim := { program := "ytgimggpmnemkbaagreat", sum := "09f33f4a3d8ccf54481fb634b2ae1c0ba7b07761f4fcec80c9b6d2047b8c8d61", func := "loop.example/loopnests/laws.FnExactInstanceValue", spec := "fnExactInstanceValue", inPlace := ["internal/bytealg.IndexByteString", "internal/bytealg.IndexString"], unfollowed := true, recurses := true, named := ["internal/bytealg.MaxLen"], loops := true, apart := false }
def FnExactInstanceValueSaid : Prop := fnExactInstanceValueRow.holds Tryz.pinned (OpenSpec.ofChange fnExactInstanceValueSpec)

/-- ITS FALSE NEIGHBOUR: 'it returns false'. Refute it at one input. -/
def fnExactInstanceValueWrong : ChangeSpec := { name := "fnExactInstanceValue", fn := fun _ => fun
  | [d1, d2, d3] => { results := [.lit (.bool false)], args := [d1, d2, d3] }
  | _ => none }
def FnExactInstanceValueWrongFalsely : Prop := fnExactInstanceValueRow.holds Tryz.pinned (OpenSpec.ofChange fnExactInstanceValueWrong)

/-- 'laws.FnExactCriticalLength': WHATEVER THE INPUT: true; the input reads as it did. -/
def fnExactCriticalLengthSpec : ChangeSpec := { name := "fnExactCriticalLength", fn := fun _ => fun
  | [d] => { results := [.lit (.bool true)], args := [d] }
  | _ => none }
def fnExactCriticalLengthRow : OpenClaim := { program := "ytgimggpmnemkbaagreat", sum := "09f33f4a3d8ccf54481fb634b2ae1c0ba7b07761f4fcec80c9b6d2047b8c8d61", func := "loop.example/loopnests/laws.FnExactCriticalLength", spec := "fnExactCriticalLength", inPlace := ["internal/bytealg.IndexByteString", "internal/bytealg.IndexString"], unfollowed := true, recurses := true, named := ["internal/bytealg.MaxLen"], loops := true, apart := false }
def FnExactCriticalLengthSaid : Prop := fnExactCriticalLengthRow.holds Tryz.pinned (OpenSpec.ofChange fnExactCriticalLengthSpec)

/-- ITS FALSE NEIGHBOUR: 'it returns false'. Refute it at one input. -/
def fnExactCriticalLengthWrong : ChangeSpec := { name := "fnExactCriticalLength", fn := fun _ => fun
  | [d] => { results := [.lit (.bool false)], args := [d] }
  | _ => none }
def FnExactCriticalLengthWrongFalsely : Prop := fnExactCriticalLengthRow.holds Tryz.pinned (OpenSpec.ofChange fnExactCriticalLengthWrong)

/-- 'laws.FnExactDependences': WHATEVER THE INPUT: true; the input reads as it did. -/
def fnExactDependencesSpec : ChangeSpec := { name := "fnExactDependences", fn := fun _ => fun
  | [d] => { results := [.lit (.bool true)], args := [d] }
  | _ => none }
def fnExactDependencesRow : OpenClaim := { program := "ytgimggpmnemkbaagreat", sum := "09f33f4a3d8ccf54481fb634b2ae1c0ba7b07761f4fcec80c9b6d2047b8c8d61", func := "loop.example/loopnests/laws.FnExactDependences", spec := "fnExactDependences", inPlace := ["internal/bytealg.IndexByteString", "internal/bytealg.IndexString"], unfollowed := true, recurses := true, named := ["internal/bytealg.MaxLen"], loops := true, apart := false }
def FnExactDependencesSaid : Prop := fnExactDependencesRow.holds Tryz.pinned (OpenSpec.ofChange fnExactDependencesSpec)

/-- ITS FALSE NEIGHBOUR: 'it returns false'. Refute it at one input. -/
def fnExactDependencesWrong : ChangeSpec := { name := "fnExactDependences", fn := fun _ => fun
  | [d] => { results := [.lit (.bool false)], args := [d] }
  | _ => none }
def FnExactDependencesWrongFalsely : Prop := fnExactDependencesRow.holds Tryz.pinned (OpenSpec.ofChange fnExactDependencesWrong)

/-- 'laws.FnExactLevelsOf': WHATEVER THE INPUT: true; the input reads as it did. -/
def fnExactLevelsOfSpec : ChangeSpec := { name := "fnExactLevelsOf", fn := fun _ => fun
  | [d] => { results := [.lit (.bool true)], args := [d] }
  | _ => none }
def fnExactLevelsOfRow : OpenClaim := { program := "ytgimggpmnemkbaagreat", sum := "09f33f4a3d8ccf54481fb634b2ae1c0ba7b07761f4fcec80c9b6d2047b8c8d61", func := "loop.example/loopnests/laws.FnExactLevelsOf", spec := "fnExactLevelsOf", inPlace := ["internal/bytealg.IndexByteString", "internal/bytealg.IndexString"], unfollowed := true, recurses := true, named := ["internal/bytealg.MaxLen"], loops := true, apart := false }
def FnExactLevelsOfSaid : Prop := fnExactLevelsOfRow.holds Tryz.pinned (OpenSpec.ofChange fnExactLevelsOfSpec)

/-- ITS FALSE NEIGHBOUR: 'it returns false'. Refute it at one input. -/
def fnExactLevelsOfWrong : ChangeSpec := { name := "fnExactLevelsOf", fn := fun _ => fun
  | [d] => { results := [.lit (.bool false)], args := [d] }
  | _ => none }
def FnExactLevelsOfWrongFalsely : Prop := fnExactLevelsOfRow.holds Tryz.pinned (OpenSpec.ofChange fnExactLevelsOfWrong)

/-- 'laws.FnExactProgramInstances': WHATEVER THE INPUT: true; the input reads as it did. -/
def fnExactProgramInstancesSpec : ChangeSpec := { name := "fnExactProgramInstances", fn := fun _ => fun
  | [d] => { results := [.lit (.bool true)], args := [d] }
  | _ => none }
def fnExactProgramInstancesRow : OpenClaim := { program := "ytgimggpmnemkbaagreat", sum := "09f33f4a3d8ccf54481fb634b2ae1c0ba7b07761f4fcec80c9b6d2047b8c8d61", func := "loop.example/loopnests/laws.FnExactProgramInstances", spec := "fnExactProgramInstances", inPlace := ["internal/bytealg.IndexByteString", "internal/bytealg.IndexString"], unfollowed := true, recurses := true, named := ["internal/bytealg.MaxLen"], loops := true, apart := false }
def FnExactProgramInstancesSaid : Prop := fnExactProgramInstancesRow.holds Tryz.pinned (OpenSpec.ofChange fnExactProgramInstancesSpec)

/-- ITS FALSE NEIGHBOUR: 'it returns false'. Refute it at one input. -/
def fnExactProgramInstancesWrong : ChangeSpec := { name := "fnExactProgramInstances", fn := fun _ => fun
  | [d] => { results := [.lit (.bool false)], args := [d] }
  | _ => none }
def FnExactProgramInstancesWrongFalsely : Prop := fnExactProgramInstancesRow.holds Tryz.pinned (OpenSpec.ofChange fnExactProgramInstancesWrong)

/-- 'laws.FnExactWrittenCells': WHATEVER THE INPUT: true; the input reads as it did. -/
def fnExactWrittenCellsSpec : ChangeSpec := { name := "fnExactWrittenCells", fn := fun _ => fun
  | [d] => { results := [.lit (.bool true)], args := [d] }
  | _ => none }
def fnExactWrittenCellsRow : OpenClaim := { program := "ytgimggpmnemkbaagreat", sum := "09f33f4a3d8ccf54481fb634b2ae1c0ba7b07761f4fcec80c9b6d2047b8c8d61", func := "loop.example/loopnests/laws.FnExactWrittenCells", spec := "fnExactWrittenCells", inPlace := ["internal/bytealg.IndexByteString", "internal/bytealg.IndexString"], unfollowed := true, recurses := true, named := ["internal/bytealg.MaxLen"], loops := true, apart := false }
def FnExactWrittenCellsSaid : Prop := fnExactWrittenCellsRow.holds Tryz.pinned (OpenSpec.ofChange fnExactWrittenCellsSpec)

/-- ITS FALSE NEIGHBOUR: 'it returns false'. Refute it at one input. -/
def fnExactWrittenCellsWrong : ChangeSpec := { name := "fnExactWrittenCells", fn := fun _ => fun
  | [d] => { results := [.lit (.bool false)], args := [d] }
  | _ => none }
def FnExactWrittenCellsWrongFalsely : Prop := fnExactWrittenCellsRow.holds Tryz.pinned (OpenSpec.ofChange fnExactWrittenCellsWrong)

/-- 'laws.FnExactFlowSources': WHATEVER THE INPUT: true; the input reads as it did. -/
def fnExactFlowSourcesSpec : ChangeSpec := { name := "fnExactFlowSources", fn := fun _ => fun
  | [d1, d2] => { results := [.lit (.bool true)], args := [d1, d2] }
  | _ => none }
def fnExactFlowSourcesRow : OpenClaim := { program := "ytgimggpmnemkbaagreat", sum := "09f33f4a3d8ccf54481fb634b2ae1c0ba7b07761f4fcec80c9b6d2047b8c8d61", func := "loop.example/loopnests/laws.FnExactFlowSources", spec := "fnExactFlowSources", inPlace := ["internal/bytealg.IndexByteString", "internal/bytealg.IndexString"], unfollowed := true, recurses := true, named := ["internal/bytealg.MaxLen"], loops := true, apart := false }
def FnExactFlowSourcesSaid : Prop := fnExactFlowSourcesRow.holds Tryz.pinned (OpenSpec.ofChange fnExactFlowSourcesSpec)

/-- ITS FALSE NEIGHBOUR: 'it returns false'. Refute it at one input. -/
def fnExactFlowSourcesWrong : ChangeSpec := { name := "fnExactFlowSources", fn := fun _ => fun
  | [d1, d2] => { results := [.lit (.bool false)], args := [d1, d2] }
  | _ => none }
def FnExactFlowSourcesWrongFalsely : Prop := fnExactFlowSourcesRow.holds Tryz.pinned (OpenSpec.ofChange fnExactFlowSourcesWrong)

/-- 'laws.FnExactOrderLegal': WHATEVER THE INPUT: true; the input reads as it did. -/
def fnExactOrderLegalSpec : ChangeSpec := { name := "fnExactOrderLegal", fn := fun _ => fun
  | [d1, d2] => { results := [.lit (.bool true)], args := [d1, d2] }
  | _ => none }
def fnExactOrderLegalRow : OpenClaim := { program := "ytgimggpmnemkbaagreat", sum := "09f33f4a3d8ccf54481fb634b2ae1c0ba7b07761f4fcec80c9b6d2047b8c8d61", func := "loop.example/loopnests/laws.FnExactOrderLegal", spec := "fnExactOrderLegal", inPlace := ["internal/bytealg.IndexByteString", "internal/bytealg.IndexString"], unfollowed := true, recurses := true, named := ["internal/bytealg.MaxLen"], loops := true, apart := false }
def FnExactOrderLegalSaid : Prop := fnExactOrderLegalRow.holds Tryz.pinned (OpenSpec.ofChange fnExactOrderLegalSpec)

/-- ITS FALSE NEIGHBOUR: 'it returns false'. Refute it at one input. -/
def fnExactOrderLegalWrong : ChangeSpec := { name := "fnExactOrderLegal", fn := fun _ => fun
  | [d1, d2] => { results := [.lit (.bool false)], args := [d1, d2] }
  | _ => none }
def FnExactOrderLegalWrongFalsely : Prop := fnExactOrderLegalRow.holds Tryz.pinned (OpenSpec.ofChange fnExactOrderLegalWrong)

/-- 'laws.FnExactInputCells': WHATEVER THE INPUT: true; the input reads as it did. -/
def fnExactInputCellsSpec : ChangeSpec := { name := "fnExactInputCells", fn := fun _ => fun
  | [d] => { results := [.lit (.bool true)], args := [d] }
  | _ => none }
def fnExactInputCellsRow : OpenClaim := { program := "ytgimggpmnemkbaagreat", sum := "09f33f4a3d8ccf54481fb634b2ae1c0ba7b07761f4fcec80c9b6d2047b8c8d61", func := "loop.example/loopnests/laws.FnExactInputCells", spec := "fnExactInputCells", inPlace := ["internal/bytealg.IndexByteString", "internal/bytealg.IndexString"], unfollowed := true, recurses := true, named := ["internal/bytealg.MaxLen"], loops := true, apart := false }
def FnExactInputCellsSaid : Prop := fnExactInputCellsRow.holds Tryz.pinned (OpenSpec.ofChange fnExactInputCellsSpec)

/-- ITS FALSE NEIGHBOUR: 'it returns false'. Refute it at one input. -/
def fnExactInputCellsWrong : ChangeSpec := { name := "fnExactInputCells", fn := fun _ => fun
  | [d] => { results := [.lit (.bool false)], args := [d] }
  | _ => none }
def FnExactInputCellsWrongFalsely : Prop := fnExactInputCellsRow.holds Tryz.pinned (OpenSpec.ofChange fnExactInputCellsWrong)

/-- 'laws.FnExactInstanceCells': WHATEVER THE INPUT: true; the input reads as it did. -/
def fnExactInstanceCellsSpec : ChangeSpec := { name := "fnExactInstanceCells", fn := fun _ => fun
  | [d1, d2] => { results := [.lit (.bool true)], args := [d1, d2] }
  | _ => none }
def fnExactInstanceCellsRow : OpenClaim := { program := "ytgimggpmnemkbaagreat", sum := "09f33f4a3d8ccf54481fb634b2ae1c0ba7b07761f4fcec80c9b6d2047b8c8d61", func := "loop.example/loopnests/laws.FnExactInstanceCells", spec := "fnExactInstanceCells", inPlace := ["internal/bytealg.IndexByteString", "internal/bytealg.IndexString"], unfollowed := true, recurses := true, named := ["internal/bytealg.MaxLen"], loops := true, apart := false }
def FnExactInstanceCellsSaid : Prop := fnExactInstanceCellsRow.holds Tryz.pinned (OpenSpec.ofChange fnExactInstanceCellsSpec)

/-- ITS FALSE NEIGHBOUR: 'it returns false'. Refute it at one input. -/
def fnExactInstanceCellsWrong : ChangeSpec := { name := "fnExactInstanceCells", fn := fun _ => fun
  | [d1, d2] => { results := [.lit (.bool false)], args := [d1, d2] }
  | _ => none }
def FnExactInstanceCellsWrongFalsely : Prop := fnExactInstanceCellsRow.holds Tryz.pinned (OpenSpec.ofChange fnExactInstanceCellsWrong)

/-- 'laws.FnExactOrderBroken': WHATEVER THE INPUT: true; the input reads as it did. -/
def fnExactOrderBrokenSpec : ChangeSpec := { name := "fnExactOrderBroken", fn := fun _ => fun
  | [d1, d2] => { results := [.lit (.bool true)], args := [d1, d2] }
  | _ => none }
def fnExactOrderBrokenRow : OpenClaim := { program := "ytgimggpmnemkbaagreat", sum := "09f33f4a3d8ccf54481fb634b2ae1c0ba7b07761f4fcec80c9b6d2047b8c8d61", func := "loop.example/loopnests/laws.FnExactOrderBroken", spec := "fnExactOrderBroken", inPlace := ["internal/bytealg.IndexByteString", "internal/bytealg.IndexString"], unfollowed := true, recurses := true, named := ["internal/bytealg.MaxLen"], loops := true, apart := false }
def FnExactOrderBrokenSaid : Prop := fnExactOrderBrokenRow.holds Tryz.pinned (OpenSpec.ofChange fnExactOrderBrokenSpec)

/-- ITS FALSE NEIGHBOUR: 'it returns false'. Refute it at one input. -/
def fnExactOrderBrokenWrong : ChangeSpec := { name := "fnExactOrderBroken", fn := fun _ => fun
  | [d1, d2] => { results := [.lit (.bool false)], args := [d1, d2] }
  | _ => none }
def FnExactOrderBrokenWrongFalsely : Prop := fnExactOrderBrokenRow.holds Tryz.pinned (OpenSpec.ofChange fnExactOrderBrokenWrong)

/-- 'laws.FnExactWaveOrder': WHATEVER THE INPUT: true; the input reads as it did. -/
def fnExactWaveOrderSpec : ChangeSpec := { name := "fnExactWaveOrder", fn := fun _ => fun
  | [d1, d2, d3] => { results := [.lit (.bool true)], args := [d1, d2, d3] }
  | _ => none }
def fnExactWaveOrderRow : OpenClaim := { program := "ytgimggpmnemkbaagreat", sum := "09f33f4a3d8ccf54481fb634b2ae1c0ba7b07761f4fcec80c9b6d2047b8c8d61", func := "loop.example/loopnests/laws.FnExactWaveOrder", spec := "fnExactWaveOrder", inPlace := ["internal/bytealg.IndexByteString", "internal/bytealg.IndexString"], unfollowed := true, recurses := true, named := ["internal/bytealg.MaxLen"], loops := true, apart := false }
def FnExactWaveOrderSaid : Prop := fnExactWaveOrderRow.holds Tryz.pinned (OpenSpec.ofChange fnExactWaveOrderSpec)

/-- ITS FALSE NEIGHBOUR: 'it returns false'. Refute it at one input. -/
def fnExactWaveOrderWrong : ChangeSpec := { name := "fnExactWaveOrder", fn := fun _ => fun
  | [d1, d2, d3] => { results := [.lit (.bool false)], args := [d1, d2, d3] }
  | _ => none }
def FnExactWaveOrderWrongFalsely : Prop := fnExactWaveOrderRow.holds Tryz.pinned (OpenSpec.ofChange fnExactWaveOrderWrong)

/- THE SECOND FORM. 'bulk': how many values and letters a reading holds, each counted each time it is reached (what is shared counts as often as it is met; a slice's spare places count too). A statement '..UptoSaid' is the law's where the arguments, and the package variables that the reading takes, are together of bulk at most 1048576: NARROWER than '..Said'. Prove '..Said' where nothing that the law and all that it calls make is longer than what came in: it says more and counts as full. Else prove '..UptoSaid'. A law counts once. -/
mutual
def uptoBulk {H : Type} : DataW H → Nat
  | .lit (.string bytes) => bytes.length + 1
  | .lit _ => 1
  | .nil => 1
  | .ptr d => uptoBulk d + 1
  | .slice elems spare => uptoBulkAll elems + uptoBulkAll spare + 1
  | .agg parts => uptoBulkAll parts + 1
  | .iface _ d => uptoBulk d + 1
  | .map entries => uptoBulkEntries entries + 1
  | .held _ => 1
def uptoBulkAll {H : Type} : List (DataW H) → Nat
  | [] => 0
  | d :: r => uptoBulk d + uptoBulkAll r
def uptoBulkEntries {H : Type} : List (Lit × DataW H) → Nat
  | [] => 0
  | x :: r => uptoBulkEntry x + uptoBulkEntries r
def uptoBulkEntry {H : Type} : Lit × DataW H → Nat
  | (.string bytes, d) => bytes.length + uptoBulk d + 1
  | (_, d) => uptoBulk d + 1
 end
def uptoSmall : (H : Type) → List (DataW H) → Bool := fun _ ds => decide (uptoBulkAll ds ≤ 1048576)
def OpenSpec.upto (s : _root_.Go.ChangeSpec) : _root_.Go.OpenSpec := { _root_.Go.OpenSpec.ofChange s with cond := some uptoSmall }

/-- 'laws.FnExactInstanceValue', WHERE WHAT IT READS IS OF BULK AT MOST 1048576: true; the input reads as it did. -/
def fnExactInstanceValueUptoRow : OpenClaim := { program := "ytgimggpmnemkbaagreat", sum := "09f33f4a3d8ccf54481fb634b2ae1c0ba7b07761f4fcec80c9b6d2047b8c8d61", func := "loop.example/loopnests/laws.FnExactInstanceValue", spec := "fnExactInstanceValue", inPlace := ["internal/bytealg.IndexByteString", "internal/bytealg.IndexString"], unfollowed := true, recurses := true, named := ["internal/bytealg.MaxLen"], loops := true, apart := false, narrowed := true }
def FnExactInstanceValueUptoSaid : Prop := fnExactInstanceValueUptoRow.holds Tryz.pinned (OpenSpec.upto fnExactInstanceValueSpec)

/-- 'laws.FnExactCriticalLength', WHERE WHAT IT READS IS OF BULK AT MOST 1048576: true; the input reads as it did. -/
def fnExactCriticalLengthUptoRow : OpenClaim := { program := "ytgimggpmnemkbaagreat", sum := "09f33f4a3d8ccf54481fb634b2ae1c0ba7b07761f4fcec80c9b6d2047b8c8d61", func := "loop.example/loopnests/laws.FnExactCriticalLength", spec := "fnExactCriticalLength", inPlace := ["internal/bytealg.IndexByteString", "internal/bytealg.IndexString"], unfollowed := true, recurses := true, named := ["internal/bytealg.MaxLen"], loops := true, apart := false, narrowed := true }
def FnExactCriticalLengthUptoSaid : Prop := fnExactCriticalLengthUptoRow.holds Tryz.pinned (OpenSpec.upto fnExactCriticalLengthSpec)

/-- 'laws.FnExactDependences', WHERE WHAT IT READS IS OF BULK AT MOST 1048576: true; the input reads as it did. -/
def fnExactDependencesUptoRow : OpenClaim := { program := "ytgimggpmnemkbaagreat", sum := "09f33f4a3d8ccf54481fb634b2ae1c0ba7b07761f4fcec80c9b6d2047b8c8d61", func := "loop.example/loopnests/laws.FnExactDependences", spec := "fnExactDependences", inPlace := ["internal/bytealg.IndexByteString", "internal/bytealg.IndexString"], unfollowed := true, recurses := true, named := ["internal/bytealg.MaxLen"], loops := true, apart := false, narrowed := true }
def FnExactDependencesUptoSaid : Prop := fnExactDependencesUptoRow.holds Tryz.pinned (OpenSpec.upto fnExactDependencesSpec)

/-- 'laws.FnExactLevelsOf', WHERE WHAT IT READS IS OF BULK AT MOST 1048576: true; the input reads as it did. -/
def fnExactLevelsOfUptoRow : OpenClaim := { program := "ytgimggpmnemkbaagreat", sum := "09f33f4a3d8ccf54481fb634b2ae1c0ba7b07761f4fcec80c9b6d2047b8c8d61", func := "loop.example/loopnests/laws.FnExactLevelsOf", spec := "fnExactLevelsOf", inPlace := ["internal/bytealg.IndexByteString", "internal/bytealg.IndexString"], unfollowed := true, recurses := true, named := ["internal/bytealg.MaxLen"], loops := true, apart := false, narrowed := true }
def FnExactLevelsOfUptoSaid : Prop := fnExactLevelsOfUptoRow.holds Tryz.pinned (OpenSpec.upto fnExactLevelsOfSpec)

/-- 'laws.FnExactProgramInstances', WHERE WHAT IT READS IS OF BULK AT MOST 1048576: true; the input reads as it did. -/
def fnExactProgramInstancesUptoRow : OpenClaim := { program := "ytgimggpmnemkbaagreat", sum := "09f33f4a3d8ccf54481fb634b2ae1c0ba7b07761f4fcec80c9b6d2047b8c8d61", func := "loop.example/loopnests/laws.FnExactProgramInstances", spec := "fnExactProgramInstances", inPlace := ["internal/bytealg.IndexByteString", "internal/bytealg.IndexString"], unfollowed := true, recurses := true, named := ["internal/bytealg.MaxLen"], loops := true, apart := false, narrowed := true }
def FnExactProgramInstancesUptoSaid : Prop := fnExactProgramInstancesUptoRow.holds Tryz.pinned (OpenSpec.upto fnExactProgramInstancesSpec)

/-- 'laws.FnExactWrittenCells', WHERE WHAT IT READS IS OF BULK AT MOST 1048576: true; the input reads as it did. -/
def fnExactWrittenCellsUptoRow : OpenClaim := { program := "ytgimggpmnemkbaagreat", sum := "09f33f4a3d8ccf54481fb634b2ae1c0ba7b07761f4fcec80c9b6d2047b8c8d61", func := "loop.example/loopnests/laws.FnExactWrittenCells", spec := "fnExactWrittenCells", inPlace := ["internal/bytealg.IndexByteString", "internal/bytealg.IndexString"], unfollowed := true, recurses := true, named := ["internal/bytealg.MaxLen"], loops := true, apart := false, narrowed := true }
def FnExactWrittenCellsUptoSaid : Prop := fnExactWrittenCellsUptoRow.holds Tryz.pinned (OpenSpec.upto fnExactWrittenCellsSpec)

/-- 'laws.FnExactFlowSources', WHERE WHAT IT READS IS OF BULK AT MOST 1048576: true; the input reads as it did. -/
def fnExactFlowSourcesUptoRow : OpenClaim := { program := "ytgimggpmnemkbaagreat", sum := "09f33f4a3d8ccf54481fb634b2ae1c0ba7b07761f4fcec80c9b6d2047b8c8d61", func := "loop.example/loopnests/laws.FnExactFlowSources", spec := "fnExactFlowSources", inPlace := ["internal/bytealg.IndexByteString", "internal/bytealg.IndexString"], unfollowed := true, recurses := true, named := ["internal/bytealg.MaxLen"], loops := true, apart := false, narrowed := true }
def FnExactFlowSourcesUptoSaid : Prop := fnExactFlowSourcesUptoRow.holds Tryz.pinned (OpenSpec.upto fnExactFlowSourcesSpec)

/-- 'laws.FnExactOrderLegal', WHERE WHAT IT READS IS OF BULK AT MOST 1048576: true; the input reads as it did. -/
def fnExactOrderLegalUptoRow : OpenClaim := { program := "ytgimggpmnemkbaagreat", sum := "09f33f4a3d8ccf54481fb634b2ae1c0ba7b07761f4fcec80c9b6d2047b8c8d61", func := "loop.example/loopnests/laws.FnExactOrderLegal", spec := "fnExactOrderLegal", inPlace := ["internal/bytealg.IndexByteString", "internal/bytealg.IndexString"], unfollowed := true, recurses := true, named := ["internal/bytealg.MaxLen"], loops := true, apart := false, narrowed := true }
def FnExactOrderLegalUptoSaid : Prop := fnExactOrderLegalUptoRow.holds Tryz.pinned (OpenSpec.upto fnExactOrderLegalSpec)

/-- 'laws.FnExactInputCells', WHERE WHAT IT READS IS OF BULK AT MOST 1048576: true; the input reads as it did. -/
def fnExactInputCellsUptoRow : OpenClaim := { program := "ytgimggpmnemkbaagreat", sum := "09f33f4a3d8ccf54481fb634b2ae1c0ba7b07761f4fcec80c9b6d2047b8c8d61", func := "loop.example/loopnests/laws.FnExactInputCells", spec := "fnExactInputCells", inPlace := ["internal/bytealg.IndexByteString", "internal/bytealg.IndexString"], unfollowed := true, recurses := true, named := ["internal/bytealg.MaxLen"], loops := true, apart := false, narrowed := true }
def FnExactInputCellsUptoSaid : Prop := fnExactInputCellsUptoRow.holds Tryz.pinned (OpenSpec.upto fnExactInputCellsSpec)

/-- 'laws.FnExactInstanceCells', WHERE WHAT IT READS IS OF BULK AT MOST 1048576: true; the input reads as it did. -/
def fnExactInstanceCellsUptoRow : OpenClaim := { program := "ytgimggpmnemkbaagreat", sum := "09f33f4a3d8ccf54481fb634b2ae1c0ba7b07761f4fcec80c9b6d2047b8c8d61", func := "loop.example/loopnests/laws.FnExactInstanceCells", spec := "fnExactInstanceCells", inPlace := ["internal/bytealg.IndexByteString", "internal/bytealg.IndexString"], unfollowed := true, recurses := true, named := ["internal/bytealg.MaxLen"], loops := true, apart := false, narrowed := true }
def FnExactInstanceCellsUptoSaid : Prop := fnExactInstanceCellsUptoRow.holds Tryz.pinned (OpenSpec.upto fnExactInstanceCellsSpec)

/-- 'laws.FnExactOrderBroken', WHERE WHAT IT READS IS OF BULK AT MOST 1048576: true; the input reads as it did. -/
def fnExactOrderBrokenUptoRow : OpenClaim := { program := "ytgimggpmnemkbaagreat", sum := "09f33f4a3d8ccf54481fb634b2ae1c0ba7b07761f4fcec80c9b6d2047b8c8d61", func := "loop.example/loopnests/laws.FnExactOrderBroken", spec := "fnExactOrderBroken", inPlace := ["internal/bytealg.IndexByteString", "internal/bytealg.IndexString"], unfollowed := true, recurses := true, named := ["internal/bytealg.MaxLen"], loops := true, apart := false, narrowed := true }
def FnExactOrderBrokenUptoSaid : Prop := fnExactOrderBrokenUptoRow.holds Tryz.pinned (OpenSpec.upto fnExactOrderBrokenSpec)

/-- 'laws.FnExactWaveOrder', WHERE WHAT IT READS IS OF BULK AT MOST 1048576: true; the input reads as it did. -/
def fnExactWaveOrderUptoRow : OpenClaim := { program := "ytgimggpmnemkbaagreat", sum := "09f33f4a3d8ccf54481fb634b2ae1c0ba7b07761f4fcec80c9b6d2047b8c8d61", func := "loop.example/loopnests/laws.FnExactWaveOrder", spec := "fnExactWaveOrder", inPlace := ["internal/bytealg.IndexByteString", "internal/bytealg.IndexString"], unfollowed := true, recurses := true, named := ["internal/bytealg.MaxLen"], loops := true, apart := false, narrowed := true }
def FnExactWaveOrderUptoSaid : Prop := fnExactWaveOrderUptoRow.holds Tryz.pinned (OpenSpec.upto fnExactWaveOrderSpec)

end Rows
end Go.Proofs.YtgimggpmnemkbaaGreat
