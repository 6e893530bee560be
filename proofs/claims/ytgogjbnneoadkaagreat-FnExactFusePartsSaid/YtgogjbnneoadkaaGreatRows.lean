/-
  NARROWER THAN 'FOR EVERY INPUT', by the rows' own cells (each row's printed sentence says how): FnExactSplitLoop: loops · FnExactDistributePart: loops · FnExactFuseParts: loops · FnExactParallelOrder: loops · FnExactWaveOrder: loops.
  DERIVED. THE GIVEN ROWS OF THIS SEAT. 5 by the template 'for every input the law returns true; each argument reads behind the call as it read before'; 0 by the template 'total and deterministic' (their statements: YtgogjbnneoadkaaGreatTotals.lean).
  GIVEN WITH THE SEED: the statements are not yours to turn. If you find one false, say at which input.
  Laid BY PROGRAM, IN A SANDBOX (cutbox-rows.mjs): the forced cells as the released guide's own fill.sh prints them over the translation bc266afaeacbe3a3… (all of the seat's roots in one cut). By AI agents, Wed Nov 11 2026. No macro, syntax, notation, axiom, sorry.
-/
import Derived.Test.YtgogjbnneoadkaaGreatChecked
import GoSem.Claim
import GoSem.ClaimJoined
import GoSem.ClaimMapViews
import Derived.JoinedTies
import Derived.KernelRfl
namespace Go.Proofs.YtgogjbnneoadkaaGreat
/- THE CELL 'sum', in the pinned program and in every row, IS THE sha256 OF THE DUMP (.gsa) THAT YtgogjbnneoadkaaGreatProg.lean LOADS. Nothing in Lean hashes anything: it is a label: what it is worth is what the hold of that sum in a sandbox is worth. -/
noncomputable def Tryz.pinned : Pinned := { name := "ytgogjbnneoadkaagreat", sum := "bc266afaeacbe3a3a2ee8ce250e77f5c2329ea6a1eef088f5f4bb5904a26b8b8", checked := Tryz.checked }
namespace Rows
def none {H : Type} : Left H := { results := [], args := [] }

/-- 'laws.FnExactSplitLoop': WHATEVER THE INPUT: true; the input reads as it did. -/
def fnExactSplitLoopSpec : ChangeSpec := { name := "fnExactSplitLoop", fn := fun _ => fun
  | [d1, d2, d3] => { results := [.lit (.bool true)], args := [d1, d2, d3] }
  | _ => none }
def fnExactSplitLoopRow : OpenClaim := { program := "ytgogjbnneoadkaagreat", sum := "bc266afaeacbe3a3a2ee8ce250e77f5c2329ea6a1eef088f5f4bb5904a26b8b8", func := "loop.example/loopnests/laws.FnExactSplitLoop", spec := "fnExactSplitLoop", inPlace := ["internal/bytealg.IndexByteString", "internal/bytealg.IndexString", "slices.overlaps[loop.example/loopnests/impl.Part]"], unfollowed := true, recurses := true, named := ["internal/bytealg.MaxLen"], loops := true, apart := false }
def FnExactSplitLoopSaid : Prop := fnExactSplitLoopRow.holds Tryz.pinned (OpenSpec.ofChange fnExactSplitLoopSpec)

/-- ITS FALSE NEIGHBOUR: 'it returns false'. Refute it at one input. -/
def fnExactSplitLoopWrong : ChangeSpec := { name := "fnExactSplitLoop", fn := fun _ => fun
  | [d1, d2, d3] => { results := [.lit (.bool false)], args := [d1, d2, d3] }
  | _ => none }
def FnExactSplitLoopWrongFalsely : Prop := fnExactSplitLoopRow.holds Tryz.pinned (OpenSpec.ofChange fnExactSplitLoopWrong)

/-- 'laws.FnExactDistributePart': WHATEVER THE INPUT: true; the input reads as it did. -/
def fnExactDistributePartSpec : ChangeSpec := { name := "fnExactDistributePart", fn := fun _ => fun
  | [d1, d2, d3] => { results := [.lit (.bool true)], args := [d1, d2, d3] }
  | _ => none }
def fnExactDistributePartRow : OpenClaim := { program := "ytgogjbnneoadkaagreat", sum := "bc266afaeacbe3a3a2ee8ce250e77f5c2329ea6a1eef088f5f4bb5904a26b8b8", func := "loop.example/loopnests/laws.FnExactDistributePart", spec := "fnExactDistributePart", inPlace := ["internal/bytealg.IndexByteString", "internal/bytealg.IndexString", "slices.overlaps[loop.example/loopnests/impl.Part]"], unfollowed := true, recurses := true, named := ["internal/bytealg.MaxLen"], loops := true, apart := false }
def FnExactDistributePartSaid : Prop := fnExactDistributePartRow.holds Tryz.pinned (OpenSpec.ofChange fnExactDistributePartSpec)

/-- ITS FALSE NEIGHBOUR: 'it returns false'. Refute it at one input. -/
def fnExactDistributePartWrong : ChangeSpec := { name := "fnExactDistributePart", fn := fun _ => fun
  | [d1, d2, d3] => { results := [.lit (.bool false)], args := [d1, d2, d3] }
  | _ => none }
def FnExactDistributePartWrongFalsely : Prop := fnExactDistributePartRow.holds Tryz.pinned (OpenSpec.ofChange fnExactDistributePartWrong)

/-- 'laws.FnExactFuseParts': WHATEVER THE INPUT: true; the input reads as it did. -/
def fnExactFusePartsSpec : ChangeSpec := { name := "fnExactFuseParts", fn := fun _ => fun
  | [d1, d2] => { results := [.lit (.bool true)], args := [d1, d2] }
  | _ => none }
def fnExactFusePartsRow : OpenClaim := { program := "ytgogjbnneoadkaagreat", sum := "bc266afaeacbe3a3a2ee8ce250e77f5c2329ea6a1eef088f5f4bb5904a26b8b8", func := "loop.example/loopnests/laws.FnExactFuseParts", spec := "fnExactFuseParts", inPlace := ["internal/bytealg.IndexByteString", "internal/bytealg.IndexString"], unfollowed := true, recurses := true, named := ["internal/bytealg.MaxLen"], loops := true, apart := false }
def FnExactFusePartsSaid : Prop := fnExactFusePartsRow.holds Tryz.pinned (OpenSpec.ofChange fnExactFusePartsSpec)

/-- ITS FALSE NEIGHBOUR: 'it returns false'. Refute it at one input. -/
def fnExactFusePartsWrong : ChangeSpec := { name := "fnExactFuseParts", fn := fun _ => fun
  | [d1, d2] => { results := [.lit (.bool false)], args := [d1, d2] }
  | _ => none }
def FnExactFusePartsWrongFalsely : Prop := fnExactFusePartsRow.holds Tryz.pinned (OpenSpec.ofChange fnExactFusePartsWrong)

/-- 'laws.FnExactParallelOrder': WHATEVER THE INPUT: true; the input reads as it did. -/
def fnExactParallelOrderSpec : ChangeSpec := { name := "fnExactParallelOrder", fn := fun _ => fun
  | [d1, d2, d3, d4] => { results := [.lit (.bool true)], args := [d1, d2, d3, d4] }
  | _ => none }
def fnExactParallelOrderRow : OpenClaim := { program := "ytgogjbnneoadkaagreat", sum := "bc266afaeacbe3a3a2ee8ce250e77f5c2329ea6a1eef088f5f4bb5904a26b8b8", func := "loop.example/loopnests/laws.FnExactParallelOrder", spec := "fnExactParallelOrder", inPlace := ["internal/bytealg.IndexByteString", "internal/bytealg.IndexString"], unfollowed := true, recurses := true, named := ["internal/bytealg.MaxLen"], loops := true, apart := false }
def FnExactParallelOrderSaid : Prop := fnExactParallelOrderRow.holds Tryz.pinned (OpenSpec.ofChange fnExactParallelOrderSpec)

/-- ITS FALSE NEIGHBOUR: 'it returns false'. Refute it at one input. -/
def fnExactParallelOrderWrong : ChangeSpec := { name := "fnExactParallelOrder", fn := fun _ => fun
  | [d1, d2, d3, d4] => { results := [.lit (.bool false)], args := [d1, d2, d3, d4] }
  | _ => none }
def FnExactParallelOrderWrongFalsely : Prop := fnExactParallelOrderRow.holds Tryz.pinned (OpenSpec.ofChange fnExactParallelOrderWrong)

/-- 'laws.FnExactWaveOrder': WHATEVER THE INPUT: true; the input reads as it did. -/
def fnExactWaveOrderSpec : ChangeSpec := { name := "fnExactWaveOrder", fn := fun _ => fun
  | [d1, d2, d3] => { results := [.lit (.bool true)], args := [d1, d2, d3] }
  | _ => none }
def fnExactWaveOrderRow : OpenClaim := { program := "ytgogjbnneoadkaagreat", sum := "bc266afaeacbe3a3a2ee8ce250e77f5c2329ea6a1eef088f5f4bb5904a26b8b8", func := "loop.example/loopnests/laws.FnExactWaveOrder", spec := "fnExactWaveOrder", inPlace := ["internal/bytealg.IndexByteString", "internal/bytealg.IndexString"], unfollowed := true, recurses := true, named := ["internal/bytealg.MaxLen"], loops := true, apart := false }
def FnExactWaveOrderSaid : Prop := fnExactWaveOrderRow.holds Tryz.pinned (OpenSpec.ofChange fnExactWaveOrderSpec)

/-- ITS FALSE NEIGHBOUR: 'it returns false'. Refute it at one input. -/
def fnExactWaveOrderWrong : ChangeSpec := { name := "fnExactWaveOrder", fn := fun _ => fun
  | [d1, d2, d3] => { results := [.lit (.bool false)], args := [d1, d2, d3] }
  | _ => none }
def FnExactWaveOrderWrongFalsely : Prop := fnExactWaveOrderRow.holds Tryz.pinned (OpenSpec.ofChange fnExactWaveOrderWrong)

/- THE SECOND FORM. 'bulk': how many values and letters a reading holds, each counted each time it is reached (what is shared counts as often as it is met; a slice's spare places count too). A statement '..UptoSaid' is the law's where the arguments, and the package variables that the reading takes, are together of bulk at most 1048576: NARROWER than '..Said'. Prove '..Said' where nothing that the law and all that it calls make is longer than what came in: it says more and counts as full. Else prove '..UptoSaid'. A law counts once. -/
mutual
def uptoBulk {H : Type} : DataW H → Nat
  | .lit (.string bytes) => bytes.length + 1
  | .lit _ => 1
  | .nil => 1
  | .ptr d => uptoBulk d + 1
  | .slice elems spare => uptoBulkAll elems + uptoBulkAll spare + 1
  | .agg parts => uptoBulkAll parts + 1
  | .iface _ d => uptoBulk d + 1
  | .map entries => uptoBulkEntries entries + 1
  | .held _ => 1
def uptoBulkAll {H : Type} : List (DataW H) → Nat
  | [] => 0
  | d :: r => uptoBulk d + uptoBulkAll r
def uptoBulkEntries {H : Type} : List (Lit × DataW H) → Nat
  | [] => 0
  | x :: r => uptoBulkEntry x + uptoBulkEntries r
def uptoBulkEntry {H : Type} : Lit × DataW H → Nat
  | (.string bytes, d) => bytes.length + uptoBulk d + 1
  | (_, d) => uptoBulk d + 1
 end
def uptoSmall : (H : Type) → List (DataW H) → Bool := fun _ ds => decide (uptoBulkAll ds ≤ 1048576)
def OpenSpec.upto (s : _root_.Go.ChangeSpec) : _root_.Go.OpenSpec := { _root_.Go.OpenSpec.ofChange s with cond := some uptoSmall }

/-- 'laws.FnExactSplitLoop', WHERE WHAT IT READS IS OF BULK AT MOST 1048576: true; the input reads as it did. -/
def fnExactSplitLoopUptoRow : OpenClaim := { program := "ytgogjbnneoadkaagreat", sum := "bc266afaeacbe3a3a2ee8ce250e77f5c2329ea6a1eef088f5f4bb5904a26b8b8", func := "loop.example/loopnests/laws.FnExactSplitLoop", spec := "fnExactSplitLoop", inPlace := ["internal/bytealg.IndexByteString", "internal/bytealg.IndexString", "slices.overlaps[loop.example/loopnests/impl.Part]"], unfollowed := true, recurses := true, named := ["internal/bytealg.MaxLen"], loops := true, apart := false, narrowed := true }
def FnExactSplitLoopUptoSaid : Prop := fnExactSplitLoopUptoRow.holds Tryz.pinned (OpenSpec.upto fnExactSplitLoopSpec)

/-- 'laws.FnExactDistributePart', WHERE WHAT IT READS IS OF BULK AT MOST 1048576: true; the input reads as it did. -/
def fnExactDistributePartUptoRow : OpenClaim := { program := "ytgogjbnneoadkaagreat", sum := "bc266afaeacbe3a3a2ee8ce250e77f5c2329ea6a1eef088f5f4bb5904a26b8b8", func := "loop.example/loopnests/laws.FnExactDistributePart", spec := "fnExactDistributePart", inPlace := ["internal/bytealg.IndexByteString", "internal/bytealg.IndexString", "slices.overlaps[loop.example/loopnests/impl.Part]"], unfollowed := true, recurses := true, named := ["internal/bytealg.MaxLen"], loops := true, apart := false, narrowed := true }
def FnExactDistributePartUptoSaid : Prop := fnExactDistributePartUptoRow.holds Tryz.pinned (OpenSpec.upto fnExactDistributePartSpec)

/-- 'laws.FnExactFuseParts', WHERE WHAT IT READS IS OF BULK AT MOST 1048576: true; the input reads as it did. -/
def fnExactFusePartsUptoRow : OpenClaim := { program := "ytgogjbnneoadkaagreat", sum := "bc266afaeacbe3a3a2ee8ce250e77f5c2329ea6a1eef088f5f4bb5904a26b8b8", func := "loop.example/loopnests/laws.FnExactFuseParts", spec := "fnExactFuseParts", inPlace := ["internal/bytealg.IndexByteString", "internal/bytealg.IndexString"], unfollowed := true, recurses := true, named := ["internal/bytealg.MaxLen"], loops := true, apart := false, narrowed := true }
def FnExactFusePartsUptoSaid : Prop := fnExactFusePartsUptoRow.holds Tryz.pinned (OpenSpec.upto fnExactFusePartsSpec)

/-- 'laws.FnExactParallelOrder', WHERE WHAT IT READS IS OF BULK AT MOST 1048576: true; the input reads as it did. -/
def fnExactParallelOrderUptoRow : OpenClaim := { program := "ytgogjbnneoadkaagreat", sum := "bc266afaeacbe3a3a2ee8ce250e77f5c2329ea6a1eef088f5f4bb5904a26b8b8", func := "loop.example/loopnests/laws.FnExactParallelOrder", spec := "fnExactParallelOrder", inPlace := ["internal/bytealg.IndexByteString", "internal/bytealg.IndexString"], unfollowed := true, recurses := true, named := ["internal/bytealg.MaxLen"], loops := true, apart := false, narrowed := true }
def FnExactParallelOrderUptoSaid : Prop := fnExactParallelOrderUptoRow.holds Tryz.pinned (OpenSpec.upto fnExactParallelOrderSpec)

/-- 'laws.FnExactWaveOrder', WHERE WHAT IT READS IS OF BULK AT MOST 1048576: true; the input reads as it did. -/
def fnExactWaveOrderUptoRow : OpenClaim := { program := "ytgogjbnneoadkaagreat", sum := "bc266afaeacbe3a3a2ee8ce250e77f5c2329ea6a1eef088f5f4bb5904a26b8b8", func := "loop.example/loopnests/laws.FnExactWaveOrder", spec := "fnExactWaveOrder", inPlace := ["internal/bytealg.IndexByteString", "internal/bytealg.IndexString"], unfollowed := true, recurses := true, named := ["internal/bytealg.MaxLen"], loops := true, apart := false, narrowed := true }
def FnExactWaveOrderUptoSaid : Prop := fnExactWaveOrderUptoRow.holds Tryz.pinned (OpenSpec.upto fnExactWaveOrderSpec)

end Rows
end Go.Proofs.YtgogjbnneoadkaaGreat
