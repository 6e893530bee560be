/-
  NARROWER THAN 'FOR EVERY INPUT', by the rows' own cells (each row's printed sentence says how): FnExactDepBetween: loops · FnExactDeadInstances: loops · FnExactLiveInstances: loops · FnExactConnectedParts: loops · FnExactGreedyOrder: loops · FnExactLatestLevels: loops.
  DERIVED. THE GIVEN ROWS OF THIS SEAT. 6 by the template 'for every input the law returns true; each argument reads behind the call as it read before'; 0 by the template 'total and deterministic' (their statements: YtimocdpfnncnlaaGreatTotals.lean).
  GIVEN WITH THE SEED: the statements are not yours to turn. If you find one false, say at which input.
  Laid BY PROGRAM, IN A SANDBOX (cutbox-rows.mjs): the forced cells as the released guide's own fill.sh prints them over the translation 29514b379753e79d… (all of the seat's roots in one cut). By AI agents, Wed Nov 11 2026. No macro, syntax, notation, axiom, sorry.
-/
import Derived.Test.YtimocdpfnncnlaaGreatChecked
import GoSem.Claim
import GoSem.ClaimJoined
import GoSem.ClaimMapViews
import Derived.JoinedTies
import Derived.KernelRfl
namespace Go.Proofs.YtimocdpfnncnlaaGreat
/- THE CELL 'sum', in the pinned program and in every row, IS THE sha256 OF THE DUMP (.gsa) THAT YtimocdpfnncnlaaGreatProg.lean LOADS. Nothing in Lean hashes anything: it is a label: what it is worth is what the hold of that sum in a sandbox is worth. -/
noncomputable def Tryz.pinned : Pinned := { name := "ytimocdpfnncnlaagreat", sum := "29514b379753e79dd77915e35d0e694a046b43aa17c9cb54c9730d8e496cc72e", checked := Tryz.checked }
namespace Rows
def none {H : Type} : Left H := { results := [], args := [] }

/-- 'laws.FnExactDepBetween': WHATEVER THE INPUT: true; the input reads as it did. -/
def fnExactDepBetweenSpec : ChangeSpec := { name := "fnExactDepBetween", fn := fun _ => fun
  | [d1, d2, d3] => { results := [.lit (.bool true)], args := [d1, d2, d3] }
  | _ => none }
def fnExactDepBetweenRow : OpenClaim := { program := "ytimocdpfnncnlaagreat", sum := "29514b379753e79dd77915e35d0e694a046b43aa17c9cb54c9730d8e496cc72e", func := "loop.example/loopnests/laws.FnExactDepBetween", spec := "fnExactDepBetween", inPlace := ["internal/bytealg.IndexByteString", "internal/bytealg.IndexString"], unfollowed := true, recurses := true, named := ["internal/bytealg.MaxLen"], loops := true, apart := false }
def FnExactDepBetweenSaid : Prop := fnExactDepBetweenRow.holds Tryz.pinned (OpenSpec.ofChange fnExactDepBetweenSpec)

/-- ITS FALSE NEIGHBOUR: 'it returns false'. Refute it at one input. -/
def fnExactDepBetweenWrong : ChangeSpec := { name := "fnExactDepBetween", fn := fun _ => fun
  | [d1, d2, d3] => { results := [.lit (.bool false)], args := [d1, d2, d3] }
  | _ => none }
def FnExactDepBetweenWrongFalsely : Prop := fnExactDepBetweenRow.holds Tryz.pinned (OpenSpec.ofChange fnExactDepBetweenWrong)

/-- 'laws.FnExactDeadInstances': WHATEVER THE INPUT: true; the input reads as it did. -/
def fnExactDeadInstancesSpec : ChangeSpec := { name := "fnExactDeadInstances", fn := fun _ => fun
  | [d] => { results := [.lit (.bool true)], args := [d] }
  | _ => none }
def fnExactDeadInstancesRow : OpenClaim := { program := "ytimocdpfnncnlaagreat", sum := "29514b379753e79dd77915e35d0e694a046b43aa17c9cb54c9730d8e496cc72e", func := "loop.example/loopnests/laws.FnExactDeadInstances", spec := "fnExactDeadInstances", inPlace := ["internal/bytealg.IndexByteString", "internal/bytealg.IndexString"], unfollowed := true, recurses := true, named := ["internal/bytealg.MaxLen"], loops := true, apart := false }
def FnExactDeadInstancesSaid : Prop := fnExactDeadInstancesRow.holds Tryz.pinned (OpenSpec.ofChange fnExactDeadInstancesSpec)

/-- ITS FALSE NEIGHBOUR: 'it returns false'. Refute it at one input. -/
def fnExactDeadInstancesWrong : ChangeSpec := { name := "fnExactDeadInstances", fn := fun _ => fun
  | [d] => { results := [.lit (.bool false)], args := [d] }
  | _ => none }
def FnExactDeadInstancesWrongFalsely : Prop := fnExactDeadInstancesRow.holds Tryz.pinned (OpenSpec.ofChange fnExactDeadInstancesWrong)

/-- 'laws.FnExactLiveInstances': WHATEVER THE INPUT: true; the input reads as it did. -/
def fnExactLiveInstancesSpec : ChangeSpec := { name := "fnExactLiveInstances", fn := fun _ => fun
  | [d] => { results := [.lit (.bool true)], args := [d] }
  | _ => none }
def fnExactLiveInstancesRow : OpenClaim := { program := "ytimocdpfnncnlaagreat", sum := "29514b379753e79dd77915e35d0e694a046b43aa17c9cb54c9730d8e496cc72e", func := "loop.example/loopnests/laws.FnExactLiveInstances", spec := "fnExactLiveInstances", inPlace := ["internal/bytealg.IndexByteString", "internal/bytealg.IndexString"], unfollowed := true, recurses := true, named := ["internal/bytealg.MaxLen"], loops := true, apart := false }
def FnExactLiveInstancesSaid : Prop := fnExactLiveInstancesRow.holds Tryz.pinned (OpenSpec.ofChange fnExactLiveInstancesSpec)

/-- ITS FALSE NEIGHBOUR: 'it returns false'. Refute it at one input. -/
def fnExactLiveInstancesWrong : ChangeSpec := { name := "fnExactLiveInstances", fn := fun _ => fun
  | [d] => { results := [.lit (.bool false)], args := [d] }
  | _ => none }
def FnExactLiveInstancesWrongFalsely : Prop := fnExactLiveInstancesRow.holds Tryz.pinned (OpenSpec.ofChange fnExactLiveInstancesWrong)

/-- 'laws.FnExactConnectedParts': WHATEVER THE INPUT: true; the input reads as it did. -/
def fnExactConnectedPartsSpec : ChangeSpec := { name := "fnExactConnectedParts", fn := fun _ => fun
  | [d] => { results := [.lit (.bool true)], args := [d] }
  | _ => none }
def fnExactConnectedPartsRow : OpenClaim := { program := "ytimocdpfnncnlaagreat", sum := "29514b379753e79dd77915e35d0e694a046b43aa17c9cb54c9730d8e496cc72e", func := "loop.example/loopnests/laws.FnExactConnectedParts", spec := "fnExactConnectedParts", inPlace := ["internal/bytealg.IndexByteString", "internal/bytealg.IndexString"], unfollowed := true, recurses := true, named := ["internal/bytealg.MaxLen"], loops := true, apart := false }
def FnExactConnectedPartsSaid : Prop := fnExactConnectedPartsRow.holds Tryz.pinned (OpenSpec.ofChange fnExactConnectedPartsSpec)

/-- ITS FALSE NEIGHBOUR: 'it returns false'. Refute it at one input. -/
def fnExactConnectedPartsWrong : ChangeSpec := { name := "fnExactConnectedParts", fn := fun _ => fun
  | [d] => { results := [.lit (.bool false)], args := [d] }
  | _ => none }
def FnExactConnectedPartsWrongFalsely : Prop := fnExactConnectedPartsRow.holds Tryz.pinned (OpenSpec.ofChange fnExactConnectedPartsWrong)

/-- 'laws.FnExactGreedyOrder': WHATEVER THE INPUT: true; the input reads as it did. -/
def fnExactGreedyOrderSpec : ChangeSpec := { name := "fnExactGreedyOrder", fn := fun _ => fun
  | [d1, d2] => { results := [.lit (.bool true)], args := [d1, d2] }
  | _ => none }
def fnExactGreedyOrderRow : OpenClaim := { program := "ytimocdpfnncnlaagreat", sum := "29514b379753e79dd77915e35d0e694a046b43aa17c9cb54c9730d8e496cc72e", func := "loop.example/loopnests/laws.FnExactGreedyOrder", spec := "fnExactGreedyOrder", inPlace := ["internal/bytealg.IndexByteString", "internal/bytealg.IndexString"], unfollowed := true, recurses := true, named := ["internal/bytealg.MaxLen"], loops := true, apart := false }
def FnExactGreedyOrderSaid : Prop := fnExactGreedyOrderRow.holds Tryz.pinned (OpenSpec.ofChange fnExactGreedyOrderSpec)

/-- ITS FALSE NEIGHBOUR: 'it returns false'. Refute it at one input. -/
def fnExactGreedyOrderWrong : ChangeSpec := { name := "fnExactGreedyOrder", fn := fun _ => fun
  | [d1, d2] => { results := [.lit (.bool false)], args := [d1, d2] }
  | _ => none }
def FnExactGreedyOrderWrongFalsely : Prop := fnExactGreedyOrderRow.holds Tryz.pinned (OpenSpec.ofChange fnExactGreedyOrderWrong)

/-- 'laws.FnExactLatestLevels': WHATEVER THE INPUT: true; the input reads as it did. -/
def fnExactLatestLevelsSpec : ChangeSpec := { name := "fnExactLatestLevels", fn := fun _ => fun
  | [d] => { results := [.lit (.bool true)], args := [d] }
  | _ => none }
def fnExactLatestLevelsRow : OpenClaim := { program := "ytimocdpfnncnlaagreat", sum := "29514b379753e79dd77915e35d0e694a046b43aa17c9cb54c9730d8e496cc72e", func := "loop.example/loopnests/laws.FnExactLatestLevels", spec := "fnExactLatestLevels", inPlace := ["internal/bytealg.IndexByteString", "internal/bytealg.IndexString"], unfollowed := true, recurses := true, named := ["internal/bytealg.MaxLen"], loops := true, apart := false }
def FnExactLatestLevelsSaid : Prop := fnExactLatestLevelsRow.holds Tryz.pinned (OpenSpec.ofChange fnExactLatestLevelsSpec)

/-- ITS FALSE NEIGHBOUR: 'it returns false'. Refute it at one input. -/
def fnExactLatestLevelsWrong : ChangeSpec := { name := "fnExactLatestLevels", fn := fun _ => fun
  | [d] => { results := [.lit (.bool false)], args := [d] }
  | _ => none }
def FnExactLatestLevelsWrongFalsely : Prop := fnExactLatestLevelsRow.holds Tryz.pinned (OpenSpec.ofChange fnExactLatestLevelsWrong)

/- THE SECOND FORM. 'bulk': how many values and letters a reading holds, each counted each time it is reached (what is shared counts as often as it is met; a slice's spare places count too). A statement '..UptoSaid' is the law's where the arguments, and the package variables that the reading takes, are together of bulk at most 1048576: NARROWER than '..Said'. Prove '..Said' where nothing that the law and all that it calls make is longer than what came in: it says more and counts as full. Else prove '..UptoSaid'. A law counts once. -/
mutual
def uptoBulk {H : Type} : DataW H → Nat
  | .lit (.string bytes) => bytes.length + 1
  | .lit _ => 1
  | .nil => 1
  | .ptr d => uptoBulk d + 1
  | .slice elems spare => uptoBulkAll elems + uptoBulkAll spare + 1
  | .agg parts => uptoBulkAll parts + 1
  | .iface _ d => uptoBulk d + 1
  | .map entries => uptoBulkEntries entries + 1
  | .held _ => 1
def uptoBulkAll {H : Type} : List (DataW H) → Nat
  | [] => 0
  | d :: r => uptoBulk d + uptoBulkAll r
def uptoBulkEntries {H : Type} : List (Lit × DataW H) → Nat
  | [] => 0
  | x :: r => uptoBulkEntry x + uptoBulkEntries r
def uptoBulkEntry {H : Type} : Lit × DataW H → Nat
  | (.string bytes, d) => bytes.length + uptoBulk d + 1
  | (_, d) => uptoBulk d + 1
 end
def uptoSmall : (H : Type) → List (DataW H) → Bool := fun _ ds => decide (uptoBulkAll ds ≤ 1048576)
def OpenSpec.upto (s : _root_.Go.ChangeSpec) : _root_.Go.OpenSpec := { _root_.Go.OpenSpec.ofChange s with cond := some uptoSmall }

/-- 'laws.FnExactDepBetween', WHERE WHAT IT READS IS OF BULK AT MOST 1048576: true; the input reads as it did. -/
def fnExactDepBetweenUptoRow : OpenClaim := { program := "ytimocdpfnncnlaagreat", sum := "29514b379753e79dd77915e35d0e694a046b43aa17c9cb54c9730d8e496cc72e", func := "loop.example/loopnests/laws.FnExactDepBetween", spec := "fnExactDepBetween", inPlace := ["internal/bytealg.IndexByteString", "internal/bytealg.IndexString"], unfollowed := true, recurses := true, named := ["internal/bytealg.MaxLen"], loops := true, apart := false, narrowed := true }
def FnExactDepBetweenUptoSaid : Prop := fnExactDepBetweenUptoRow.holds Tryz.pinned (OpenSpec.upto fnExactDepBetweenSpec)

/-- 'laws.FnExactDeadInstances', WHERE WHAT IT READS IS OF BULK AT MOST 1048576: true; the input reads as it did. -/
def fnExactDeadInstancesUptoRow : OpenClaim := { program := "ytimocdpfnncnlaagreat", sum := "29514b379753e79dd77915e35d0e694a046b43aa17c9cb54c9730d8e496cc72e", func := "loop.example/loopnests/laws.FnExactDeadInstances", spec := "fnExactDeadInstances", inPlace := ["internal/bytealg.IndexByteString", "internal/bytealg.IndexString"], unfollowed := true, recurses := true, named := ["internal/bytealg.MaxLen"], loops := true, apart := false, narrowed := true }
def FnExactDeadInstancesUptoSaid : Prop := fnExactDeadInstancesUptoRow.holds Tryz.pinned (OpenSpec.upto fnExactDeadInstancesSpec)

/-- 'laws.FnExactLiveInstances', WHERE WHAT IT READS IS OF BULK AT MOST 1048576: true; the input reads as it did. -/
def fnExactLiveInstancesUptoRow : OpenClaim := { program := "ytimocdpfnncnlaagreat", sum := "29514b379753e79dd77915e35d0e694a046b43aa17c9cb54c9730d8e496cc72e", func := "loop.example/loopnests/laws.FnExactLiveInstances", spec := "fnExactLiveInstances", inPlace := ["internal/bytealg.IndexByteString", "internal/bytealg.IndexString"], unfollowed := true, recurses := true, named := ["internal/bytealg.MaxLen"], loops := true, apart := false, narrowed := true }
def FnExactLiveInstancesUptoSaid : Prop := fnExactLiveInstancesUptoRow.holds Tryz.pinned (OpenSpec.upto fnExactLiveInstancesSpec)

/-- 'laws.FnExactConnectedParts', WHERE WHAT IT READS IS OF BULK AT MOST 1048576: true; the input reads as it did. -/
def fnExactConnectedPartsUptoRow : OpenClaim := { program := "ytimocdpfnncnlaagreat", sum := "29514b379753e79dd77915e35d0e694a046b43aa17c9cb54c9730d8e496cc72e", func := "loop.example/loopnests/laws.FnExactConnectedParts", spec := "fnExactConnectedParts", inPlace := ["internal/bytealg.IndexByteString", "internal/bytealg.IndexString"], unfollowed := true, recurses := true, named := ["internal/bytealg.MaxLen"], loops := true, apart := false, narrowed := true }
def FnExactConnectedPartsUptoSaid : Prop := fnExactConnectedPartsUptoRow.holds Tryz.pinned (OpenSpec.upto fnExactConnectedPartsSpec)

/-- 'laws.FnExactGreedyOrder', WHERE WHAT IT READS IS OF BULK AT MOST 1048576: true; the input reads as it did. -/
def fnExactGreedyOrderUptoRow : OpenClaim := { program := "ytimocdpfnncnlaagreat", sum := "29514b379753e79dd77915e35d0e694a046b43aa17c9cb54c9730d8e496cc72e", func := "loop.example/loopnests/laws.FnExactGreedyOrder", spec := "fnExactGreedyOrder", inPlace := ["internal/bytealg.IndexByteString", "internal/bytealg.IndexString"], unfollowed := true, recurses := true, named := ["internal/bytealg.MaxLen"], loops := true, apart := false, narrowed := true }
def FnExactGreedyOrderUptoSaid : Prop := fnExactGreedyOrderUptoRow.holds Tryz.pinned (OpenSpec.upto fnExactGreedyOrderSpec)

/-- 'laws.FnExactLatestLevels', WHERE WHAT IT READS IS OF BULK AT MOST 1048576: true; the input reads as it did. -/
def fnExactLatestLevelsUptoRow : OpenClaim := { program := "ytimocdpfnncnlaagreat", sum := "29514b379753e79dd77915e35d0e694a046b43aa17c9cb54c9730d8e496cc72e", func := "loop.example/loopnests/laws.FnExactLatestLevels", spec := "fnExactLatestLevels", inPlace := ["internal/bytealg.IndexByteString", "internal/bytealg.IndexString"], unfollowed := true, recurses := true, named := ["internal/bytealg.MaxLen"], loops := true, apart := false, narrowed := true }
def FnExactLatestLevelsUptoSaid : Prop := fnExactLatestLevelsUptoRow.holds Tryz.pinned (OpenSpec.upto fnExactLatestLevelsSpec)

end Rows
end Go.Proofs.YtimocdpfnncnlaaGreat
