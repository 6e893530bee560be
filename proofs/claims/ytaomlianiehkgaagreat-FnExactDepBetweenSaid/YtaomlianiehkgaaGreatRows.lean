/-
  NARROWER THAN 'FOR EVERY INPUT', by the rows' own cells (each row's printed sentence says how): FnExactProgramValid: loops · FnExactCellOf: loops · FnExactMemoryValid: loops · FnExactCountCells: loops · FnExactOrderValid: loops · FnExactDepBetween: loops · FnExactInstanceValue: loops · FnExactCriticalLength: loops.
  DERIVED. THE GIVEN ROWS OF THIS SEAT. 8 by the template 'for every input the law returns true; each argument reads behind the call as it read before'; 0 by the template 'total and deterministic' (their statements: YtaomlianiehkgaaGreatTotals.lean).
  GIVEN WITH THE SEED: the statements are not yours to turn. If you find one false, say at which input.
  Laid BY PROGRAM, IN A SANDBOX (cutbox-rows.mjs): the forced cells as the released guide's own fill.sh prints them over the translation 0472bcb5f0b734f2… (all of the seat's roots in one cut). By AI agents, Wed Nov 11 2026. No macro, syntax, notation, axiom, sorry.
-/
import Derived.Test.YtaomlianiehkgaaGreatChecked
import GoSem.Claim
import GoSem.ClaimJoined
import GoSem.ClaimMapViews
import Derived.JoinedTies
import Derived.KernelRfl
namespace Go.Proofs.YtaomlianiehkgaaGreat
/- THE CELL 'sum', in the pinned program and in every row, IS THE sha256 OF THE DUMP (.gsa) THAT YtaomlianiehkgaaGreatProg.lean LOADS. Nothing in Lean hashes anything: it is a label: what it is worth is what the hold of that sum in a sandbox is worth. -/
noncomputable def Tryz.pinned : Pinned := { name := "ytaomlianiehkgaagreat", sum := "0472bcb5f0b734f283c077ac50406102ab4e8b99e517ff5348e442eca61076d9", checked := Tryz.checked }
namespace Rows
def none {H : Type} : Left H := { results := [], args := [] }

/-- 'laws.FnExactProgramValid': WHATEVER THE INPUT: true; the input reads as it did. -/
def fnExactProgramValidSpec : ChangeSpec := { name := "fnExactProgramValid", fn := fun _ => fun
  | [d] => { results := [.lit (.bool true)], args := [d] }
  | _ => none }
def fnExactProgramValidRow : OpenClaim := { program := "ytaomlianiehkgaagreat", sum := "0472bcb5f0b734f283c077ac50406102ab4e8b99e517ff5348e442eca61076d9", func := "loop.example/loopnests/laws.FnExactProgramValid", spec := "fnExactProgramValid", inPlace := ["internal/bytealg.IndexByteString", "internal/bytealg.IndexString"], unfollowed := true, recurses := true, named := ["internal/bytealg.MaxLen"], loops := true, apart := false }
def FnExactProgramValidSaid : Prop := fnExactProgramValidRow.holds Tryz.pinned (OpenSpec.ofChange fnExactProgramValidSpec)

/-- ITS FALSE NEIGHBOUR: 'it returns false'. Refute it at one input. -/
def fnExactProgramValidWrong : ChangeSpec := { name := "fnExactProgramValid", fn := fun _ => fun
  | [d] => { results := [.lit (.bool false)], args := [d] }
  | _ => none }
def FnExactProgramValidWrongFalsely : Prop := fnExactProgramValidRow.holds Tryz.pinned (OpenSpec.ofChange fnExactProgramValidWrong)

/-- 'laws.FnExactCellOf': WHATEVER THE INPUT: true; the input reads as it did. -/
def fnExactCellOfSpec : ChangeSpec := { name := "fnExactCellOf", fn := fun _ => fun
  | [d1, d2, d3] => { results := [.lit (.bool true)], args := [d1, d2, d3] }
  | _ => none }
def fnExactCellOfRow : OpenClaim := { program := "ytaomlianiehkgaagreat", sum := "0472bcb5f0b734f283c077ac50406102ab4e8b99e517ff5348e442eca61076d9", func := "loop.example/loopnests/laws.FnExactCellOf", spec := "fnExactCellOf", inPlace := ["internal/bytealg.IndexByteString", "internal/bytealg.IndexString"], unfollowed := true, recurses := true, named := ["internal/bytealg.MaxLen"], loops := true, apart := false }
def FnExactCellOfSaid : Prop := fnExactCellOfRow.holds Tryz.pinned (OpenSpec.ofChange fnExactCellOfSpec)

/-- ITS FALSE NEIGHBOUR: 'it returns false'. Refute it at one input. -/
def fnExactCellOfWrong : ChangeSpec := { name := "fnExactCellOf", fn := fun _ => fun
  | [d1, d2, d3] => { results := [.lit (.bool false)], args := [d1, d2, d3] }
  | _ => none }
def FnExactCellOfWrongFalsely : Prop := fnExactCellOfRow.holds Tryz.pinned (OpenSpec.ofChange fnExactCellOfWrong)

/-- 'laws.FnExactMemoryValid': WHATEVER THE INPUT: true; the input reads as it did. -/
def fnExactMemoryValidSpec : ChangeSpec := { name := "fnExactMemoryValid", fn := fun _ => fun
  | [d1, d2] => { results := [.lit (.bool true)], args := [d1, d2] }
  | _ => none }
def fnExactMemoryValidRow : OpenClaim := { program := "ytaomlianiehkgaagreat", sum := "0472bcb5f0b734f283c077ac50406102ab4e8b99e517ff5348e442eca61076d9", func := "loop.example/loopnests/laws.FnExactMemoryValid", spec := "fnExactMemoryValid", inPlace := ["internal/bytealg.IndexByteString", "internal/bytealg.IndexString"], unfollowed := true, recurses := true, named := ["internal/bytealg.MaxLen"], loops := true, apart := false }
def FnExactMemoryValidSaid : Prop := fnExactMemoryValidRow.holds Tryz.pinned (OpenSpec.ofChange fnExactMemoryValidSpec)

/-- ITS FALSE NEIGHBOUR: 'it returns false'. Refute it at one input. -/
def fnExactMemoryValidWrong : ChangeSpec := { name := "fnExactMemoryValid", fn := fun _ => fun
  | [d1, d2] => { results := [.lit (.bool false)], args := [d1, d2] }
  | _ => none }
def FnExactMemoryValidWrongFalsely : Prop := fnExactMemoryValidRow.holds Tryz.pinned (OpenSpec.ofChange fnExactMemoryValidWrong)

/-- 'laws.FnExactCountCells': WHATEVER THE INPUT: true; the input reads as it did. -/
def fnExactCountCellsSpec : ChangeSpec := { name := "fnExactCountCells", fn := fun _ => fun
  | [d] => { results := [.lit (.bool true)], args := [d] }
  | _ => none }
def fnExactCountCellsRow : OpenClaim := { program := "ytaomlianiehkgaagreat", sum := "0472bcb5f0b734f283c077ac50406102ab4e8b99e517ff5348e442eca61076d9", func := "loop.example/loopnests/laws.FnExactCountCells", spec := "fnExactCountCells", inPlace := ["internal/bytealg.IndexByteString", "internal/bytealg.IndexString"], unfollowed := true, recurses := true, named := ["internal/bytealg.MaxLen"], loops := true, apart := false }
def FnExactCountCellsSaid : Prop := fnExactCountCellsRow.holds Tryz.pinned (OpenSpec.ofChange fnExactCountCellsSpec)

/-- ITS FALSE NEIGHBOUR: 'it returns false'. Refute it at one input. -/
def fnExactCountCellsWrong : ChangeSpec := { name := "fnExactCountCells", fn := fun _ => fun
  | [d] => { results := [.lit (.bool false)], args := [d] }
  | _ => none }
def FnExactCountCellsWrongFalsely : Prop := fnExactCountCellsRow.holds Tryz.pinned (OpenSpec.ofChange fnExactCountCellsWrong)

/-- 'laws.FnExactOrderValid': WHATEVER THE INPUT: true; the input reads as it did. -/
def fnExactOrderValidSpec : ChangeSpec := { name := "fnExactOrderValid", fn := fun _ => fun
  | [d1, d2] => { results := [.lit (.bool true)], args := [d1, d2] }
  | _ => none }
def fnExactOrderValidRow : OpenClaim := { program := "ytaomlianiehkgaagreat", sum := "0472bcb5f0b734f283c077ac50406102ab4e8b99e517ff5348e442eca61076d9", func := "loop.example/loopnests/laws.FnExactOrderValid", spec := "fnExactOrderValid", inPlace := ["internal/bytealg.IndexByteString", "internal/bytealg.IndexString"], unfollowed := true, recurses := true, named := ["internal/bytealg.MaxLen"], loops := true, apart := false }
def FnExactOrderValidSaid : Prop := fnExactOrderValidRow.holds Tryz.pinned (OpenSpec.ofChange fnExactOrderValidSpec)

/-- ITS FALSE NEIGHBOUR: 'it returns false'. Refute it at one input. -/
def fnExactOrderValidWrong : ChangeSpec := { name := "fnExactOrderValid", fn := fun _ => fun
  | [d1, d2] => { results := [.lit (.bool false)], args := [d1, d2] }
  | _ => none }
def FnExactOrderValidWrongFalsely : Prop := fnExactOrderValidRow.holds Tryz.pinned (OpenSpec.ofChange fnExactOrderValidWrong)

/-- 'laws.FnExactDepBetween': WHATEVER THE INPUT: true; the input reads as it did. -/
def fnExactDepBetweenSpec : ChangeSpec := { name := "fnExactDepBetween", fn := fun _ => fun
  | [d1, d2, d3] => { results := [.lit (.bool true)], args := [d1, d2, d3] }
  | _ => none }
def fnExactDepBetweenRow : OpenClaim := { program := "ytaomlianiehkgaagreat", sum := "0472bcb5f0b734f283c077ac50406102ab4e8b99e517ff5348e442eca61076d9", func := "loop.example/loopnests/laws.FnExactDepBetween", spec := "fnExactDepBetween", inPlace := ["internal/bytealg.IndexByteString", "internal/bytealg.IndexString"], unfollowed := true, recurses := true, named := ["internal/bytealg.MaxLen"], loops := true, apart := false }
def FnExactDepBetweenSaid : Prop := fnExactDepBetweenRow.holds Tryz.pinned (OpenSpec.ofChange fnExactDepBetweenSpec)

/-- ITS FALSE NEIGHBOUR: 'it returns false'. Refute it at one input. -/
def fnExactDepBetweenWrong : ChangeSpec := { name := "fnExactDepBetween", fn := fun _ => fun
  | [d1, d2, d3] => { results := [.lit (.bool false)], args := [d1, d2, d3] }
  | _ => none }
def FnExactDepBetweenWrongFalsely : Prop := fnExactDepBetweenRow.holds Tryz.pinned (OpenSpec.ofChange fnExactDepBetweenWrong)

/-- 'laws.FnExactInstanceValue': WHATEVER THE INPUT: true; the input reads as it did. -/
def fnExactInstanceValueSpec : ChangeSpec := { name := "fnExactInstanceValue", fn := fun _ => fun
  | [d1, d2, d3] => { results := [.lit (.bool true)], args := [d1, d2, d3] }
  | _ => none }
def fnExactInstanceValueRow : OpenClaim := { program := "ytaomlianiehkgaagreat", sum := "0472bcb5f0b734f283c077ac50406102ab4e8b99e517ff5348e442eca61076d9", func := "loop.example/loopnests/laws.FnExactInstanceValue", spec := "fnExactInstanceValue", inPlace := ["internal/bytealg.IndexByteString", "internal/bytealg.IndexString"], unfollowed := true, recurses := true, named := ["internal/bytealg.MaxLen"], loops := true, apart := false }
def FnExactInstanceValueSaid : Prop := fnExactInstanceValueRow.holds Tryz.pinned (OpenSpec.ofChange fnExactInstanceValueSpec)

/-- ITS FALSE NEIGHBOUR: 'it returns false'. Refute it at one input. -/
def fnExactInstanceValueWrong : ChangeSpec := { name := "fnExactInstanceValue", fn := fun _ => fun
  | [d1, d2, d3] => { results := [.lit (.bool false)], args := [d1, d2, d3] }
  | _ => none }
def FnExactInstanceValueWrongFalsely : Prop := fnExactInstanceValueRow.holds Tryz.pinned (OpenSpec.ofChange fnExactInstanceValueWrong)

/-- 'laws.FnExactCriticalLength': WHATEVER THE INPUT: true; the input reads as it did. -/
def fnExactCriticalLengthSpec : ChangeSpec := { name := "fnExactCriticalLength", fn := fun _ => fun
  | [d] => { results := [.lit (.bool true)], args := [d] }
  | _ => none }
def fnExactCriticalLengthRow : OpenClaim := { program := "ytaomlianiehkgaagreat", sum := "0472bcb5f0b734f283c077ac50406102ab4e8b99e517ff5348e442eca61076d9", func := "loop.example/loopnests/laws.FnExactCriticalLength", spec := "fnExactCriticalLength", inPlace := ["internal/bytealg.IndexByteString", "internal/bytealg.IndexString"], unfollowed := true, recurses := true, named := ["internal/bytealg.MaxLen"], loops := true, apart := false }
def FnExactCriticalLengthSaid : Prop := fnExactCriticalLengthRow.holds Tryz.pinned (OpenSpec.ofChange fnExactCriticalLengthSpec)

/-- ITS FALSE NEIGHBOUR: 'it returns false'. Refute it at one input. -/
def fnExactCriticalLengthWrong : ChangeSpec := { name := "fnExactCriticalLength", fn := fun _ => fun
  | [d] => { results := [.lit (.bool false)], args := [d] }
  | _ => none }
def FnExactCriticalLengthWrongFalsely : Prop := fnExactCriticalLengthRow.holds Tryz.pinned (OpenSpec.ofChange fnExactCriticalLengthWrong)

/- THE SECOND FORM. 'bulk': how many values and letters a reading holds, each counted each time it is reached (what is shared counts as often as it is met; a slice's spare places count too). A statement '..UptoSaid' is the law's where the arguments, and the package variables that the reading takes, are together of bulk at most 1048576: NARROWER than '..Said'. Prove '..Said' where nothing that the law and all that it calls make is longer than what came in: it says more and counts as full. Else prove '..UptoSaid'. A law counts once. -/
mutual
def uptoBulk {H : Type} : DataW H → Nat
  | .lit (.string bytes) => bytes.length + 1
  | .lit _ => 1
  | .nil => 1
  | .ptr d => uptoBulk d + 1
  | .slice elems spare => uptoBulkAll elems + uptoBulkAll spare + 1
  | .agg parts => uptoBulkAll parts + 1
  | .iface _ d => uptoBulk d + 1
  | .map entries => uptoBulkEntries entries + 1
  | .held _ => 1
def uptoBulkAll {H : Type} : List (DataW H) → Nat
  | [] => 0
  | d :: r => uptoBulk d + uptoBulkAll r
def uptoBulkEntries {H : Type} : List (Lit × DataW H) → Nat
  | [] => 0
  | x :: r => uptoBulkEntry x + uptoBulkEntries r
def uptoBulkEntry {H : Type} : Lit × DataW H → Nat
  | (.string bytes, d) => bytes.length + uptoBulk d + 1
  | (_, d) => uptoBulk d + 1
 end
def uptoSmall : (H : Type) → List (DataW H) → Bool := fun _ ds => decide (uptoBulkAll ds ≤ 1048576)
def OpenSpec.upto (s : _root_.Go.ChangeSpec) : _root_.Go.OpenSpec := { _root_.Go.OpenSpec.ofChange s with cond := some uptoSmall }

/-- 'laws.FnExactProgramValid', WHERE WHAT IT READS IS OF BULK AT MOST 1048576: true; the input reads as it did. -/
def fnExactProgramValidUptoRow : OpenClaim := { program := "ytaomlianiehkgaagreat", sum := "0472bcb5f0b734f283c077ac50406102ab4e8b99e517ff5348e442eca61076d9", func := "loop.example/loopnests/laws.FnExactProgramValid", spec := "fnExactProgramValid", inPlace := ["internal/bytealg.IndexByteString", "internal/bytealg.IndexString"], unfollowed := true, recurses := true, named := ["internal/bytealg.MaxLen"], loops := true, apart := false, narrowed := true }
def FnExactProgramValidUptoSaid : Prop := fnExactProgramValidUptoRow.holds Tryz.pinned (OpenSpec.upto fnExactProgramValidSpec)

/-- 'laws.FnExactCellOf', WHERE WHAT IT READS IS OF BULK AT MOST 1048576: true; the input reads as it did. -/
def fnExactCellOfUptoRow : OpenClaim := { program := "ytaomlianiehkgaagreat", sum := "0472bcb5f0b734f283c077ac50406102ab4e8b99e517ff5348e442eca61076d9", func := "loop.example/loopnests/laws.FnExactCellOf", spec := "fnExactCellOf", inPlace := ["internal/bytealg.IndexByteString", "internal/bytealg.IndexString"], unfollowed := true, recurses := true, named := ["internal/bytealg.MaxLen"], loops := true, apart := false, narrowed := true }
def FnExactCellOfUptoSaid : Prop := fnExactCellOfUptoRow.holds Tryz.pinned (OpenSpec.upto fnExactCellOfSpec)

/-- 'laws.FnExactMemoryValid', WHERE WHAT IT READS IS OF BULK AT MOST 1048576: true; the input reads as it did. -/
def fnExactMemoryValidUptoRow : OpenClaim := { program := "ytaomlianiehkgaagreat", sum := "0472bcb5f0b734f283c077ac50406102ab4e8b99e517ff5348e442eca61076d9", func := "loop.example/loopnests/laws.FnExactMemoryValid", spec := "fnExactMemoryValid", inPlace := ["internal/bytealg.IndexByteString", "internal/bytealg.IndexString"], unfollowed := true, recurses := true, named := ["internal/bytealg.MaxLen"], loops := true, apart := false, narrowed := true }
def FnExactMemoryValidUptoSaid : Prop := fnExactMemoryValidUptoRow.holds Tryz.pinned (OpenSpec.upto fnExactMemoryValidSpec)

/-- 'laws.FnExactCountCells', WHERE WHAT IT READS IS OF BULK AT MOST 1048576: true; the input reads as it did. -/
def fnExactCountCellsUptoRow : OpenClaim := { program := "ytaomlianiehkgaagreat", sum := "0472bcb5f0b734f283c077ac50406102ab4e8b99e517ff5348e442eca61076d9", func := "loop.example/loopnests/laws.FnExactCountCells", spec := "fnExactCountCells", inPlace := ["internal/bytealg.IndexByteString", "internal/bytealg.IndexString"], unfollowed := true, recurses := true, named := ["internal/bytealg.MaxLen"], loops := true, apart := false, narrowed := true }
def FnExactCountCellsUptoSaid : Prop := fnExactCountCellsUptoRow.holds Tryz.pinned (OpenSpec.upto fnExactCountCellsSpec)

/-- 'laws.FnExactOrderValid', WHERE WHAT IT READS IS OF BULK AT MOST 1048576: true; the input reads as it did. -/
def fnExactOrderValidUptoRow : OpenClaim := { program := "ytaomlianiehkgaagreat", sum := "0472bcb5f0b734f283c077ac50406102ab4e8b99e517ff5348e442eca61076d9", func := "loop.example/loopnests/laws.FnExactOrderValid", spec := "fnExactOrderValid", inPlace := ["internal/bytealg.IndexByteString", "internal/bytealg.IndexString"], unfollowed := true, recurses := true, named := ["internal/bytealg.MaxLen"], loops := true, apart := false, narrowed := true }
def FnExactOrderValidUptoSaid : Prop := fnExactOrderValidUptoRow.holds Tryz.pinned (OpenSpec.upto fnExactOrderValidSpec)

/-- 'laws.FnExactDepBetween', WHERE WHAT IT READS IS OF BULK AT MOST 1048576: true; the input reads as it did. -/
def fnExactDepBetweenUptoRow : OpenClaim := { program := "ytaomlianiehkgaagreat", sum := "0472bcb5f0b734f283c077ac50406102ab4e8b99e517ff5348e442eca61076d9", func := "loop.example/loopnests/laws.FnExactDepBetween", spec := "fnExactDepBetween", inPlace := ["internal/bytealg.IndexByteString", "internal/bytealg.IndexString"], unfollowed := true, recurses := true, named := ["internal/bytealg.MaxLen"], loops := true, apart := false, narrowed := true }
def FnExactDepBetweenUptoSaid : Prop := fnExactDepBetweenUptoRow.holds Tryz.pinned (OpenSpec.upto fnExactDepBetweenSpec)

/-- 'laws.FnExactInstanceValue', WHERE WHAT IT READS IS OF BULK AT MOST 1048576: true; the input reads as it did. -/
def fnExactInstanceValueUptoRow : OpenClaim := { program := "ytaomlianiehkgaagreat", sum := "0472bcb5f0b734f283c077ac50406102ab4e8b99e517ff5348e442eca61076d9", func := "loop.example/loopnests/laws.FnExactInstanceValue", spec := "fnExactInstanceValue", inPlace := ["internal/bytealg.IndexByteString", "internal/bytealg.IndexString"], unfollowed := true, recurses := true, named := ["internal/bytealg.MaxLen"], loops := true, apart := false, narrowed := true }
def FnExactInstanceValueUptoSaid : Prop := fnExactInstanceValueUptoRow.holds Tryz.pinned (OpenSpec.upto fnExactInstanceValueSpec)

/-- 'laws.FnExactCriticalLength', WHERE WHAT IT READS IS OF BULK AT MOST 1048576: true; the input reads as it did. -/
def fnExactCriticalLengthUptoRow : OpenClaim := { program := "ytaomlianiehkgaagreat", sum := "0472bcb5f0b734f283c077ac50406102ab4e8b99e517ff5348e442eca61076d9", func := "loop.example/loopnests/laws.FnExactCriticalLength", spec := "fnExactCriticalLength", inPlace := ["internal/bytealg.IndexByteString", "internal/bytealg.IndexString"], unfollowed := true, recurses := true, named := ["internal/bytealg.MaxLen"], loops := true, apart := false, narrowed := true }
def FnExactCriticalLengthUptoSaid : Prop := fnExactCriticalLengthUptoRow.holds Tryz.pinned (OpenSpec.upto fnExactCriticalLengthSpec)

end Rows
end Go.Proofs.YtaomlianiehkgaaGreat
