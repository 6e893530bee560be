/-
  NARROWER THAN 'FOR EVERY INPUT', by the rows' own cells (each row's printed sentence says how): FnExactStmtDepth: loops · FnExactStmtReads: loops · FnExactSubstStmt: loops.
  DERIVED. THE GIVEN ROWS OF THIS SEAT. 4 by the template 'for every input the law returns true; each argument reads behind the call as it read before'; 0 by the template 'total and deterministic' (their statements: YtadmmlflngkpiaaTotals.lean).
  GIVEN WITH THE SEED: the statements are not yours to turn. If you find one false, say at which input.
  Laid BY PROGRAM, IN A SANDBOX (cutbox-rows.mjs): the forced cells as the released guide's own fill.sh prints them over the translation ab94c172ed255517… (all of the seat's roots in one cut). By AI agents, Wed Nov 11 2026. No macro, syntax, notation, axiom, sorry.
-/
import Derived.Test.YtadmmlflngkpiaaChecked
import GoSem.Claim
import GoSem.ClaimJoined
import GoSem.ClaimMapViews
import Derived.JoinedTies
import Derived.KernelRfl
namespace Go.Proofs.Ytadmmlflngkpiaa
/- THE CELL 'sum', in the pinned program and in every row, IS THE sha256 OF THE DUMP (.gsa) THAT YtadmmlflngkpiaaProg.lean LOADS. Nothing in Lean hashes anything: it is a label: what it is worth is what the hold of that sum in a sandbox is worth. -/
noncomputable def Try.pinned : Pinned := { name := "ytadmmlflngkpiaa", sum := "ab94c172ed2555178952430820077801981bca122766d43888eb3086b2a3bdd7", checked := Try.checked }
namespace Rows
def none {H : Type} : Left H := { results := [], args := [] }

/-- 'laws.FnExactBoxNest': WHATEVER THE INPUT: true; the input reads as it did. -/
def fnExactBoxNestSpec : ChangeSpec := { name := "fnExactBoxNest", fn := fun _ => fun
  | [d] => { results := [.lit (.bool true)], args := [d] }
  | _ => none }
def fnExactBoxNestRow : OpenClaim := { program := "ytadmmlflngkpiaa", sum := "ab94c172ed2555178952430820077801981bca122766d43888eb3086b2a3bdd7", func := "loop.example/loopnests/laws.FnExactBoxNest", spec := "fnExactBoxNest", unfollowed := true, recurses := true, apart := false }
def FnExactBoxNestSaid : Prop := fnExactBoxNestRow.holds Try.pinned (OpenSpec.ofChange fnExactBoxNestSpec)

/-- ITS FALSE NEIGHBOUR: 'it returns false'. Refute it at one input. -/
def fnExactBoxNestWrong : ChangeSpec := { name := "fnExactBoxNest", fn := fun _ => fun
  | [d] => { results := [.lit (.bool false)], args := [d] }
  | _ => none }
def FnExactBoxNestWrongFalsely : Prop := fnExactBoxNestRow.holds Try.pinned (OpenSpec.ofChange fnExactBoxNestWrong)

/-- 'laws.FnExactStmtDepth': WHATEVER THE INPUT: true; the input reads as it did. -/
def fnExactStmtDepthSpec : ChangeSpec := { name := "fnExactStmtDepth", fn := fun _ => fun
  | [d] => { results := [.lit (.bool true)], args := [d] }
  | _ => none }
def fnExactStmtDepthRow : OpenClaim := { program := "ytadmmlflngkpiaa", sum := "ab94c172ed2555178952430820077801981bca122766d43888eb3086b2a3bdd7", func := "loop.example/loopnests/laws.FnExactStmtDepth", spec := "fnExactStmtDepth", inPlace := ["internal/bytealg.IndexByteString", "internal/bytealg.IndexString"], unfollowed := true, recurses := true, named := ["internal/bytealg.MaxLen"], loops := true, apart := false }
def FnExactStmtDepthSaid : Prop := fnExactStmtDepthRow.holds Try.pinned (OpenSpec.ofChange fnExactStmtDepthSpec)

/-- ITS FALSE NEIGHBOUR: 'it returns false'. Refute it at one input. -/
def fnExactStmtDepthWrong : ChangeSpec := { name := "fnExactStmtDepth", fn := fun _ => fun
  | [d] => { results := [.lit (.bool false)], args := [d] }
  | _ => none }
def FnExactStmtDepthWrongFalsely : Prop := fnExactStmtDepthRow.holds Try.pinned (OpenSpec.ofChange fnExactStmtDepthWrong)

/-- 'laws.FnExactStmtReads': WHATEVER THE INPUT: true; the input reads as it did. -/
def fnExactStmtReadsSpec : ChangeSpec := { name := "fnExactStmtReads", fn := fun _ => fun
  | [d] => { results := [.lit (.bool true)], args := [d] }
  | _ => none }
def fnExactStmtReadsRow : OpenClaim := { program := "ytadmmlflngkpiaa", sum := "ab94c172ed2555178952430820077801981bca122766d43888eb3086b2a3bdd7", func := "loop.example/loopnests/laws.FnExactStmtReads", spec := "fnExactStmtReads", inPlace := ["internal/bytealg.IndexByteString", "internal/bytealg.IndexString"], unfollowed := true, recurses := true, named := ["internal/bytealg.MaxLen"], loops := true, apart := false }
def FnExactStmtReadsSaid : Prop := fnExactStmtReadsRow.holds Try.pinned (OpenSpec.ofChange fnExactStmtReadsSpec)

/-- ITS FALSE NEIGHBOUR: 'it returns false'. Refute it at one input. -/
def fnExactStmtReadsWrong : ChangeSpec := { name := "fnExactStmtReads", fn := fun _ => fun
  | [d] => { results := [.lit (.bool false)], args := [d] }
  | _ => none }
def FnExactStmtReadsWrongFalsely : Prop := fnExactStmtReadsRow.holds Try.pinned (OpenSpec.ofChange fnExactStmtReadsWrong)

/-- 'laws.FnExactSubstStmt': WHATEVER THE INPUT: true; the input reads as it did. -/
def fnExactSubstStmtSpec : ChangeSpec := { name := "fnExactSubstStmt", fn := fun _ => fun
  | [d1, d2, d3] => { results := [.lit (.bool true)], args := [d1, d2, d3] }
  | _ => none }
def fnExactSubstStmtRow : OpenClaim := { program := "ytadmmlflngkpiaa", sum := "ab94c172ed2555178952430820077801981bca122766d43888eb3086b2a3bdd7", func := "loop.example/loopnests/laws.FnExactSubstStmt", spec := "fnExactSubstStmt", inPlace := ["internal/bytealg.IndexByteString", "internal/bytealg.IndexString"], unfollowed := true, recurses := true, named := ["internal/bytealg.MaxLen"], loops := true, apart := false }
def FnExactSubstStmtSaid : Prop := fnExactSubstStmtRow.holds Try.pinned (OpenSpec.ofChange fnExactSubstStmtSpec)

/-- ITS FALSE NEIGHBOUR: 'it returns false'. Refute it at one input. -/
def fnExactSubstStmtWrong : ChangeSpec := { name := "fnExactSubstStmt", fn := fun _ => fun
  | [d1, d2, d3] => { results := [.lit (.bool false)], args := [d1, d2, d3] }
  | _ => none }
def FnExactSubstStmtWrongFalsely : Prop := fnExactSubstStmtRow.holds Try.pinned (OpenSpec.ofChange fnExactSubstStmtWrong)

/- THE SECOND FORM. 'bulk': how many values and letters a reading holds, each counted each time it is reached (what is shared counts as often as it is met; a slice's spare places count too). A statement '..UptoSaid' is the law's where the arguments, and the package variables that the reading takes, are together of bulk at most 1048576: NARROWER than '..Said'. Prove '..Said' where nothing that the law and all that it calls make is longer than what came in: it says more and counts as full. Else prove '..UptoSaid'. A law counts once. -/
mutual
def uptoBulk {H : Type} : DataW H → Nat
  | .lit (.string bytes) => bytes.length + 1
  | .lit _ => 1
  | .nil => 1
  | .ptr d => uptoBulk d + 1
  | .slice elems spare => uptoBulkAll elems + uptoBulkAll spare + 1
  | .agg parts => uptoBulkAll parts + 1
  | .iface _ d => uptoBulk d + 1
  | .map entries => uptoBulkEntries entries + 1
  | .held _ => 1
def uptoBulkAll {H : Type} : List (DataW H) → Nat
  | [] => 0
  | d :: r => uptoBulk d + uptoBulkAll r
def uptoBulkEntries {H : Type} : List (Lit × DataW H) → Nat
  | [] => 0
  | x :: r => uptoBulkEntry x + uptoBulkEntries r
def uptoBulkEntry {H : Type} : Lit × DataW H → Nat
  | (.string bytes, d) => bytes.length + uptoBulk d + 1
  | (_, d) => uptoBulk d + 1
 end
def uptoSmall : (H : Type) → List (DataW H) → Bool := fun _ ds => decide (uptoBulkAll ds ≤ 1048576)
def OpenSpec.upto (s : _root_.Go.ChangeSpec) : _root_.Go.OpenSpec := { _root_.Go.OpenSpec.ofChange s with cond := some uptoSmall }

/-- 'laws.FnExactBoxNest', WHERE WHAT IT READS IS OF BULK AT MOST 1048576: true; the input reads as it did. -/
def fnExactBoxNestUptoRow : OpenClaim := { program := "ytadmmlflngkpiaa", sum := "ab94c172ed2555178952430820077801981bca122766d43888eb3086b2a3bdd7", func := "loop.example/loopnests/laws.FnExactBoxNest", spec := "fnExactBoxNest", unfollowed := true, recurses := true, apart := false, narrowed := true }
def FnExactBoxNestUptoSaid : Prop := fnExactBoxNestUptoRow.holds Try.pinned (OpenSpec.upto fnExactBoxNestSpec)

/-- 'laws.FnExactStmtDepth', WHERE WHAT IT READS IS OF BULK AT MOST 1048576: true; the input reads as it did. -/
def fnExactStmtDepthUptoRow : OpenClaim := { program := "ytadmmlflngkpiaa", sum := "ab94c172ed2555178952430820077801981bca122766d43888eb3086b2a3bdd7", func := "loop.example/loopnests/laws.FnExactStmtDepth", spec := "fnExactStmtDepth", inPlace := ["internal/bytealg.IndexByteString", "internal/bytealg.IndexString"], unfollowed := true, recurses := true, named := ["internal/bytealg.MaxLen"], loops := true, apart := false, narrowed := true }
def FnExactStmtDepthUptoSaid : Prop := fnExactStmtDepthUptoRow.holds Try.pinned (OpenSpec.upto fnExactStmtDepthSpec)

/-- 'laws.FnExactStmtReads', WHERE WHAT IT READS IS OF BULK AT MOST 1048576: true; the input reads as it did. -/
def fnExactStmtReadsUptoRow : OpenClaim := { program := "ytadmmlflngkpiaa", sum := "ab94c172ed2555178952430820077801981bca122766d43888eb3086b2a3bdd7", func := "loop.example/loopnests/laws.FnExactStmtReads", spec := "fnExactStmtReads", inPlace := ["internal/bytealg.IndexByteString", "internal/bytealg.IndexString"], unfollowed := true, recurses := true, named := ["internal/bytealg.MaxLen"], loops := true, apart := false, narrowed := true }
def FnExactStmtReadsUptoSaid : Prop := fnExactStmtReadsUptoRow.holds Try.pinned (OpenSpec.upto fnExactStmtReadsSpec)

/-- 'laws.FnExactSubstStmt', WHERE WHAT IT READS IS OF BULK AT MOST 1048576: true; the input reads as it did. -/
def fnExactSubstStmtUptoRow : OpenClaim := { program := "ytadmmlflngkpiaa", sum := "ab94c172ed2555178952430820077801981bca122766d43888eb3086b2a3bdd7", func := "loop.example/loopnests/laws.FnExactSubstStmt", spec := "fnExactSubstStmt", inPlace := ["internal/bytealg.IndexByteString", "internal/bytealg.IndexString"], unfollowed := true, recurses := true, named := ["internal/bytealg.MaxLen"], loops := true, apart := false, narrowed := true }
def FnExactSubstStmtUptoSaid : Prop := fnExactSubstStmtUptoRow.holds Try.pinned (OpenSpec.upto fnExactSubstStmtSpec)

end Rows
end Go.Proofs.Ytadmmlflngkpiaa
