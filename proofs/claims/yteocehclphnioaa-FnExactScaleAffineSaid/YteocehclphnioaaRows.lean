/-
  No cell of these rows narrows 'for every input' (looked for: loops, veiled, ifaces, maps, wideKeys, modest, calm, conditions, laid).
  DERIVED. THE GIVEN ROWS OF THIS SEAT. 12 by the template 'for every input the law returns true; each argument reads behind the call as it read before'; 0 by the template 'total and deterministic' (their statements: YteocehclphnioaaTotals.lean).
  GIVEN WITH THE SEED: the statements are not yours to turn. If you find one false, say at which input.
  Laid BY PROGRAM, IN A SANDBOX (cutbox-rows.mjs): the forced cells as the released guide's own fill.sh prints them over the translation 2675963c250344f9… (all of the seat's roots in one cut). By AI agents, Wed Nov 11 2026. No macro, syntax, notation, axiom, sorry.
-/
import Derived.Test.YteocehclphnioaaChecked
import GoSem.Claim
import GoSem.ClaimJoined
import GoSem.ClaimMapViews
import Derived.JoinedTies
import Derived.KernelRfl
namespace Go.Proofs.Yteocehclphnioaa
/- THE CELL 'sum', in the pinned program and in every row, IS THE sha256 OF THE DUMP (.gsa) THAT YteocehclphnioaaProg.lean LOADS. Nothing in Lean hashes anything: it is a label: what it is worth is what the hold of that sum in a sandbox is worth. -/
noncomputable def Try.pinned : Pinned := { name := "yteocehclphnioaa", sum := "2675963c250344f973f40f8e0b095c6840752ed2c9c8f4cdf2bdfb1eafd94a8f", checked := Try.checked }
namespace Rows
def none {H : Type} : Left H := { results := [], args := [] }

/-- 'laws.FnExactConstants': WHATEVER THE INPUT: true; the input reads as it did. -/
def fnExactConstantsSpec : ChangeSpec := { name := "fnExactConstants", fn := fun _ => fun
  | [] => { results := [.lit (.bool true)], args := [] }
  | _ => none }
def fnExactConstantsRow : OpenClaim := { program := "yteocehclphnioaa", sum := "2675963c250344f973f40f8e0b095c6840752ed2c9c8f4cdf2bdfb1eafd94a8f", func := "loop.example/loopnests/laws.FnExactConstants", spec := "fnExactConstants", apart := false }
def FnExactConstantsSaid : Prop := fnExactConstantsRow.holds Try.pinned (OpenSpec.ofChange fnExactConstantsSpec)

/-- ITS FALSE NEIGHBOUR: 'it returns false'. Refute it at one input. -/
def fnExactConstantsWrong : ChangeSpec := { name := "fnExactConstants", fn := fun _ => fun
  | [] => { results := [.lit (.bool false)], args := [] }
  | _ => none }
def FnExactConstantsWrongFalsely : Prop := fnExactConstantsRow.holds Try.pinned (OpenSpec.ofChange fnExactConstantsWrong)

/-- 'laws.FnExactCarryLevel': WHATEVER THE INPUT: true; the input reads as it did. -/
def fnExactCarryLevelSpec : ChangeSpec := { name := "fnExactCarryLevel", fn := fun _ => fun
  | [d] => { results := [.lit (.bool true)], args := [d] }
  | _ => none }
def fnExactCarryLevelRow : OpenClaim := { program := "yteocehclphnioaa", sum := "2675963c250344f973f40f8e0b095c6840752ed2c9c8f4cdf2bdfb1eafd94a8f", func := "loop.example/loopnests/laws.FnExactCarryLevel", spec := "fnExactCarryLevel", unfollowed := true, recurses := true, apart := false }
def FnExactCarryLevelSaid : Prop := fnExactCarryLevelRow.holds Try.pinned (OpenSpec.ofChange fnExactCarryLevelSpec)

/-- ITS FALSE NEIGHBOUR: 'it returns false'. Refute it at one input. -/
def fnExactCarryLevelWrong : ChangeSpec := { name := "fnExactCarryLevel", fn := fun _ => fun
  | [d] => { results := [.lit (.bool false)], args := [d] }
  | _ => none }
def FnExactCarryLevelWrongFalsely : Prop := fnExactCarryLevelRow.holds Try.pinned (OpenSpec.ofChange fnExactCarryLevelWrong)

/-- 'laws.FnExactDirection': WHATEVER THE INPUT: true; the input reads as it did. -/
def fnExactDirectionSpec : ChangeSpec := { name := "fnExactDirection", fn := fun _ => fun
  | [d] => { results := [.lit (.bool true)], args := [d] }
  | _ => none }
def fnExactDirectionRow : OpenClaim := { program := "yteocehclphnioaa", sum := "2675963c250344f973f40f8e0b095c6840752ed2c9c8f4cdf2bdfb1eafd94a8f", func := "loop.example/loopnests/laws.FnExactDirection", spec := "fnExactDirection", apart := false }
def FnExactDirectionSaid : Prop := fnExactDirectionRow.holds Try.pinned (OpenSpec.ofChange fnExactDirectionSpec)

/-- ITS FALSE NEIGHBOUR: 'it returns false'. Refute it at one input. -/
def fnExactDirectionWrong : ChangeSpec := { name := "fnExactDirection", fn := fun _ => fun
  | [d] => { results := [.lit (.bool false)], args := [d] }
  | _ => none }
def FnExactDirectionWrongFalsely : Prop := fnExactDirectionRow.holds Try.pinned (OpenSpec.ofChange fnExactDirectionWrong)

/-- 'laws.FnExactLexLess': WHATEVER THE INPUT: true; the input reads as it did. -/
def fnExactLexLessSpec : ChangeSpec := { name := "fnExactLexLess", fn := fun _ => fun
  | [d1, d2] => { results := [.lit (.bool true)], args := [d1, d2] }
  | _ => none }
def fnExactLexLessRow : OpenClaim := { program := "yteocehclphnioaa", sum := "2675963c250344f973f40f8e0b095c6840752ed2c9c8f4cdf2bdfb1eafd94a8f", func := "loop.example/loopnests/laws.FnExactLexLess", spec := "fnExactLexLess", apart := false }
def FnExactLexLessSaid : Prop := fnExactLexLessRow.holds Try.pinned (OpenSpec.ofChange fnExactLexLessSpec)

/-- ITS FALSE NEIGHBOUR: 'it returns false'. Refute it at one input. -/
def fnExactLexLessWrong : ChangeSpec := { name := "fnExactLexLess", fn := fun _ => fun
  | [d1, d2] => { results := [.lit (.bool false)], args := [d1, d2] }
  | _ => none }
def FnExactLexLessWrongFalsely : Prop := fnExactLexLessRow.holds Try.pinned (OpenSpec.ofChange fnExactLexLessWrong)

/-- 'laws.FnExactAffineValid': WHATEVER THE INPUT: true; the input reads as it did. -/
def fnExactAffineValidSpec : ChangeSpec := { name := "fnExactAffineValid", fn := fun _ => fun
  | [d] => { results := [.lit (.bool true)], args := [d] }
  | _ => none }
def fnExactAffineValidRow : OpenClaim := { program := "yteocehclphnioaa", sum := "2675963c250344f973f40f8e0b095c6840752ed2c9c8f4cdf2bdfb1eafd94a8f", func := "loop.example/loopnests/laws.FnExactAffineValid", spec := "fnExactAffineValid", unfollowed := true, recurses := true, apart := false }
def FnExactAffineValidSaid : Prop := fnExactAffineValidRow.holds Try.pinned (OpenSpec.ofChange fnExactAffineValidSpec)

/-- ITS FALSE NEIGHBOUR: 'it returns false'. Refute it at one input. -/
def fnExactAffineValidWrong : ChangeSpec := { name := "fnExactAffineValid", fn := fun _ => fun
  | [d] => { results := [.lit (.bool false)], args := [d] }
  | _ => none }
def FnExactAffineValidWrongFalsely : Prop := fnExactAffineValidRow.holds Try.pinned (OpenSpec.ofChange fnExactAffineValidWrong)

/-- 'laws.FnExactAffineSame': WHATEVER THE INPUT: true; the input reads as it did. -/
def fnExactAffineSameSpec : ChangeSpec := { name := "fnExactAffineSame", fn := fun _ => fun
  | [d1, d2] => { results := [.lit (.bool true)], args := [d1, d2] }
  | _ => none }
def fnExactAffineSameRow : OpenClaim := { program := "yteocehclphnioaa", sum := "2675963c250344f973f40f8e0b095c6840752ed2c9c8f4cdf2bdfb1eafd94a8f", func := "loop.example/loopnests/laws.FnExactAffineSame", spec := "fnExactAffineSame", apart := false }
def FnExactAffineSameSaid : Prop := fnExactAffineSameRow.holds Try.pinned (OpenSpec.ofChange fnExactAffineSameSpec)

/-- ITS FALSE NEIGHBOUR: 'it returns false'. Refute it at one input. -/
def fnExactAffineSameWrong : ChangeSpec := { name := "fnExactAffineSame", fn := fun _ => fun
  | [d1, d2] => { results := [.lit (.bool false)], args := [d1, d2] }
  | _ => none }
def FnExactAffineSameWrongFalsely : Prop := fnExactAffineSameRow.holds Try.pinned (OpenSpec.ofChange fnExactAffineSameWrong)

/-- 'laws.FnExactVarAffine': WHATEVER THE INPUT: true; the input reads as it did. -/
def fnExactVarAffineSpec : ChangeSpec := { name := "fnExactVarAffine", fn := fun _ => fun
  | [d] => { results := [.lit (.bool true)], args := [d] }
  | _ => none }
def fnExactVarAffineRow : OpenClaim := { program := "yteocehclphnioaa", sum := "2675963c250344f973f40f8e0b095c6840752ed2c9c8f4cdf2bdfb1eafd94a8f", func := "loop.example/loopnests/laws.FnExactVarAffine", spec := "fnExactVarAffine", apart := false }
def FnExactVarAffineSaid : Prop := fnExactVarAffineRow.holds Try.pinned (OpenSpec.ofChange fnExactVarAffineSpec)

/-- ITS FALSE NEIGHBOUR: 'it returns false'. Refute it at one input. -/
def fnExactVarAffineWrong : ChangeSpec := { name := "fnExactVarAffine", fn := fun _ => fun
  | [d] => { results := [.lit (.bool false)], args := [d] }
  | _ => none }
def FnExactVarAffineWrongFalsely : Prop := fnExactVarAffineRow.holds Try.pinned (OpenSpec.ofChange fnExactVarAffineWrong)

/-- 'laws.FnExactAffineDepth': WHATEVER THE INPUT: true; the input reads as it did. -/
def fnExactAffineDepthSpec : ChangeSpec := { name := "fnExactAffineDepth", fn := fun _ => fun
  | [d] => { results := [.lit (.bool true)], args := [d] }
  | _ => none }
def fnExactAffineDepthRow : OpenClaim := { program := "yteocehclphnioaa", sum := "2675963c250344f973f40f8e0b095c6840752ed2c9c8f4cdf2bdfb1eafd94a8f", func := "loop.example/loopnests/laws.FnExactAffineDepth", spec := "fnExactAffineDepth", unfollowed := true, recurses := true, apart := false }
def FnExactAffineDepthSaid : Prop := fnExactAffineDepthRow.holds Try.pinned (OpenSpec.ofChange fnExactAffineDepthSpec)

/-- ITS FALSE NEIGHBOUR: 'it returns false'. Refute it at one input. -/
def fnExactAffineDepthWrong : ChangeSpec := { name := "fnExactAffineDepth", fn := fun _ => fun
  | [d] => { results := [.lit (.bool false)], args := [d] }
  | _ => none }
def FnExactAffineDepthWrongFalsely : Prop := fnExactAffineDepthRow.holds Try.pinned (OpenSpec.ofChange fnExactAffineDepthWrong)

/-- 'laws.FnExactEvalAffine': WHATEVER THE INPUT: true; the input reads as it did. -/
def fnExactEvalAffineSpec : ChangeSpec := { name := "fnExactEvalAffine", fn := fun _ => fun
  | [d1, d2] => { results := [.lit (.bool true)], args := [d1, d2] }
  | _ => none }
def fnExactEvalAffineRow : OpenClaim := { program := "yteocehclphnioaa", sum := "2675963c250344f973f40f8e0b095c6840752ed2c9c8f4cdf2bdfb1eafd94a8f", func := "loop.example/loopnests/laws.FnExactEvalAffine", spec := "fnExactEvalAffine", unfollowed := true, recurses := true, apart := false }
def FnExactEvalAffineSaid : Prop := fnExactEvalAffineRow.holds Try.pinned (OpenSpec.ofChange fnExactEvalAffineSpec)

/-- ITS FALSE NEIGHBOUR: 'it returns false'. Refute it at one input. -/
def fnExactEvalAffineWrong : ChangeSpec := { name := "fnExactEvalAffine", fn := fun _ => fun
  | [d1, d2] => { results := [.lit (.bool false)], args := [d1, d2] }
  | _ => none }
def FnExactEvalAffineWrongFalsely : Prop := fnExactEvalAffineRow.holds Try.pinned (OpenSpec.ofChange fnExactEvalAffineWrong)

/-- 'laws.FnExactAddAffine': WHATEVER THE INPUT: true; the input reads as it did. -/
def fnExactAddAffineSpec : ChangeSpec := { name := "fnExactAddAffine", fn := fun _ => fun
  | [d1, d2] => { results := [.lit (.bool true)], args := [d1, d2] }
  | _ => none }
def fnExactAddAffineRow : OpenClaim := { program := "yteocehclphnioaa", sum := "2675963c250344f973f40f8e0b095c6840752ed2c9c8f4cdf2bdfb1eafd94a8f", func := "loop.example/loopnests/laws.FnExactAddAffine", spec := "fnExactAddAffine", unfollowed := true, recurses := true, apart := false }
def FnExactAddAffineSaid : Prop := fnExactAddAffineRow.holds Try.pinned (OpenSpec.ofChange fnExactAddAffineSpec)

/-- ITS FALSE NEIGHBOUR: 'it returns false'. Refute it at one input. -/
def fnExactAddAffineWrong : ChangeSpec := { name := "fnExactAddAffine", fn := fun _ => fun
  | [d1, d2] => { results := [.lit (.bool false)], args := [d1, d2] }
  | _ => none }
def FnExactAddAffineWrongFalsely : Prop := fnExactAddAffineRow.holds Try.pinned (OpenSpec.ofChange fnExactAddAffineWrong)

/-- 'laws.FnExactScaleAffine': WHATEVER THE INPUT: true; the input reads as it did. -/
def fnExactScaleAffineSpec : ChangeSpec := { name := "fnExactScaleAffine", fn := fun _ => fun
  | [d1, d2] => { results := [.lit (.bool true)], args := [d1, d2] }
  | _ => none }
def fnExactScaleAffineRow : OpenClaim := { program := "yteocehclphnioaa", sum := "2675963c250344f973f40f8e0b095c6840752ed2c9c8f4cdf2bdfb1eafd94a8f", func := "loop.example/loopnests/laws.FnExactScaleAffine", spec := "fnExactScaleAffine", unfollowed := true, recurses := true, apart := false }
def FnExactScaleAffineSaid : Prop := fnExactScaleAffineRow.holds Try.pinned (OpenSpec.ofChange fnExactScaleAffineSpec)

/-- ITS FALSE NEIGHBOUR: 'it returns false'. Refute it at one input. -/
def fnExactScaleAffineWrong : ChangeSpec := { name := "fnExactScaleAffine", fn := fun _ => fun
  | [d1, d2] => { results := [.lit (.bool false)], args := [d1, d2] }
  | _ => none }
def FnExactScaleAffineWrongFalsely : Prop := fnExactScaleAffineRow.holds Try.pinned (OpenSpec.ofChange fnExactScaleAffineWrong)

/-- 'laws.FnExactBoxNest': WHATEVER THE INPUT: true; the input reads as it did. -/
def fnExactBoxNestSpec : ChangeSpec := { name := "fnExactBoxNest", fn := fun _ => fun
  | [d] => { results := [.lit (.bool true)], args := [d] }
  | _ => none }
def fnExactBoxNestRow : OpenClaim := { program := "yteocehclphnioaa", sum := "2675963c250344f973f40f8e0b095c6840752ed2c9c8f4cdf2bdfb1eafd94a8f", func := "loop.example/loopnests/laws.FnExactBoxNest", spec := "fnExactBoxNest", unfollowed := true, recurses := true, apart := false }
def FnExactBoxNestSaid : Prop := fnExactBoxNestRow.holds Try.pinned (OpenSpec.ofChange fnExactBoxNestSpec)

/-- ITS FALSE NEIGHBOUR: 'it returns false'. Refute it at one input. -/
def fnExactBoxNestWrong : ChangeSpec := { name := "fnExactBoxNest", fn := fun _ => fun
  | [d] => { results := [.lit (.bool false)], args := [d] }
  | _ => none }
def FnExactBoxNestWrongFalsely : Prop := fnExactBoxNestRow.holds Try.pinned (OpenSpec.ofChange fnExactBoxNestWrong)

/- THE SECOND FORM. 'bulk': how many values and letters a reading holds, each counted each time it is reached (what is shared counts as often as it is met; a slice's spare places count too). A statement '..UptoSaid' is the law's where the arguments, and the package variables that the reading takes, are together of bulk at most 1048576: NARROWER than '..Said'. Prove '..Said' where nothing that the law and all that it calls make is longer than what came in: it says more and counts as full. Else prove '..UptoSaid'. A law counts once. -/
mutual
def uptoBulk {H : Type} : DataW H → Nat
  | .lit (.string bytes) => bytes.length + 1
  | .lit _ => 1
  | .nil => 1
  | .ptr d => uptoBulk d + 1
  | .slice elems spare => uptoBulkAll elems + uptoBulkAll spare + 1
  | .agg parts => uptoBulkAll parts + 1
  | .iface _ d => uptoBulk d + 1
  | .map entries => uptoBulkEntries entries + 1
  | .held _ => 1
def uptoBulkAll {H : Type} : List (DataW H) → Nat
  | [] => 0
  | d :: r => uptoBulk d + uptoBulkAll r
def uptoBulkEntries {H : Type} : List (Lit × DataW H) → Nat
  | [] => 0
  | x :: r => uptoBulkEntry x + uptoBulkEntries r
def uptoBulkEntry {H : Type} : Lit × DataW H → Nat
  | (.string bytes, d) => bytes.length + uptoBulk d + 1
  | (_, d) => uptoBulk d + 1
 end
def uptoSmall : (H : Type) → List (DataW H) → Bool := fun _ ds => decide (uptoBulkAll ds ≤ 1048576)
def OpenSpec.upto (s : _root_.Go.ChangeSpec) : _root_.Go.OpenSpec := { _root_.Go.OpenSpec.ofChange s with cond := some uptoSmall }

/-- 'laws.FnExactConstants', WHERE WHAT IT READS IS OF BULK AT MOST 1048576: true; the input reads as it did. -/
def fnExactConstantsUptoRow : OpenClaim := { program := "yteocehclphnioaa", sum := "2675963c250344f973f40f8e0b095c6840752ed2c9c8f4cdf2bdfb1eafd94a8f", func := "loop.example/loopnests/laws.FnExactConstants", spec := "fnExactConstants", apart := false, narrowed := true }
def FnExactConstantsUptoSaid : Prop := fnExactConstantsUptoRow.holds Try.pinned (OpenSpec.upto fnExactConstantsSpec)

/-- 'laws.FnExactCarryLevel', WHERE WHAT IT READS IS OF BULK AT MOST 1048576: true; the input reads as it did. -/
def fnExactCarryLevelUptoRow : OpenClaim := { program := "yteocehclphnioaa", sum := "2675963c250344f973f40f8e0b095c6840752ed2c9c8f4cdf2bdfb1eafd94a8f", func := "loop.example/loopnests/laws.FnExactCarryLevel", spec := "fnExactCarryLevel", unfollowed := true, recurses := true, apart := false, narrowed := true }
def FnExactCarryLevelUptoSaid : Prop := fnExactCarryLevelUptoRow.holds Try.pinned (OpenSpec.upto fnExactCarryLevelSpec)

/-- 'laws.FnExactDirection', WHERE WHAT IT READS IS OF BULK AT MOST 1048576: true; the input reads as it did. -/
def fnExactDirectionUptoRow : OpenClaim := { program := "yteocehclphnioaa", sum := "2675963c250344f973f40f8e0b095c6840752ed2c9c8f4cdf2bdfb1eafd94a8f", func := "loop.example/loopnests/laws.FnExactDirection", spec := "fnExactDirection", apart := false, narrowed := true }
def FnExactDirectionUptoSaid : Prop := fnExactDirectionUptoRow.holds Try.pinned (OpenSpec.upto fnExactDirectionSpec)

/-- 'laws.FnExactLexLess', WHERE WHAT IT READS IS OF BULK AT MOST 1048576: true; the input reads as it did. -/
def fnExactLexLessUptoRow : OpenClaim := { program := "yteocehclphnioaa", sum := "2675963c250344f973f40f8e0b095c6840752ed2c9c8f4cdf2bdfb1eafd94a8f", func := "loop.example/loopnests/laws.FnExactLexLess", spec := "fnExactLexLess", apart := false, narrowed := true }
def FnExactLexLessUptoSaid : Prop := fnExactLexLessUptoRow.holds Try.pinned (OpenSpec.upto fnExactLexLessSpec)

/-- 'laws.FnExactAffineValid', WHERE WHAT IT READS IS OF BULK AT MOST 1048576: true; the input reads as it did. -/
def fnExactAffineValidUptoRow : OpenClaim := { program := "yteocehclphnioaa", sum := "2675963c250344f973f40f8e0b095c6840752ed2c9c8f4cdf2bdfb1eafd94a8f", func := "loop.example/loopnests/laws.FnExactAffineValid", spec := "fnExactAffineValid", unfollowed := true, recurses := true, apart := false, narrowed := true }
def FnExactAffineValidUptoSaid : Prop := fnExactAffineValidUptoRow.holds Try.pinned (OpenSpec.upto fnExactAffineValidSpec)

/-- 'laws.FnExactAffineSame', WHERE WHAT IT READS IS OF BULK AT MOST 1048576: true; the input reads as it did. -/
def fnExactAffineSameUptoRow : OpenClaim := { program := "yteocehclphnioaa", sum := "2675963c250344f973f40f8e0b095c6840752ed2c9c8f4cdf2bdfb1eafd94a8f", func := "loop.example/loopnests/laws.FnExactAffineSame", spec := "fnExactAffineSame", apart := false, narrowed := true }
def FnExactAffineSameUptoSaid : Prop := fnExactAffineSameUptoRow.holds Try.pinned (OpenSpec.upto fnExactAffineSameSpec)

/-- 'laws.FnExactVarAffine', WHERE WHAT IT READS IS OF BULK AT MOST 1048576: true; the input reads as it did. -/
def fnExactVarAffineUptoRow : OpenClaim := { program := "yteocehclphnioaa", sum := "2675963c250344f973f40f8e0b095c6840752ed2c9c8f4cdf2bdfb1eafd94a8f", func := "loop.example/loopnests/laws.FnExactVarAffine", spec := "fnExactVarAffine", apart := false, narrowed := true }
def FnExactVarAffineUptoSaid : Prop := fnExactVarAffineUptoRow.holds Try.pinned (OpenSpec.upto fnExactVarAffineSpec)

/-- 'laws.FnExactAffineDepth', WHERE WHAT IT READS IS OF BULK AT MOST 1048576: true; the input reads as it did. -/
def fnExactAffineDepthUptoRow : OpenClaim := { program := "yteocehclphnioaa", sum := "2675963c250344f973f40f8e0b095c6840752ed2c9c8f4cdf2bdfb1eafd94a8f", func := "loop.example/loopnests/laws.FnExactAffineDepth", spec := "fnExactAffineDepth", unfollowed := true, recurses := true, apart := false, narrowed := true }
def FnExactAffineDepthUptoSaid : Prop := fnExactAffineDepthUptoRow.holds Try.pinned (OpenSpec.upto fnExactAffineDepthSpec)

/-- 'laws.FnExactEvalAffine', WHERE WHAT IT READS IS OF BULK AT MOST 1048576: true; the input reads as it did. -/
def fnExactEvalAffineUptoRow : OpenClaim := { program := "yteocehclphnioaa", sum := "2675963c250344f973f40f8e0b095c6840752ed2c9c8f4cdf2bdfb1eafd94a8f", func := "loop.example/loopnests/laws.FnExactEvalAffine", spec := "fnExactEvalAffine", unfollowed := true, recurses := true, apart := false, narrowed := true }
def FnExactEvalAffineUptoSaid : Prop := fnExactEvalAffineUptoRow.holds Try.pinned (OpenSpec.upto fnExactEvalAffineSpec)

/-- 'laws.FnExactAddAffine', WHERE WHAT IT READS IS OF BULK AT MOST 1048576: true; the input reads as it did. -/
def fnExactAddAffineUptoRow : OpenClaim := { program := "yteocehclphnioaa", sum := "2675963c250344f973f40f8e0b095c6840752ed2c9c8f4cdf2bdfb1eafd94a8f", func := "loop.example/loopnests/laws.FnExactAddAffine", spec := "fnExactAddAffine", unfollowed := true, recurses := true, apart := false, narrowed := true }
def FnExactAddAffineUptoSaid : Prop := fnExactAddAffineUptoRow.holds Try.pinned (OpenSpec.upto fnExactAddAffineSpec)

/-- 'laws.FnExactScaleAffine', WHERE WHAT IT READS IS OF BULK AT MOST 1048576: true; the input reads as it did. -/
def fnExactScaleAffineUptoRow : OpenClaim := { program := "yteocehclphnioaa", sum := "2675963c250344f973f40f8e0b095c6840752ed2c9c8f4cdf2bdfb1eafd94a8f", func := "loop.example/loopnests/laws.FnExactScaleAffine", spec := "fnExactScaleAffine", unfollowed := true, recurses := true, apart := false, narrowed := true }
def FnExactScaleAffineUptoSaid : Prop := fnExactScaleAffineUptoRow.holds Try.pinned (OpenSpec.upto fnExactScaleAffineSpec)

/-- 'laws.FnExactBoxNest', WHERE WHAT IT READS IS OF BULK AT MOST 1048576: true; the input reads as it did. -/
def fnExactBoxNestUptoRow : OpenClaim := { program := "yteocehclphnioaa", sum := "2675963c250344f973f40f8e0b095c6840752ed2c9c8f4cdf2bdfb1eafd94a8f", func := "loop.example/loopnests/laws.FnExactBoxNest", spec := "fnExactBoxNest", unfollowed := true, recurses := true, apart := false, narrowed := true }
def FnExactBoxNestUptoSaid : Prop := fnExactBoxNestUptoRow.holds Try.pinned (OpenSpec.upto fnExactBoxNestSpec)

end Rows
end Go.Proofs.Yteocehclphnioaa
