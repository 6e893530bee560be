/- Constants and variables as affine expressions: constant, variable, VarAffine of the program; l1Zero, l1Const, l1Var, VarAffine of the reference. AffineSame of both. -/
import Derived.Test.YtadmmlflngkpiaaValid
set_option linter.all false
set_option linter.unusedSimpArgs false
set_option linter.unusedVariables false
namespace Go.Proofs.Ytadmmlflngkpiaa
open Go.ChangeShapes Go.WideShapes Go.ChangeAt Go.RowKit Go.Deep

/-- the call answers a new affine expression -/
def MadeAff (w : World) (a : Aff) (e : Ending) (w' : World) : Prop :=
  ∃ A n c k bs, e = .returned (.agg #[.slice A n c, .int .i64 k]) ∧ Rep w' a.d [.slice A n c, .int .i64 k] bs ∧ bs.Nodup ∧ (∀ b ∈ bs, w.heap.size ≤ b) ∧ Below w.heap.size w w'
/-- the call answers a new affine expression and a truth value -/
def MadeAffB (w : World) (a : Aff) (t : Bool) (e : Ending) (w' : World) : Prop :=
  ∃ A n c k bs, e = .returned (.tuple #[.agg #[.slice A n c, .int .i64 k], .bool t]) ∧ Rep w' a.d [.slice A n c, .int .i64 k] bs ∧ bs.Nodup ∧ (∀ b ∈ bs, w.heap.size ≤ b) ∧ Below w.heap.size w w'
def affZero : Aff := ⟨[], 0⟩
def affConst (k : Int) : Aff := ⟨[0, 0, 0, 0], k⟩
def affVar (v : Nat) (k : Int) : Aff := ⟨[0, 0, 0, 0].set v k, 0⟩
def VarAffineF (v : Int) : Aff := if 0 ≤ v ∧ v < 4 then affVar v.toNat 1 else affZero
def isVarB (v : Int) : Bool := inB v 0 3

theorem Rep.ints4 {w : World} {x0 x1 x2 x3 : Int} {b : Nat} (hb : b < w.heap.size) (hf : ∀ x ∈ [x0, x1, x2, x3], I64 x)
    (h0 : w.cell? ⟨b, 0, none⟩ = some (.int .i64 x0)) (h1 : w.cell? ⟨b, 1, none⟩ = some (.int .i64 x1)) (h2 : w.cell? ⟨b, 2, none⟩ = some (.int .i64 x2)) (h3 : w.cell? ⟨b, 3, none⟩ = some (.int .i64 x3))
    (hz : ∀ o, w.frozen? ⟨b, o, none⟩ = false) : Rep w (ints [x0, x1, x2, x3]) [.slice (some ⟨b, 0, none⟩) 4 4] [b] :=
  Rep.ints_mk (xs := [x0, x1, x2, x3]) (o := 0) (c := 4) (by simp) (by unfold maxLen; omega) hf hb (fun k hk => by
    refine ⟨?_, hz _⟩
    simp only [List.length_cons, List.length_nil] at hk
    rcases (show k = 0 ∨ k = 1 ∨ k = 2 ∨ k = 3 by omega) with rfl | rfl | rfl | rfl
    · exact h0
    · exact h1
    · exact h2
    · exact h3)
theorem Rep.affZero {w : World} : Rep w affZero.d [.slice none 0 0, .int .i64 0] [] :=
  Rep.aff_iff.2 ⟨_, _, _, rfl, Rep.ints_nil (Nat.zero_le _), i64z⟩

section
variable {w : World}

theorem constant_c (k : Int) (hk : I64 k) (w : World) : Calls Try.prog 38 #[.int .i64 k] w (MadeAff w (affConst k)) := by
  have hmk : ∀ W, (Instr.makeSlice 22 (.int .i64 4) (.int .i64 4)).run Try.prog W = .ok (.slice (some ⟨W.heap.size, 0, none⟩) 4 4) (W.alloc (.cells #[.int .i64 0, .int .i64 0, .int .i64 0, .int .i64 0] 3)) := fun _ => by kernel_rfl
  have HK := Lib.hid hk; clear hk
  go_enter Try.func38, Try.ntmps38
  go_wp2
  refine bodyPost_ret (v := .agg #[.slice (some ⟨w.heap.size + 1, 0, none⟩) 4 4, .int .i64 k]) (by simp [results, Try.results38, go_sem]) rfl ⟨_, _, _, _, [w.heap.size + 1], rfl, Rep.aff_iff.2 ⟨_, _, _, rfl, ?_, HK.out⟩, by simp, by simp, bel⟩
  refine Rep.ints4 (by simp) (by intro x hx; simp at hx; subst hx; exact i64z) ?_ ?_ ?_ ?_ ?_
  all_goals simp

theorem isVar_c (v : Int) (w : World) : Calls Try.prog 63 #[.int .i64 v] w fun e w' => e = .returned (.bool (isVarB v)) ∧ w = w' := by
  go_enter Try.func63, Try.ntmps63
  go_wp2_with fail
  refine (within_c _ _ _ _).mono ?_
  rintro e w' ⟨rfl, rfl⟩
  go_wp2
  go_ret
  exact ⟨rfl, rfl⟩

theorem l1Zero_c (w : World) : Calls Try.prog 33 #[] w (MadeAff w (affConst 0)) := by
  go_enter Try.func33, Try.ntmps33
  go_wp2
  refine bodyPost_ret (v := .agg #[.slice (some ⟨w.heap.size + 1, 0, none⟩) 4 4, .int .i64 0]) (by simp [results, Try.results33, go_sem]) rfl ⟨_, _, _, _, [w.heap.size + 1], rfl, Rep.aff_iff.2 ⟨_, _, _, rfl, ?_, i64z⟩, by simp, by simp, bel⟩
  refine Rep.ints4 (by simp) (by intro x hx; simp at hx; subst hx; exact i64z) ?_ ?_ ?_ ?_ ?_
  all_goals simp

def affSame (a b : Aff) : Bool := decide (a.coefs = b.coefs) && decide (a.const = b.const)
theorem affSame_iff {a b : Aff} : affSame a b = true ↔ a = b := by
  cases a; cases b; simp [affSame]
end
end Go.Proofs.Ytadmmlflngkpiaa
