/- Flow of values between instances in plain Lean: sources, dead instances, written and input cells. -/
import Derived.Test.YtimocdpfnncnlaaGreatActs
set_option linter.all false
set_option linter.unusedSimpArgs false
set_option linter.unusedVariables false
namespace Go.Proofs.YtimocdpfnncnlaaGreat
open Go.ChangeShapes Go.WideShapes Go.ChangeAt Go.RowKit Go.Deep

/-- the numbers below n at which f holds -/
def chF (f : Nat → Bool) : Nat → List Int
  | 0 => []
  | k + 1 => chF f k ++ (if f k then [(k : Int)] else [])
theorem chF_len (f : Nat → Bool) : ∀ n, (chF f n).length ≤ n
  | 0 => Nat.le_refl _
  | n + 1 => by rw [chF, List.length_append]; have := chF_len f n; split <;> simp <;> omega
theorem chF_yes {f : Nat → Bool} {k : Nat} (h : f k = true) : chF f (k + 1) = chF f k ++ [(k : Int)] := by rw [chF, if_pos h]
theorem chF_no {f : Nat → Bool} {k : Nat} (h : f k = false) : chF f (k + 1) = chF f k := by rw [chF, h]; simp
theorem chF_congr {f g : Nat → Bool} : ∀ {n : Nat}, (∀ k, k < n → f k = g k) → chF f n = chF g n
  | 0, _ => rfl
  | n + 1, h => by rw [chF, chF, chF_congr fun k hk => h k (by omega), h n (by omega)]
/-- the last instance before t that writes the cell c, -1 if there is none -/
def srcF (us : List Us) (c : Int) : Nat → Int
  | 0 => -1
  | i + 1 => if (nthU us i).write = c then (i : Int) else srcF us c i
theorem srcF_bd (us : List Us) (c : Int) : ∀ t, -1 ≤ srcF us c t ∧ srcF us c t < (t : Int)
  | 0 => by simp [srcF]
  | t + 1 => by rw [srcF]; have := srcF_bd us c t; split <;> omega
def FlowF (p : Pgm) (t : Int) : List Int × Bool := if progOk p = true ∧ 0 ≤ t ∧ t < ((usesF p).length : Int) then ((nthU (usesF p) t.toNat).reads.map (fun c => srcF (usesF p) c t.toNat), true) else ([], false)
theorem FlowF_n {p : Pgm} {t : Int} (h : progOk p = false) : FlowF p t = ([], false) := by simp [FlowF, h]
theorem FlowF_no {p : Pgm} {t : Int} (h : ¬ (0 ≤ t ∧ t < ((usesF p).length : Int))) : FlowF p t = ([], false) := by unfold FlowF; rw [if_neg (fun h2 => h h2.2)]
theorem FlowF_y {p : Pgm} {t : Nat} (h : progOk p = true) (h2 : t < (usesF p).length) : FlowF p (t : Int) = ((nthU (usesF p) t).reads.map (fun c => srcF (usesF p) c t), true) := by
  unfold FlowF; rw [if_pos ⟨h, by omega, by omega⟩, Int.toNat_natCast]
/-- what is written to the cell c is written again before it is read, among n instances from k on -/
def deadF (us : List Us) (c : Int) : Nat → Nat → Bool
  | 0, _ => false
  | n + 1, k => if (nthU us k).reads.contains c then false else if (nthU us k).write = c then true else deadF us c n (k + 1)
def deadI (us : List Us) (i : Nat) : Bool := deadF us (nthU us i).write (us.length - (i + 1)) (i + 1)
theorem deadF_step {us : List Us} {c : Int} {k : Nat} (h : k < us.length) : deadF us c (us.length - k) k = if (nthU us k).reads.contains c then false else if (nthU us k).write = c then true else deadF us c (us.length - (k + 1)) (k + 1) := by
  rw [show us.length - k = (us.length - (k + 1)) + 1 by omega, deadF]
def DeadF (p : Pgm) : List Int := if progOk p then chF (deadI (usesF p)) (usesF p).length else []
/-- some of the first i instances writes the cell k -/
def wrB (us : List Us) (i k : Nat) : Bool := (us.take i).any fun u => decide (u.write = (k : Int))
theorem wrB_step {us : List Us} {i : Nat} (h : i < us.length) (k : Nat) : wrB us (i + 1) k = (wrB us i k || decide ((nthU us i).write = (k : Int))) := by
  unfold wrB
  rw [List.take_succ_eq_append_getElem h, List.any_append, nthU_eq h]; simp
def WrittenF (p : Pgm) : List Int := if progOk p then chF (wrB (usesF p) (usesF p).length) (cellsF p.arrays).toNat else []
/-- some of the first i instances reads the cell k before it is written -/
def inpB (us : List Us) : Nat → Nat → Bool
  | 0, _ => false
  | i + 1, k => inpB us i k || ((nthU us i).reads.contains (k : Int) && !wrB us i k)
def InputF (p : Pgm) : List Int := if progOk p then chF (inpB (usesF p) (usesF p).length) (cellsF p.arrays).toNat else []
end Go.Proofs.YtimocdpfnncnlaaGreat
