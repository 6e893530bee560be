/- Orders, on both sides: which lists name every number below n once; OrderValid. -/
import Derived.Test.YtimocdpfnncnlaaGreatInstsS
import Derived.Test.YtimocdpfnncnlaaGreatTotal
import Derived.Deep.OwnRows
set_option linter.all false
set_option linter.unusedSimpArgs false
set_option linter.unusedVariables false
namespace Go.Proofs.YtimocdpfnncnlaaGreat
open Go.ChangeShapes Go.WideShapes Go.ChangeAt Go.RowKit Go.Deep

/-- the numbers of a list lie below n, each comes up once, none that s has met -/
def permG (n : Nat) : List Int → (Nat → Bool) → Bool
  | [], _ => true
  | x :: l, s => decide (0 ≤ x) && (decide (x < (n : Int)) && (!s x.toNat && permG n l (fun k => if k = x.toNat then true else s k)))
def permF (l : List Int) (n : Nat) : Bool := permG n l (fun _ => false) && decide (l.length = n)
theorem permG_drop (n : Nat) (l : List Int) (s : Nat → Bool) (j : Nat) (h : j < l.length) : permG n (l.drop j) s = (decide (0 ≤ gi l j) && (decide (gi l j < (n : Int)) && (!s (gi l j).toNat && permG n (l.drop (j + 1)) (fun k => if k = (gi l j).toNat then true else s k)))) := by
  rw [← List.getElem_cons_drop h, permG, gi_eq h]
theorem permF_no {l : List Int} {n : Nat} (h : permG n l (fun _ => false) = false) : permF l n = false := by rw [permF, h, Bool.false_and]
theorem permF_yes {l : List Int} {n : Nat} (h : permG n l (fun _ => false) = true) : permF l n = decide (l.length = n) := by rw [permF, h, Bool.true_and]
theorem Tryz.infoBool : (Tryz.prog.info? 4).map (fun i => (i.zero, i.size, i.bytes)) = some (some (.bool false), 1, 1) := by kernel_rfl

section
variable {w : World} {l : List Int} {n : Nat} {A : Option Addr} {m c : Nat} {bs : List Nat}
end

def OrderValidF (p : Pgm) (l : List Int) : Bool := progOk p && permF l (instsF p).length
theorem InstsF_ok {p : Pgm} (h : progOk p = true) : (InstsF p).1 = instsF p := by
  obtain ⟨h1, h2, _⟩ := progOk_all h
  rw [InstsF_y (progOk_arr h) h1 (List.all_eq_true.2 h2)]
theorem OrderValidF_n {p : Pgm} {l : List Int} (h : progOk p = false) : OrderValidF p l = false := by rw [OrderValidF, h, Bool.false_and]
theorem OrderValidF_y {p : Pgm} {l : List Int} (h : progOk p = true) : OrderValidF p l = permF l (instsF p).length := by rw [OrderValidF, h, Bool.true_and]

end Go.Proofs.YtimocdpfnncnlaaGreat
