/- Texts of this seat, joined: Insts, CellsS, ArrsS, PartS, PgValidS, PgValid, Total, Touch. -/
import Derived.Test.YtadmmlflngkpiaaStmtOk
import Derived.Test.YtadmmlflngkpiaaNestPointsI
import Derived.Test.YtadmmlflngkpiaaTyInstance
import Derived.Test.YtadmmlflngkpiaaSqStmt
import Derived.Test.YtadmmlflngkpiaaReadsS
import Derived.Test.YtadmmlflngkpiaaArrs
import Derived.Test.YtadmmlflngkpiaaInOk
import Derived.StillTailTactics
/- The instances of a program: instances of the program. -/
set_option linter.all false
set_option linter.unusedSimpArgs false
set_option linter.unusedVariables false
namespace Go.Proofs.Ytadmmlflngkpiaa
open Go.ChangeShapes Go.WideShapes Go.ChangeAt Go.RowKit Go.Deep

def InstsF (p : Pgm) : List In × Bool := if progBase p && p.parts.all (partOk p.arrays) then (instsF p, decide ((instsF p).length ≤ 120)) else ([], false)
theorem InstsF_2 (p : Pgm) : (InstsF p).2 = progOk p := by
  unfold InstsF progOk
  cases progBase p <;> cases p.parts.all (partOk p.arrays) <;> simp
theorem InstsF_n1 {p : Pgm} (h : arrsOk p.arrays = false) : InstsF p = ([], false) := by simp [InstsF, progBase, h]
theorem InstsF_n2 {p : Pgm} (h : ¬ p.parts.length ≤ 4) : InstsF p = ([], false) := by simp [InstsF, progBase, h]
theorem InstsF_n3 {p : Pgm} (h : p.parts.all (partOk p.arrays) = false) : InstsF p = ([], false) := by simp only [InstsF, h, Bool.and_false]; rfl
theorem InstsF_y {p : Pgm} (h : arrsOk p.arrays = true) (h2 : p.parts.length ≤ 4) (h3 : p.parts.all (partOk p.arrays) = true) : InstsF p = (instsF p, decide ((instsF p).length ≤ 120)) := by simp only [InstsF, progBase, h, decide_eq_true h2, h3, Bool.and_true]; rfl
theorem partOk_n1 {xs : List Ar} {x : Prt} (h : (NestPointsF x.nest).2 = false) : partOk xs x = false := by rw [partOk, h, Bool.false_and]
theorem partOk_n2 {xs : List Ar} {x : Prt} (h : inB (x.body.length : Int) 1 4 = false) : partOk xs x = false := by rw [partOk, bodyOk, h, Bool.false_and, Bool.false_and, Bool.and_false]
theorem partOk_n3 {xs : List Ar} {x : Prt} (h : x.body.all (stmOk x) = false) : partOk xs x = false := by rw [partOk, bodyOk, h, Bool.and_false, Bool.false_and, Bool.and_false]
theorem partOk_n4 {xs : List Ar} {x : Prt} (h : (ptsOf x).all (ptFine xs x) = false) : partOk xs x = false := by rw [partOk, h, Bool.and_false, Bool.and_false]
theorem partOk_y {xs : List Ar} {x : Prt} (h : (NestPointsF x.nest).2 = true) (h2 : inB (x.body.length : Int) 1 4 = true) (h3 : x.body.all (stmOk x) = true) (h4 : (ptsOf x).all (ptFine xs x) = true) : partOk xs x = true := by rw [partOk, bodyOk, h, h2, h3, h4]; rfl
theorem anyNot {α : Type} (p : α → Bool) (l : List α) : l.any (fun y => !p y) = !l.all p := by
  induction l with
  | nil => rfl
  | cons x l ih => rw [List.any_cons, List.all_cons, ih, Bool.not_and]

/-- the call answers new instances and a truth value -/
def MadeInsB (w : World) (r : List In × Bool) (e : Ending) (w' : World) : Prop :=
  ∃ A n c bs, e = .returned (.tuple #[.slice A n c, .bool r.2]) ∧ Rep w' (sls In.d r.1) [.slice A n c] bs ∧ bs.Nodup ∧ (∀ b ∈ bs, w.heap.size ≤ b) ∧ Below w.heap.size w w'
theorem MadeInsB.of_grow {w w' : World} {e : TypeId} {v : Value} {r : List In × Bool} {B : Nat} (h : Grow w' B e 3 v (r.1.map In.d)) (hB : w.heap.size ≤ B) (hb : Below w.heap.size w w') : MadeInsB w r (.returned (.tuple #[v, .bool r.2])) w' := by
  obtain ⟨A, c, bs, rfl, h1, h2, h3⟩ := h.rep
  rw [List.length_map] at h1 ⊢
  exact ⟨A, _, c, bs, rfl, h1, h2, fun b hb' => Nat.le_trans hB (h3 b hb'), hb⟩
end Go.Proofs.Ytadmmlflngkpiaa

/- The cells that a statement reads and writes: l4Cells of the reference. -/
namespace Go.Proofs.Ytadmmlflngkpiaa
open Go.ChangeShapes Go.WideShapes Go.ChangeAt Go.RowKit Go.Deep

/-- the call answers new cells, a cell and a truth value -/
def MadeCells (w : World) (r : List Int × Int × Bool) (e : Ending) (w' : World) : Prop :=
  ∃ A n c bs, e = .returned (.tuple #[.slice A n c, .int .i64 r.2.1, .bool r.2.2]) ∧ Rep w' (ints r.1) [.slice A n c] bs ∧ bs.Nodup ∧ (∀ b ∈ bs, w.heap.size ≤ b) ∧ Below w.heap.size w w'
theorem MadeCells.of_grow {w w' : World} {e : TypeId} {v : Value} {r : List Int × Int × Bool} {B : Nat} (h : Grow w' B e 1 v (r.1.map D.int)) (hB : w.heap.size ≤ B) (hb : Below w.heap.size w w') : MadeCells w r (.returned (.tuple #[v, .int .i64 r.2.1, .bool r.2.2])) w' := by
  obtain ⟨A, c, bs, rfl, h1, h2, h3, _⟩ := h.ints
  exact ⟨A, _, c, bs, rfl, h1, h2, fun b hb' => Nat.le_trans hB (h3 b hb'), hb⟩
theorem CellsF_bad {xs : List Ar} {q : List Int} {s : Stm} (h : (readsF s.value).any (cellBad xs q) = true) : CellsF xs q s = ([], 0, false) := by
  have : fineS xs q s = false := by
    show (decide (0 ≤ cellF xs s.write q) && !(readsF s.value).any (cellBad xs q)) = false
    rw [h]; simp
  simp [CellsF, this]
theorem CellsF_low {xs : List Ar} {q : List Int} {s : Stm} (h : cellF xs s.write q < 0) : CellsF xs q s = ([], 0, false) := by
  have : fineS xs q s = false := by
    show (decide (0 ≤ cellF xs s.write q) && !(readsF s.value).any (cellBad xs q)) = false
    rw [decide_eq_false (by omega)]; rfl
  simp [CellsF, this]
theorem CellsF_ok {xs : List Ar} {q : List Int} {s : Stm} (h : (readsF s.value).any (cellBad xs q) = false) (h2 : ¬ cellF xs s.write q < 0) : CellsF xs q s = (rdF xs q s, wrF xs q s, true) := by
  have : fineS xs q s = true := by
    show (decide (0 ≤ cellF xs s.write q) && !(readsF s.value).any (cellBad xs q)) = true
    rw [h, decide_eq_true (by omega)]; rfl
  simp [CellsF, this]
/-- an empty slice made before the last block -/
theorem grow_two {w w1 : World} {o o2 : Obj} {e : TypeId} {size : Nat} (h : Below (w.heap.size + 2) (((w.alloc o).alloc (.cells #[] e)).alloc o2) w1) : Grow w1 (w.heap.size + 1) e size (.slice (some ⟨w.heap.size + 1, 0, none⟩) 0 0) [] := by
  refine Grow.below (w := (w.alloc o).alloc (.cells #[] e)) (Grow.madeE _ _ (by simp) (by simp)) ?_
  refine Below.trans ((Below.refl _ _).alloc (by simp) o2) ?_
  simpa using h

end Go.Proofs.Ytadmmlflngkpiaa

/- Which lists of arrays are valid: l4Arrays of the reference. -/
namespace Go.Proofs.Ytadmmlflngkpiaa
open Go.ChangeShapes Go.WideShapes Go.ChangeAt Go.RowKit Go.Deep

section
variable {w : World} {bs : List Nat}
end
end Go.Proofs.Ytadmmlflngkpiaa

/- Which parts are valid: l4Part of the reference; ProgramValid of the reference. -/
namespace Go.Proofs.Ytadmmlflngkpiaa
open Go.ChangeShapes Go.WideShapes Go.ChangeAt Go.RowKit Go.Deep

/-- how many instances a part has, 0 if it is not valid -/
def partN (xs : List Ar) (x : Prt) : Int := if partOk xs x = true then ((ptsOf x).length : Int) * (x.body.length : Int) else 0
theorem partOk_1 {xs : List Ar} {x : Prt} (h : (NestPointsF x.nest).2 = false) : partOk xs x = false := by rw [partOk_eq, h, Bool.false_and]
theorem partOk_2 {xs : List Ar} {x : Prt} (h : inB (x.body.length : Int) 1 4 = false) : partOk xs x = false := by rw [partOk_eq, h, Bool.false_and, Bool.and_false]
theorem partOk_3 {xs : List Ar} {x : Prt} (h : x.body.all (stmPts xs x) = false) : partOk xs x = false := by rw [partOk_eq, h, Bool.and_false, Bool.and_false]
theorem partOk_4 {xs : List Ar} {x : Prt} (h : (NestPointsF x.nest).2 = true) (h2 : inB (x.body.length : Int) 1 4 = true) (h3 : x.body.all (stmPts xs x) = true) : partOk xs x = true := by rw [partOk_eq, h, h2, h3]; rfl
theorem partN_no {xs : List Ar} {x : Prt} (h : partOk xs x = false) : partN xs x = 0 := by rw [partN, if_neg (by rw [h]; simp)]
theorem partN_yes {xs : List Ar} {x : Prt} (h : partOk xs x = true) : partN xs x = ((ptsOf x).length : Int) * (x.body.length : Int) := by rw [partN, if_pos h]
def ptSt (xs : List Ar) (s : Stm) (q : List Int) : Bool := fineS xs q s && ptOk q
theorem ret_two {a b : Int} {p q : Bool} (h : a = b) (h2 : p = q) : (Ending.returned (.tuple #[.int .i64 a, .bool p]) : Ending) = .returned (.tuple #[.int .i64 b, .bool q]) := by rw [h, h2]

end Go.Proofs.Ytadmmlflngkpiaa

/- ProgramValid of the reference. -/
namespace Go.Proofs.Ytadmmlflngkpiaa
open Go.ChangeShapes Go.WideShapes Go.ChangeAt Go.RowKit Go.Deep

theorem progOk_1 {p : Pgm} (h : arrsOk p.arrays = false) : progOk p = false := by rw [progOk, progBase, h, Bool.false_and, Bool.false_and]
theorem progOk_2 {p : Pgm} (h : ¬ p.parts.length ≤ 4) : progOk p = false := by rw [progOk, progBase, decide_eq_false h, Bool.and_false, Bool.false_and]
theorem progOk_3 {p : Pgm} (h : p.parts.all (partOk p.arrays) = false) : progOk p = false := by rw [progOk, h, Bool.false_and, Bool.and_false]
theorem progOk_4 {p : Pgm} (h : arrsOk p.arrays = true) (h2 : p.parts.length ≤ 4) (h3 : p.parts.all (partOk p.arrays) = true) : progOk p = decide ((instsF p).length ≤ 120) := by rw [progOk, progBase, h, decide_eq_true h2, h3]; rfl
theorem partN_nat {xs : List Ar} {x : Prt} (h : partOk xs x = true) : ∃ n : Nat, n = (ptsOf x).length * x.body.length ∧ n ≤ 480 ∧ partN xs x = (n : Int) :=
  ⟨_, rfl, part_len h, by rw [partN_yes h]; simp⟩

end Go.Proofs.Ytadmmlflngkpiaa

/- ProgramValid of the program. -/
namespace Go.Proofs.Ytadmmlflngkpiaa
open Go.ChangeShapes Go.WideShapes Go.ChangeAt Go.RowKit Go.Deep

end Go.Proofs.Ytadmmlflngkpiaa

/- Cells of programs, on both sides: how many there are, the cell of an access, which memories are valid. -/
namespace Go.Proofs.Ytadmmlflngkpiaa
open Go.ChangeShapes Go.WideShapes Go.ChangeAt Go.RowKit Go.Deep

theorem progOk_arr {p : Pgm} (h : progOk p = true) : arrsOk p.arrays = true := by
  simp only [progOk, progBase, Bool.and_eq_true] at h
  exact h.1.1
def CountCellsF (p : Pgm) : Int := if progOk p then cellsF p.arrays else 0
theorem CountCellsF_n {p : Pgm} (h : progOk p = false) : CountCellsF p = 0 := by rw [CountCellsF, if_neg (by rw [h]; simp)]
theorem CountCellsF_y {p : Pgm} (h : progOk p = true) : CountCellsF p = cellsF p.arrays := by rw [CountCellsF, if_pos h]




def CellOfF (p : Pgm) (a : Acc) (q : List Int) : Int := if progOk p && (accOk a 4 && ptOk q) then cellF p.arrays a q else -1
theorem CellOfF_n1 {p : Pgm} {a : Acc} {q : List Int} (h : progOk p = false) : CellOfF p a q = -1 := by simp [CellOfF, h]
theorem CellOfF_n2 {p : Pgm} {a : Acc} {q : List Int} (h : accOk a 4 = false) : CellOfF p a q = -1 := by simp [CellOfF, h]
theorem CellOfF_n3 {p : Pgm} {a : Acc} {q : List Int} (h : ptOk q = false) : CellOfF p a q = -1 := by simp [CellOfF, h]
theorem CellOfF_y {p : Pgm} {a : Acc} {q : List Int} (h : progOk p = true) (h2 : accOk a 4 = true) (h3 : ptOk q = true) : CellOfF p a q = cellF p.arrays a q := by simp [CellOfF, h, h2, h3]


def memBad (x : Int) : Bool := !inB x 0 999
def MemoryValidF (p : Pgm) (m : List Int) : Bool := progOk p && (decide ((m.length : Int) = cellsF p.arrays) && !m.any memBad)
theorem memBad_lo {x : Int} (h : x < 0) : memBad x = true := by simp [memBad, inB, show ¬ 0 ≤ x by omega]
theorem memBad_hi {x : Int} (h : 999 < x) : memBad x = true := by simp [memBad, inB, show ¬ x ≤ 999 by omega]
theorem memBad_ok {x : Int} (h : ¬ x < 0) (h2 : ¬ 999 < x) : memBad x = false := by simp [memBad, inB, show 0 ≤ x by omega, show x ≤ 999 by omega]
theorem mem_drop (l : List Int) (k : Nat) (h : k < l.length) : (l.drop k).any memBad = (memBad (gi l k) || (l.drop (k + 1)).any memBad) := by
  rw [← List.getElem_cons_drop h, List.any_cons, gi_eq h]


end Go.Proofs.Ytadmmlflngkpiaa

/- The statement of an instance, the cells that it touches: stmt, touched of the program. -/
namespace Go.Proofs.Ytadmmlflngkpiaa
open Go.ChangeShapes Go.WideShapes Go.ChangeAt Go.RowKit Go.Deep

theorem still_tail_drew {P : Program} {id : Nat} {Q : Exit → Act → World → Prop} {a : Act} {w : World} {l : List Oper} (n : Nat) (hm : P.follows .mixedOrders = true) (hB : Region.lexTailB .any l.toArray n = true)
    (h : wpStill P l.toArray w.drew (fun a' => wpList P l.toArray Q (l.drop n) a' w.drew) (l.take n) a) : (Code.region id l.toArray true).wp P Q a w := wp_region_still_tail n hm hB h
/-- the call answers new cells and a cell -/
def MadeUse (w : World) (u : Us) (e : Ending) (w' : World) : Prop :=
  ∃ A c bs, e = .returned (.tuple #[.slice A u.reads.length c, .int .i64 u.write]) ∧ Rep w' (ints u.reads) [.slice A u.reads.length c] bs ∧ bs.Nodup ∧ (∀ b ∈ bs, w.heap.size ≤ b) ∧ Below w.heap.size w w'
theorem rdF_eq (xs : List Ar) (q : List Int) (s : Stm) : rdF xs q s = (readsF s.value).map (fun a => cellF xs a q) := rfl

end Go.Proofs.Ytadmmlflngkpiaa
