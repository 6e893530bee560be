/- Cells of programs, on both sides: how many there are, the cell of an access, which memories are valid. -/
import Derived.Test.YtimocdpfnncnlaaGreatPgValid
set_option linter.all false
set_option linter.unusedSimpArgs false
set_option linter.unusedVariables false
namespace Go.Proofs.YtimocdpfnncnlaaGreat
open Go.ChangeShapes Go.WideShapes Go.ChangeAt Go.RowKit Go.Deep

theorem progOk_arr {p : Pgm} (h : progOk p = true) : arrsOk p.arrays = true := by
  simp only [progOk, progBase, Bool.and_eq_true] at h
  exact h.1.1
def CountCellsF (p : Pgm) : Int := if progOk p then cellsF p.arrays else 0
theorem CountCellsF_n {p : Pgm} (h : progOk p = false) : CountCellsF p = 0 := by rw [CountCellsF, if_neg (by rw [h]; simp)]
theorem CountCellsF_y {p : Pgm} (h : progOk p = true) : CountCellsF p = cellsF p.arrays := by rw [CountCellsF, if_pos h]




def CellOfF (p : Pgm) (a : Acc) (q : List Int) : Int := if progOk p && (accOk a 4 && ptOk q) then cellF p.arrays a q else -1
theorem CellOfF_n1 {p : Pgm} {a : Acc} {q : List Int} (h : progOk p = false) : CellOfF p a q = -1 := by simp [CellOfF, h]
theorem CellOfF_n2 {p : Pgm} {a : Acc} {q : List Int} (h : accOk a 4 = false) : CellOfF p a q = -1 := by simp [CellOfF, h]
theorem CellOfF_n3 {p : Pgm} {a : Acc} {q : List Int} (h : ptOk q = false) : CellOfF p a q = -1 := by simp [CellOfF, h]
theorem CellOfF_y {p : Pgm} {a : Acc} {q : List Int} (h : progOk p = true) (h2 : accOk a 4 = true) (h3 : ptOk q = true) : CellOfF p a q = cellF p.arrays a q := by simp [CellOfF, h, h2, h3]


def memBad (x : Int) : Bool := !inB x 0 999
def MemoryValidF (p : Pgm) (m : List Int) : Bool := progOk p && (decide ((m.length : Int) = cellsF p.arrays) && !m.any memBad)
theorem memBad_lo {x : Int} (h : x < 0) : memBad x = true := by simp [memBad, inB, show ¬ 0 ≤ x by omega]
theorem memBad_hi {x : Int} (h : 999 < x) : memBad x = true := by simp [memBad, inB, show ¬ x ≤ 999 by omega]
theorem memBad_ok {x : Int} (h : ¬ x < 0) (h2 : ¬ 999 < x) : memBad x = false := by simp [memBad, inB, show 0 ≤ x by omega, show x ≤ 999 by omega]
theorem mem_drop (l : List Int) (k : Nat) (h : k < l.length) : (l.drop k).any memBad = (memBad (gi l k) || (l.drop (k + 1)).any memBad) := by
  rw [← List.getElem_cons_drop h, List.any_cons, gi_eq h]


end Go.Proofs.YtimocdpfnncnlaaGreat
