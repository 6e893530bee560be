/- Texts of this seat, joined: Insts, CellsS, ArrsS, PartS, PgValidS, PgValid, Total, Touch, MarkS. -/
import Derived.Test.YtadmmlflngkpiaaStmtOk
import Derived.Test.YtadmmlflngkpiaaNestPointsI
import Derived.Test.YtadmmlflngkpiaaTyInstance
import Derived.Test.YtadmmlflngkpiaaSqStmt
import Derived.Test.YtadmmlflngkpiaaReadsS
import Derived.Test.YtadmmlflngkpiaaArrs
import Derived.Test.YtadmmlflngkpiaaInOk
import Derived.StillTailTactics
import Derived.Test.YtadmmlflngkpiaaTyStmt
import Derived.Test.YtadmmlflngkpiaaUni
/- The instances of a program: instances of the program. -/
set_option linter.all false
set_option linter.unusedSimpArgs false
set_option linter.unusedVariables false
namespace Go.Proofs.Ytadmmlflngkpiaa
open Go.ChangeShapes Go.WideShapes Go.ChangeAt Go.RowKit Go.Deep

def InstsF (p : Pgm) : List In × Bool := if progBase p && p.parts.all (partOk p.arrays) then (instsF p, decide ((instsF p).length ≤ 120)) else ([], false)
theorem InstsF_2 (p : Pgm) : (InstsF p).2 = progOk p := by
  unfold InstsF progOk
  cases progBase p <;> cases p.parts.all (partOk p.arrays) <;> simp
theorem InstsF_n1 {p : Pgm} (h : arrsOk p.arrays = false) : InstsF p = ([], false) := by simp [InstsF, progBase, h]
theorem InstsF_n2 {p : Pgm} (h : ¬ p.parts.length ≤ 4) : InstsF p = ([], false) := by simp [InstsF, progBase, h]
theorem InstsF_n3 {p : Pgm} (h : p.parts.all (partOk p.arrays) = false) : InstsF p = ([], false) := by simp only [InstsF, h, Bool.and_false]; rfl
theorem InstsF_y {p : Pgm} (h : arrsOk p.arrays = true) (h2 : p.parts.length ≤ 4) (h3 : p.parts.all (partOk p.arrays) = true) : InstsF p = (instsF p, decide ((instsF p).length ≤ 120)) := by simp only [InstsF, progBase, h, decide_eq_true h2, h3, Bool.and_true]; rfl
theorem partOk_n1 {xs : List Ar} {x : Prt} (h : (NestPointsF x.nest).2 = false) : partOk xs x = false := by rw [partOk, h, Bool.false_and]
theorem partOk_n2 {xs : List Ar} {x : Prt} (h : inB (x.body.length : Int) 1 4 = false) : partOk xs x = false := by rw [partOk, bodyOk, h, Bool.false_and, Bool.false_and, Bool.and_false]
theorem partOk_n3 {xs : List Ar} {x : Prt} (h : x.body.all (stmOk x) = false) : partOk xs x = false := by rw [partOk, bodyOk, h, Bool.and_false, Bool.false_and, Bool.and_false]
theorem partOk_n4 {xs : List Ar} {x : Prt} (h : (ptsOf x).all (ptFine xs x) = false) : partOk xs x = false := by rw [partOk, h, Bool.and_false, Bool.and_false]
theorem partOk_y {xs : List Ar} {x : Prt} (h : (NestPointsF x.nest).2 = true) (h2 : inB (x.body.length : Int) 1 4 = true) (h3 : x.body.all (stmOk x) = true) (h4 : (ptsOf x).all (ptFine xs x) = true) : partOk xs x = true := by rw [partOk, bodyOk, h, h2, h3, h4]; rfl
theorem anyNot {α : Type} (p : α → Bool) (l : List α) : l.any (fun y => !p y) = !l.all p := by
  induction l with
  | nil => rfl
  | cons x l ih => rw [List.any_cons, List.all_cons, ih, Bool.not_and]

/-- the call answers new instances and a truth value -/
def MadeInsB (w : World) (r : List In × Bool) (e : Ending) (w' : World) : Prop :=
  ∃ A n c bs, e = .returned (.tuple #[.slice A n c, .bool r.2]) ∧ Rep w' (sls In.d r.1) [.slice A n c] bs ∧ bs.Nodup ∧ (∀ b ∈ bs, w.heap.size ≤ b) ∧ Below w.heap.size w w'
theorem MadeInsB.of_grow {w w' : World} {e : TypeId} {v : Value} {r : List In × Bool} {B : Nat} (h : Grow w' B e 3 v (r.1.map In.d)) (hB : w.heap.size ≤ B) (hb : Below w.heap.size w w') : MadeInsB w r (.returned (.tuple #[v, .bool r.2])) w' := by
  obtain ⟨A, c, bs, rfl, h1, h2, h3⟩ := h.rep
  rw [List.length_map] at h1 ⊢
  exact ⟨A, _, c, bs, rfl, h1, h2, fun b hb' => Nat.le_trans hB (h3 b hb'), hb⟩
end Go.Proofs.Ytadmmlflngkpiaa

/- The cells that a statement reads and writes: l4Cells of the reference. -/
namespace Go.Proofs.Ytadmmlflngkpiaa
open Go.ChangeShapes Go.WideShapes Go.ChangeAt Go.RowKit Go.Deep

/-- the call answers new cells, a cell and a truth value -/
def MadeCells (w : World) (r : List Int × Int × Bool) (e : Ending) (w' : World) : Prop :=
  ∃ A n c bs, e = .returned (.tuple #[.slice A n c, .int .i64 r.2.1, .bool r.2.2]) ∧ Rep w' (ints r.1) [.slice A n c] bs ∧ bs.Nodup ∧ (∀ b ∈ bs, w.heap.size ≤ b) ∧ Below w.heap.size w w'
theorem MadeCells.of_grow {w w' : World} {e : TypeId} {v : Value} {r : List Int × Int × Bool} {B : Nat} (h : Grow w' B e 1 v (r.1.map D.int)) (hB : w.heap.size ≤ B) (hb : Below w.heap.size w w') : MadeCells w r (.returned (.tuple #[v, .int .i64 r.2.1, .bool r.2.2])) w' := by
  obtain ⟨A, c, bs, rfl, h1, h2, h3, _⟩ := h.ints
  exact ⟨A, _, c, bs, rfl, h1, h2, fun b hb' => Nat.le_trans hB (h3 b hb'), hb⟩
theorem CellsF_bad {xs : List Ar} {q : List Int} {s : Stm} (h : (readsF s.value).any (cellBad xs q) = true) : CellsF xs q s = ([], 0, false) := by
  have : fineS xs q s = false := by
    show (decide (0 ≤ cellF xs s.write q) && !(readsF s.value).any (cellBad xs q)) = false
    rw [h]; simp
  simp [CellsF, this]
theorem CellsF_low {xs : List Ar} {q : List Int} {s : Stm} (h : cellF xs s.write q < 0) : CellsF xs q s = ([], 0, false) := by
  have : fineS xs q s = false := by
    show (decide (0 ≤ cellF xs s.write q) && !(readsF s.value).any (cellBad xs q)) = false
    rw [decide_eq_false (by omega)]; rfl
  simp [CellsF, this]
theorem CellsF_ok {xs : List Ar} {q : List Int} {s : Stm} (h : (readsF s.value).any (cellBad xs q) = false) (h2 : ¬ cellF xs s.write q < 0) : CellsF xs q s = (rdF xs q s, wrF xs q s, true) := by
  have : fineS xs q s = true := by
    show (decide (0 ≤ cellF xs s.write q) && !(readsF s.value).any (cellBad xs q)) = true
    rw [h, decide_eq_true (by omega)]; rfl
  simp [CellsF, this]
/-- an empty slice made before the last block -/
theorem grow_two {w w1 : World} {o o2 : Obj} {e : TypeId} {size : Nat} (h : Below (w.heap.size + 2) (((w.alloc o).alloc (.cells #[] e)).alloc o2) w1) : Grow w1 (w.heap.size + 1) e size (.slice (some ⟨w.heap.size + 1, 0, none⟩) 0 0) [] := by
  refine Grow.below (w := (w.alloc o).alloc (.cells #[] e)) (Grow.madeE _ _ (by simp) (by simp)) ?_
  refine Below.trans ((Below.refl _ _).alloc (by simp) o2) ?_
  simpa using h

end Go.Proofs.Ytadmmlflngkpiaa

/- Which lists of arrays are valid: l4Arrays of the reference. -/
namespace Go.Proofs.Ytadmmlflngkpiaa
open Go.ChangeShapes Go.WideShapes Go.ChangeAt Go.RowKit Go.Deep

section
variable {w : World} {bs : List Nat}
end
end Go.Proofs.Ytadmmlflngkpiaa

/- Which parts are valid: l4Part of the reference; ProgramValid of the reference. -/
namespace Go.Proofs.Ytadmmlflngkpiaa
open Go.ChangeShapes Go.WideShapes Go.ChangeAt Go.RowKit Go.Deep

/-- how many instances a part has, 0 if it is not valid -/
def partN (xs : List Ar) (x : Prt) : Int := if partOk xs x = true then ((ptsOf x).length : Int) * (x.body.length : Int) else 0
theorem partOk_1 {xs : List Ar} {x : Prt} (h : (NestPointsF x.nest).2 = false) : partOk xs x = false := by rw [partOk_eq, h, Bool.false_and]
theorem partOk_2 {xs : List Ar} {x : Prt} (h : inB (x.body.length : Int) 1 4 = false) : partOk xs x = false := by rw [partOk_eq, h, Bool.false_and, Bool.and_false]
theorem partOk_3 {xs : List Ar} {x : Prt} (h : x.body.all (stmPts xs x) = false) : partOk xs x = false := by rw [partOk_eq, h, Bool.and_false, Bool.and_false]
theorem partOk_4 {xs : List Ar} {x : Prt} (h : (NestPointsF x.nest).2 = true) (h2 : inB (x.body.length : Int) 1 4 = true) (h3 : x.body.all (stmPts xs x) = true) : partOk xs x = true := by rw [partOk_eq, h, h2, h3]; rfl
theorem partN_no {xs : List Ar} {x : Prt} (h : partOk xs x = false) : partN xs x = 0 := by rw [partN, if_neg (by rw [h]; simp)]
theorem partN_yes {xs : List Ar} {x : Prt} (h : partOk xs x = true) : partN xs x = ((ptsOf x).length : Int) * (x.body.length : Int) := by rw [partN, if_pos h]
def ptSt (xs : List Ar) (s : Stm) (q : List Int) : Bool := fineS xs q s && ptOk q
theorem ret_two {a b : Int} {p q : Bool} (h : a = b) (h2 : p = q) : (Ending.returned (.tuple #[.int .i64 a, .bool p]) : Ending) = .returned (.tuple #[.int .i64 b, .bool q]) := by rw [h, h2]

end Go.Proofs.Ytadmmlflngkpiaa

/- ProgramValid of the reference. -/
namespace Go.Proofs.Ytadmmlflngkpiaa
open Go.ChangeShapes Go.WideShapes Go.ChangeAt Go.RowKit Go.Deep

theorem progOk_1 {p : Pgm} (h : arrsOk p.arrays = false) : progOk p = false := by rw [progOk, progBase, h, Bool.false_and, Bool.false_and]
theorem progOk_2 {p : Pgm} (h : ¬ p.parts.length ≤ 4) : progOk p = false := by rw [progOk, progBase, decide_eq_false h, Bool.and_false, Bool.false_and]
theorem progOk_3 {p : Pgm} (h : p.parts.all (partOk p.arrays) = false) : progOk p = false := by rw [progOk, h, Bool.false_and, Bool.and_false]
theorem progOk_4 {p : Pgm} (h : arrsOk p.arrays = true) (h2 : p.parts.length ≤ 4) (h3 : p.parts.all (partOk p.arrays) = true) : progOk p = decide ((instsF p).length ≤ 120) := by rw [progOk, progBase, h, decide_eq_true h2, h3]; rfl
theorem partN_nat {xs : List Ar} {x : Prt} (h : partOk xs x = true) : ∃ n : Nat, n = (ptsOf x).length * x.body.length ∧ n ≤ 480 ∧ partN xs x = (n : Int) :=
  ⟨_, rfl, part_len h, by rw [partN_yes h]; simp⟩

end Go.Proofs.Ytadmmlflngkpiaa

/- ProgramValid of the program. -/
namespace Go.Proofs.Ytadmmlflngkpiaa
open Go.ChangeShapes Go.WideShapes Go.ChangeAt Go.RowKit Go.Deep

end Go.Proofs.Ytadmmlflngkpiaa

/- Cells of programs, on both sides: how many there are, the cell of an access, which memories are valid. -/
namespace Go.Proofs.Ytadmmlflngkpiaa
open Go.ChangeShapes Go.WideShapes Go.ChangeAt Go.RowKit Go.Deep

theorem progOk_arr {p : Pgm} (h : progOk p = true) : arrsOk p.arrays = true := by
  simp only [progOk, progBase, Bool.and_eq_true] at h
  exact h.1.1
def CountCellsF (p : Pgm) : Int := if progOk p then cellsF p.arrays else 0
theorem CountCellsF_n {p : Pgm} (h : progOk p = false) : CountCellsF p = 0 := by rw [CountCellsF, if_neg (by rw [h]; simp)]
theorem CountCellsF_y {p : Pgm} (h : progOk p = true) : CountCellsF p = cellsF p.arrays := by rw [CountCellsF, if_pos h]




def CellOfF (p : Pgm) (a : Acc) (q : List Int) : Int := if progOk p && (accOk a 4 && ptOk q) then cellF p.arrays a q else -1
theorem CellOfF_n1 {p : Pgm} {a : Acc} {q : List Int} (h : progOk p = false) : CellOfF p a q = -1 := by simp [CellOfF, h]
theorem CellOfF_n2 {p : Pgm} {a : Acc} {q : List Int} (h : accOk a 4 = false) : CellOfF p a q = -1 := by simp [CellOfF, h]
theorem CellOfF_n3 {p : Pgm} {a : Acc} {q : List Int} (h : ptOk q = false) : CellOfF p a q = -1 := by simp [CellOfF, h]
theorem CellOfF_y {p : Pgm} {a : Acc} {q : List Int} (h : progOk p = true) (h2 : accOk a 4 = true) (h3 : ptOk q = true) : CellOfF p a q = cellF p.arrays a q := by simp [CellOfF, h, h2, h3]


def memBad (x : Int) : Bool := !inB x 0 999
def MemoryValidF (p : Pgm) (m : List Int) : Bool := progOk p && (decide ((m.length : Int) = cellsF p.arrays) && !m.any memBad)
theorem memBad_lo {x : Int} (h : x < 0) : memBad x = true := by simp [memBad, inB, show ¬ 0 ≤ x by omega]
theorem memBad_hi {x : Int} (h : 999 < x) : memBad x = true := by simp [memBad, inB, show ¬ x ≤ 999 by omega]
theorem memBad_ok {x : Int} (h : ¬ x < 0) (h2 : ¬ 999 < x) : memBad x = false := by simp [memBad, inB, show 0 ≤ x by omega, show x ≤ 999 by omega]
theorem mem_drop (l : List Int) (k : Nat) (h : k < l.length) : (l.drop k).any memBad = (memBad (gi l k) || (l.drop (k + 1)).any memBad) := by
  rw [← List.getElem_cons_drop h, List.any_cons, gi_eq h]


end Go.Proofs.Ytadmmlflngkpiaa

/- The statement of an instance, the cells that it touches: stmt, touched of the program. -/
namespace Go.Proofs.Ytadmmlflngkpiaa
open Go.ChangeShapes Go.WideShapes Go.ChangeAt Go.RowKit Go.Deep

theorem still_tail_drew {P : Program} {id : Nat} {Q : Exit → Act → World → Prop} {a : Act} {w : World} {l : List Oper} (n : Nat) (hm : P.follows .mixedOrders = true) (hB : Region.lexTailB .any l.toArray n = true)
    (h : wpStill P l.toArray w.drew (fun a' => wpList P l.toArray Q (l.drop n) a' w.drew) (l.take n) a) : (Code.region id l.toArray true).wp P Q a w := wp_region_still_tail n hm hB h
/-- the call answers new cells and a cell -/
def MadeUse (w : World) (u : Us) (e : Ending) (w' : World) : Prop :=
  ∃ A c bs, e = .returned (.tuple #[.slice A u.reads.length c, .int .i64 u.write]) ∧ Rep w' (ints u.reads) [.slice A u.reads.length c] bs ∧ bs.Nodup ∧ (∀ b ∈ bs, w.heap.size ≤ b) ∧ Below w.heap.size w w'
theorem rdF_eq (xs : List Ar) (q : List Int) (s : Stm) : rdF xs q s = (readsF s.value).map (fun a => cellF xs a q) := rfl

end Go.Proofs.Ytadmmlflngkpiaa

/- Marks on one access, one expression, one statement: the law package's functions. -/
namespace Go.Proofs.Ytadmmlflngkpiaa
open Go.ChangeShapes Go.WideShapes Go.ChangeAt Go.RowKit Go.Deep

theorem Touch.box9 {bs : List Nat} {a b : World} (h : Touch bs a b) {g : Nat} {u0 u1 u2 u3 u4 u5 u6 u7 u8 : Value} (k : Box9 a g u0 u1 u2 u3 u4 u5 u6 u7 u8) (hn : g ∉ bs) : Box9 b g u0 u1 u2 u3 u4 u5 u6 u7 u8 := k.touch h hn
def Acc.cntM (x : Acc) : Nat := cntL Aff.cntE x.subs
def Acc.mkM (q : Int) (x : Acc) : Acc := ⟨x.arr, mkL Aff.mkE Aff.cntE q x.subs⟩
def Ex.cntM (x : Ex) : Nat := x.index.coefs.length + (x.read.cntM + cntL Ex.cntE x.kids)
def Ex.mkM (q : Int) (x : Ex) : Ex := ⟨x.kind, x.num, ⟨seqI q x.index.coefs.length, x.index.const⟩, x.read.mkM (q + ((x.index.coefs.length : Nat) : Int)), mkL Ex.mkE Ex.cntE (q + ((x.index.coefs.length : Nat) : Int) + ((x.read.cntM : Nat) : Int)) x.kids⟩
def Stm.cntM (x : Stm) : Nat := x.write.cntM + x.value.cntM
def Stm.mkM (q : Int) (x : Stm) : Stm := ⟨x.write.mkM q, x.value.mkM (q + ((x.write.cntM : Nat) : Int))⟩
theorem Acc.cntM_le (x : Acc) : x.cntM ≤ 8 * szD x.d := by
  have := Aff.cnts_le x.subs
  rw [szD_acc]; unfold Acc.cntM; omega
theorem Ex.cntM_le (x : Ex) : x.cntM ≤ 8 * szD x.d := by
  have h1 := x.read.cntM_le
  have h2 := Ex.cnts_le x.kids
  rw [szD_ex, szD_aff]; unfold Ex.cntM; omega
theorem Stm.cntM_le (x : Stm) : x.cntM ≤ 8 * szD x.d := by
  have h1 := x.write.cntM_le
  have h2 := x.value.cntM_le
  rw [szD_stm]; unfold Stm.cntM; omega
theorem Acc.mkM_rep {w : World} {x : Acc} {q : Int} {A : Option Addr} {c : Nat} {bs : List Nat} (h1 : x.arr.size ≤ maxLen) (h : Rep w (sls Aff.d (mkL Aff.mkE Aff.cntE q x.subs)) [.slice A x.subs.length c] bs) : Rep w (x.mkM q).d [.string x.arr, .slice A x.subs.length c] bs := by
  refine Rep.acc_iff.2 ⟨A, c, bs, ?_, rfl, h1, ?_⟩
  · show _ = [Value.string x.arr, .slice A (mkL Aff.mkE Aff.cntE q x.subs).length c]
    rw [mkL_len]
  · show Rep w (sls Aff.d (mkL Aff.mkE Aff.cntE q x.subs)) [.slice A (mkL Aff.mkE Aff.cntE q x.subs).length c] bs
    rw [mkL_len]; exact h
theorem Acc.mkM_open {w : World} {x : Acc} {q : Int} {cs : List Value} {bs : List Nat} (h : Rep w (x.mkM q).d cs bs) : ∃ A c, cs = [.string x.arr, .slice A x.subs.length c] ∧ Rep w (sls Aff.d (mkL Aff.mkE Aff.cntE q x.subs)) [.slice A x.subs.length c] bs := by
  obtain ⟨A, c, d, e1, rfl, _, g⟩ := Rep.acc_iff.1 h
  rw [show (x.mkM q).subs.length = x.subs.length from mkL_len _ _ _ _] at e1 g
  exact ⟨A, c, e1, g⟩
theorem markAccess_n {w : World} {x : Acc} {cs : List Value} {bs : List Nat} {q : Int} (h : Rep w x.d cs bs) (hnd : bs.Nodup) (h0 : 0 ≤ q) (h1 : q + ((x.cntM : Nat) : Int) ≤ 4611686018427387904) :
    Calls Try.prog 56 #[.agg cs.toArray, .int .i64 q] w fun e w' => e = .returned (.int .i64 (q + ((x.cntM : Nat) : Int))) ∧ Rep w' (x.mkM q).d cs bs ∧ Touch bs w w' := by
  obtain ⟨A2, c2, d2, rfl, rfl, g1, g2⟩ := Rep.acc_iff.1 h
  unfold Acc.cntM at h1 ⊢
  have G1 := Lib.hid g1
  have G2 := Lib.hid g2
  clear h g1 g2
  go_enter Try.func56, Try.ntmps56
  go_wp2_with fail
  refine (markAffineS_n (G2.out.below bel) hnd h0 h1).mono ?_
  rintro e w1 ⟨rfl, r1, t1⟩
  go_wp2
  go_ret
  exact ⟨rfl, Acc.mkM_rep G1.out r1, (Touch.of_below (by exact bel)).trans t1⟩
theorem heldAccess_n {w : World} {x : Acc} {cs : List Value} {bs : List Nat} {q : Int} (h : Rep w (x.mkM q).d cs bs) (h0 : 0 ≤ q) (h1 : q + ((x.cntM : Nat) : Int) ≤ 4611686018427387904) :
    Calls Try.prog 66 #[.agg cs.toArray, .int .i64 q] w fun e w' => e = .returned (.int .i64 (q + ((x.cntM : Nat) : Int))) ∧ Below w.heap.size w w' := by
  obtain ⟨A2, c2, rfl, g2⟩ := Acc.mkM_open h
  unfold Acc.cntM at h1 ⊢
  have G2 := Lib.hid g2
  clear h g2
  obtain ⟨k, hk⟩ : ∃ k, k = cntL Aff.cntE x.subs := ⟨_, rfl⟩
  have HK := Lib.hid hk
  rw [← hk] at h1 ⊢
  clear hk
  go_enter Try.func66, Try.ntmps66
  go_wp2_with fail
  refine (heldAffineS_n (G2.out.below bel) h0 (by rw [← HK.out]; exact h1)).mono ?_
  rintro e w1 ⟨rfl, b1⟩
  rw [← HK.out]
  go_wp2
  go_ret
  exact ⟨rfl, bel⟩
theorem Ex.mkM_rep {w : World} {x : Ex} {q : Int} {A3 A6 A7 : Option Addr} {c3 c6 c7 : Nat} {d3 d6 d7 : List Nat} (hi : I64 x.kind ∧ I64 x.num)
    (h1 : Rep w (Aff.d ⟨seqI q x.index.coefs.length, x.index.const⟩) [.slice A3 x.index.coefs.length c3, .int .i64 x.index.const] d3)
    (h2 : Rep w (x.read.mkM (q + ((x.index.coefs.length : Nat) : Int))).d [.string x.read.arr, .slice A6 x.read.subs.length c6] d6)
    (h3 : Rep w (sls Ex.d (mkL Ex.mkE Ex.cntE (q + ((x.index.coefs.length : Nat) : Int) + ((x.read.cntM : Nat) : Int)) x.kids)) [.slice A7 x.kids.length c7] d7) :
    Rep w (x.mkM q).d [.int .i64 x.kind, .int .i64 x.num, .slice A3 x.index.coefs.length c3, .int .i64 x.index.const, .string x.read.arr, .slice A6 x.read.subs.length c6, .slice A7 x.kids.length c7] (d3 ++ d6 ++ d7) := by
  rw [Ex.d_eq]
  simp only [Rep, Reps]
  exact ⟨[_], _, [], d3 ++ d6 ++ d7, rfl, rfl, ⟨rfl, rfl, hi.1⟩, [_], _, [], d3 ++ d6 ++ d7, rfl, rfl, ⟨rfl, rfl, hi.2⟩, [_, _], _, d3, d6 ++ d7, rfl, by simp, h1, [_, _], _, d6, d7, rfl, rfl, h2, [_], [], d7, [], rfl, by simp, h3, rfl, rfl⟩
theorem Ex.mkM_open {w : World} {x : Ex} {q : Int} {cs : List Value} {bs : List Nat} (h : Rep w (x.mkM q).d cs bs) : ∃ (A3 A6 A7 : Option Addr) (c3 c6 c7 : Nat) (d3 d6 d7 : List Nat), cs = [.int .i64 x.kind, .int .i64 x.num, .slice A3 x.index.coefs.length c3, .int .i64 x.index.const, .string x.read.arr, .slice A6 x.read.subs.length c6, .slice A7 x.kids.length c7] ∧
    Rep w (Aff.d ⟨seqI q x.index.coefs.length, x.index.const⟩) [.slice A3 x.index.coefs.length c3, .int .i64 x.index.const] d3 ∧ Rep w (x.read.mkM (q + ((x.index.coefs.length : Nat) : Int))).d [.string x.read.arr, .slice A6 x.read.subs.length c6] d6 ∧
    Rep w (sls Ex.d (mkL Ex.mkE Ex.cntE (q + ((x.index.coefs.length : Nat) : Int) + ((x.read.cntM : Nat) : Int)) x.kids)) [.slice A7 x.kids.length c7] d7 := by
  obtain ⟨A3, c3, A6, c6, A7, c7, d3, d6, d7, e1, rfl, g1, g2, g3, g4, g5, g6, g7⟩ := Rep.ex_iff.1 h
  have l3 : (x.mkM q).index.coefs.length = x.index.coefs.length := seqI_len _ _
  have l6 : (x.mkM q).read.subs.length = x.read.subs.length := mkL_len _ _ _ _
  have l7 : (x.mkM q).kids.length = x.kids.length := mkL_len _ _ _ _
  rw [l3, l6, l7] at e1
  rw [l3] at g3
  rw [l6] at g6
  rw [l7] at g7
  exact ⟨A3, A6, A7, c3, c6, c7, d3, d6, d7, e1, Rep.aff_iff.2 ⟨_, _, _, rfl, g3, g4⟩, Acc.mkM_rep g5 g6, g7⟩
set_option maxRecDepth 100000 in
set_option maxHeartbeats 2000000 in
theorem markExpr_n {w : World} {x : Ex} {cs : List Value} {bs : List Nat} {q : Int} (h : Rep w x.d cs bs) (hnd : bs.Nodup) (h0 : 0 ≤ q) (h1 : q + ((x.cntM : Nat) : Int) ≤ 4611686018427387904) :
    Calls Try.prog 57 #[.agg cs.toArray, .int .i64 q] w fun e w' => e = .returned (.int .i64 (q + ((x.cntM : Nat) : Int))) ∧ Rep w' (x.mkM q).d cs bs ∧ Touch bs w w' := by
  have hlt := Rep.lt _ h
  obtain ⟨A3, c3, A6, c6, A7, c7, d3, d6, d7, rfl, rfl, g1, g2, g3, g4, g5, g6, g7⟩ := Rep.ex_iff.1 h
  have LT := Lib.hid hlt
  have hno3 : w.heap.size ∉ d3 := fun hm => by have := hlt _ (by simp [hm] : w.heap.size ∈ d3 ++ d6 ++ d7); omega
  have hno6 : w.heap.size ∉ d6 := fun hm => by have := hlt _ (by simp [hm] : w.heap.size ∈ d3 ++ d6 ++ d7); omega
  have hno7 : w.heap.size ∉ d7 := fun hm => by have := hlt _ (by simp [hm] : w.heap.size ∈ d3 ++ d6 ++ d7); omega
  have hnd2 := hnd
  rw [List.append_assoc] at hnd2
  obtain ⟨n3, n67, dj1⟩ := List.nodup_append.1 hnd2
  obtain ⟨n6, n7, dj2⟩ := List.nodup_append.1 n67
  have GI := Lib.hid (show Rep w x.index.d [.slice A3 x.index.coefs.length c3, .int .i64 x.index.const] d3 from Rep.aff_iff.2 ⟨_, _, _, rfl, g3, g4⟩)
  have GR := Lib.hid (show Rep w x.read.d [.string x.read.arr, .slice A6 x.read.subs.length c6] d6 from Rep.acc_iff.2 ⟨_, _, _, rfl, rfl, g5, g6⟩)
  have GK := Lib.hid g7
  have HII := Lib.hid (And.intro g1 g2)
  have D1 := Lib.hid dj1
  have D2 := Lib.hid dj2
  have N0 := Lib.hid (And.intro hno3 (And.intro hno6 hno7))
  clear h g1 g2 g3 g4 g5 g6 g7 hnd hnd2 n67 dj1 dj2 hno3 hno6 hno7 hlt
  have HEQ := Lib.hid (show q + ((x.cntM : Nat) : Int) = q + ((x.index.coefs.length : Nat) : Int) + ((x.read.cntM : Nat) : Int) + ((cntL Ex.cntE x.kids : Nat) : Int) by unfold Ex.cntM; omega)
  rw [HEQ.out] at h1 ⊢
  have b0 : Below w.heap.size w (w.alloc (.cells #[.int .i64 x.kind, .int .i64 x.num, .slice A3 x.index.coefs.length c3, .int .i64 x.index.const, .string x.read.arr, .slice A6 x.read.subs.length c6, .slice A7 x.kids.length c7] 50)) := bel
  go_enter Try.func57, Try.ntmps57
  go_wp2_with fail
  refine (markAffine_n (GI.out.below b0) n3 h0 (by omega)).mono ?_
  rintro e w1 ⟨rfl, r1, t1⟩
  have hz : w.heap.size < w1.heap.size := by have := t1.size; simp at this; omega
  have P1 : Box7 w1 w.heap.size (.int .i64 x.kind) (.int .i64 x.num) (.slice A3 x.index.coefs.length c3) (.int .i64 x.index.const) (.string x.read.arr) (.slice A6 x.read.subs.length c6) (.slice A7 x.kids.length c7) := by
    refine ⟨?_, ?_, ?_, ?_, ?_, ?_, ?_⟩ <;> (rw [t1.cell (by simp) N0.out.1]; go_simp)
  have GR1 := Lib.hid (Rep.keep _ (GR.out.below b0) (t1.keeps fun y hy => ⟨Rep.lt _ (GR.out.below b0) y hy, fun hm => D1.out y hm y (List.mem_append_left _ hy) rfl⟩))
  have GK1 := Lib.hid (Rep.keep _ (GK.out.below b0) (t1.keeps fun y hy => ⟨Rep.lt _ (GK.out.below b0) y hy, fun hm => D1.out y hm y (List.mem_append_right _ hy) rfl⟩))
  have T1 := Lib.hid ((Touch.of_below b0).trans t1)
  have R1 := Lib.hid r1
  clear t1 r1 b0
  go_wp2_with fail
  refine (markAccess_n GR1.out n6 (by omega) (by omega)).mono ?_
  rintro e w2 ⟨rfl, r2, t2⟩
  have P2 : Box7 w2 w.heap.size (.int .i64 x.kind) (.int .i64 x.num) (.slice A3 x.index.coefs.length c3) (.int .i64 x.index.const) (.string x.read.arr) (.slice A6 x.read.subs.length c6) (.slice A7 x.kids.length c7) := P1.touch t2 N0.out.2.1
  have hz2 : w.heap.size < w2.heap.size := lt_of_cell P2.1
  have GK2 := Lib.hid (Rep.keep _ GK1.out (t2.keeps fun y hy => ⟨Rep.lt _ GK1.out y hy, fun hm => D2.out y hm y hy rfl⟩))
  have R1b := Lib.hid (Rep.keep _ R1.out (t2.keeps fun y hy => ⟨Rep.lt _ R1.out y hy, fun hm => D1.out y hy y (List.mem_append_left _ hm) rfl⟩))
  have T2 := Lib.hid t2
  have R2 := Lib.hid r2
  clear t2 r2 P1 GK1 GR1 R1
  go_wp2_with fail
  refine (markExprS_n GK2.out n7 (by omega) (by omega)).mono ?_
  rintro e w3 ⟨rfl, r3, t3⟩
  have R1c := Lib.hid (Rep.keep _ R1b.out (t3.keeps fun y hy => ⟨Rep.lt _ R1b.out y hy, fun hm => D1.out y hy y (List.mem_append_right _ hm) rfl⟩))
  have R2c := Lib.hid (Rep.keep _ R2.out (t3.keeps fun y hy => ⟨Rep.lt _ R2.out y hy, fun hm => D2.out y hy y hm rfl⟩))
  have T3 := Lib.hid t3
  have R3 := Lib.hid r3
  clear t3 r3 P2
  go_wp2
  go_ret
  exact ⟨rfl, Ex.mkM_rep HII.out R1c.out R2c.out R3.out, ((T1.out.mono (by simp +contextual)).trans (T2.out.mono (by simp +contextual))).trans (T3.out.mono (by simp +contextual))⟩
set_option maxRecDepth 100000 in
set_option maxHeartbeats 2000000 in
theorem heldExpr_n {w : World} {x : Ex} {cs : List Value} {bs : List Nat} {q : Int} (h : Rep w (x.mkM q).d cs bs) (h0 : 0 ≤ q) (h1 : q + ((x.cntM : Nat) : Int) ≤ 4611686018427387904) :
    Calls Try.prog 67 #[.agg cs.toArray, .int .i64 q] w fun e w' => e = .returned (.int .i64 (q + ((x.cntM : Nat) : Int))) ∧ Below w.heap.size w w' := by
  obtain ⟨A3, A6, A7, c3, c6, c7, d3, d6, d7, rfl, gi, gr, gk⟩ := Ex.mkM_open h
  have GI := Lib.hid gi
  have GR := Lib.hid gr
  have GK := Lib.hid gk
  clear h gi gr gk
  have HEQ := Lib.hid (show q + ((x.cntM : Nat) : Int) = q + ((x.index.coefs.length : Nat) : Int) + ((x.read.cntM : Nat) : Int) + ((cntL Ex.cntE x.kids : Nat) : Int) by unfold Ex.cntM; omega)
  rw [HEQ.out] at h1 ⊢
  have b0 : Below w.heap.size w (w.alloc (.cells #[.int .i64 x.kind, .int .i64 x.num, .slice A3 x.index.coefs.length c3, .int .i64 x.index.const, .string x.read.arr, .slice A6 x.read.subs.length c6, .slice A7 x.kids.length c7] 50)) := bel
  go_enter Try.func67, Try.ntmps67
  go_wp2_with fail
  refine (heldAffine_n (GI.out.below bel) h0 (by omega)).mono ?_
  rintro e w1 ⟨rfl, b1⟩
  have P1 : Box7 w1 w.heap.size (.int .i64 x.kind) (.int .i64 x.num) (.slice A3 x.index.coefs.length c3) (.int .i64 x.index.const) (.string x.read.arr) (.slice A6 x.read.subs.length c6) (.slice A7 x.kids.length c7) := by
    refine ⟨?_, ?_, ?_, ?_, ?_, ?_, ?_⟩ <;> (rw [b1.cell (by simp [World.setCell]; try omega)]; go_simp)
  have S1 : Below w.heap.size w w1 := bel
  go_wp2_with fail
  refine (heldAccess_n ((GR.out.below bel).below b1) (by omega) (by omega)).mono ?_
  rintro e w2 ⟨rfl, b2⟩
  have s2 : Below w1.heap.size w1 w2 := bel
  have P2 := P1.to s2; clear P1
  have S2 : Below w.heap.size w w2 := below_tr S1 s2
  clear s2
  go_wp2_with fail
  refine (heldExprS_n (((GK.out.below b0).below b1).below b2) (by omega) (by omega)).mono ?_
  rintro e w3 ⟨rfl, b3⟩
  have s3 : Below w2.heap.size w2 w3 := bel
  have P3 := P2.to s3; clear P2
  have S3 : Below w.heap.size w w3 := below_tr S2 s3
  clear s3
  go_wp2
  go_ret
  exact ⟨rfl, S3⟩
theorem Stm.mkM_rep {w : World} {x : Stm} {q : Int} {c1 c2 : List Value} {b1 b2 : List Nat} (h1 : Rep w (x.write.mkM q).d c1 b1) (h2 : Rep w (x.value.mkM (q + ((x.write.cntM : Nat) : Int))).d c2 b2) : Rep w (x.mkM q).d (c1 ++ c2) (b1 ++ b2) := by
  unfold Stm.mkM Stm.d
  simp only [Rep, Reps]
  exact ⟨c1, c2, b1, b2, rfl, rfl, h1, c2, [], b2, [], by simp, by simp, h2, rfl, rfl⟩
theorem Stm.mkM_open {w : World} {x : Stm} {q : Int} {cs : List Value} {bs : List Nat} (h : Rep w (x.mkM q).d cs bs) : ∃ c1 c2 b1 b2, cs = c1 ++ c2 ∧ Rep w (x.write.mkM q).d c1 b1 ∧ Rep w (x.value.mkM (q + ((x.write.cntM : Nat) : Int))).d c2 b2 := by
  unfold Stm.mkM Stm.d at h
  simp only [Rep, Reps] at h
  obtain ⟨c1, r1, b1, s1, rfl, rfl, g1, c2, r2, b2, s2, rfl, rfl, g2, rfl, rfl⟩ := h
  exact ⟨c1, c2, b1, b2, by simp, g1, g2⟩
set_option maxRecDepth 100000 in
set_option maxHeartbeats 2000000 in
theorem markStmt_n {w : World} {x : Stm} {cs : List Value} {bs : List Nat} {q : Int} (h : Rep w x.d cs bs) (hnd : bs.Nodup) (h0 : 0 ≤ q) (h1 : q + ((x.cntM : Nat) : Int) ≤ 4611686018427387904) :
    Calls Try.prog 23 #[.agg cs.toArray, .int .i64 q] w fun e w' => e = .returned (.int .i64 (q + ((x.cntM : Nat) : Int))) ∧ Rep w' (x.mkM q).d cs bs ∧ Touch bs w w' := by
  have hlt := Rep.lt _ h
  have HH := h
  obtain ⟨A2, c2, A5, c5, A8, c8, A9, c9, d2, d5, d8, d9, rfl, rfl, g1, g2, g3, g4, g5, g6, g7, g8, g9⟩ := Rep.stm_iff.1 HH
  have Gwrite := Lib.hid ((Rep.acc_iff (x := x.write)).2 ⟨_, _, _, rfl, rfl, g1, g2⟩)
  have Gvalue := Lib.hid ((Rep.ex_iff (x := x.value)).2 ⟨_, _, _, _, _, _, _, _, _, rfl, rfl, g3, g4, g5, g6, g7, g8, g9⟩)
  clear HH g1 g2 g3 g4 g5 g6 g7 g8 g9
  rw [List.append_assoc, List.append_assoc] at hnd hlt
  obtain ⟨n1, n2, dj⟩ := List.nodup_append.1 hnd
  have hno1 : w.heap.size ∉ d2 := fun hm => by have := hlt _ (List.mem_append_left _ hm); omega
  have hno2 : w.heap.size ∉ d5 ++ (d8 ++ d9) := fun hm => by have := hlt _ (List.mem_append_right _ hm); omega
  rw [← List.append_assoc] at n2 hno2 dj
  have D1 := Lib.hid dj
  have N0 := Lib.hid (And.intro hno1 hno2)
  clear h hnd dj hno1 hno2 hlt
  have HEQ := Lib.hid (show q + ((x.cntM : Nat) : Int) = q + ((x.write.cntM : Nat) : Int) + ((x.value.cntM : Nat) : Int) by unfold Stm.cntM; omega)
  rw [HEQ.out] at h1 ⊢
  have b0 : Below w.heap.size w (w.alloc (.cells #[.string x.write.arr, .slice A2 x.write.subs.length c2, .int .i64 x.value.kind, .int .i64 x.value.num, .slice A5 x.value.index.coefs.length c5, .int .i64 x.value.index.const, .string x.value.read.arr, .slice A8 x.value.read.subs.length c8, .slice A9 x.value.kids.length c9] 52)) := bel
  go_enter Try.func23, Try.ntmps23
  go_wp2_with fail
  refine (markAccess_n (Gwrite.out.below b0) n1 h0 (by omega)).mono ?_
  rintro e w1 ⟨rfl, r1, t1⟩
  have hz : w.heap.size < w1.heap.size := by have := t1.size; simp at this; omega
  have P1 : Box9 w1 w.heap.size (.string x.write.arr) (.slice A2 x.write.subs.length c2) (.int .i64 x.value.kind) (.int .i64 x.value.num) (.slice A5 x.value.index.coefs.length c5) (.int .i64 x.value.index.const) (.string x.value.read.arr) (.slice A8 x.value.read.subs.length c8) (.slice A9 x.value.kids.length c9) := by
    refine ⟨?_, ?_, ?_, ?_, ?_, ?_, ?_, ?_, ?_⟩ <;> (rw [t1.cell (by simp) N0.out.1]; go_simp)
  have GV1 := Lib.hid (Rep.keep _ (Gvalue.out.below b0) (t1.keeps fun y hy => ⟨Rep.lt _ (Gvalue.out.below b0) y hy, fun hm => D1.out y hm y hy rfl⟩))
  have T1 := Lib.hid ((Touch.of_below b0).trans t1)
  have R1 := Lib.hid r1
  clear t1 r1 b0
  go_wp2_with fail
  refine (markExpr_n GV1.out n2 (by omega) (by omega)).mono ?_
  rintro e w2 ⟨rfl, r2, t2⟩
  have R1b := Lib.hid (Rep.keep _ R1.out (t2.keeps fun y hy => ⟨Rep.lt _ R1.out y hy, fun hm => D1.out y hy y hm rfl⟩))
  have T2 := Lib.hid t2
  have R2 := Lib.hid r2
  clear t2 r2 P1 GV1 R1
  go_wp2
  go_ret
  refine ⟨rfl, ?_, (T1.out.mono (by simp +contextual)).trans (T2.out.mono (by simp +contextual))⟩
  have := Stm.mkM_rep R1b.out R2.out
  simpa [List.append_assoc] using this
set_option maxRecDepth 100000 in
set_option maxHeartbeats 2000000 in
theorem heldStmt_n {w : World} {x : Stm} {cs : List Value} {bs : List Nat} {q : Int} (h : Rep w (x.mkM q).d cs bs) (h0 : 0 ≤ q) (h1 : q + ((x.cntM : Nat) : Int) ≤ 4611686018427387904) :
    Calls Try.prog 32 #[.agg cs.toArray, .int .i64 q] w fun e w' => e = .returned (.int .i64 (q + ((x.cntM : Nat) : Int))) ∧ Below w.heap.size w w' := by
  obtain ⟨cw, cv, bw, bv, rfl, gw, gv⟩ := Stm.mkM_open h
  have gw2 := gw
  have gv2 := gv
  obtain ⟨A2, c2, rfl, _⟩ := Acc.mkM_open gw2
  obtain ⟨A5, A8, A9, c5, c8, c9, d5, d8, d9, rfl, _, _, _⟩ := Ex.mkM_open gv2
  have GW := Lib.hid gw
  have GV := Lib.hid gv
  clear h gw gv gw2 gv2
  have HEQ := Lib.hid (show q + ((x.cntM : Nat) : Int) = q + ((x.write.cntM : Nat) : Int) + ((x.value.cntM : Nat) : Int) by unfold Stm.cntM; omega)
  rw [HEQ.out] at h1 ⊢
  simp only [List.cons_append, List.nil_append]
  go_enter Try.func32, Try.ntmps32
  go_wp2_with fail
  refine (heldAccess_n (GW.out.below bel) h0 (by omega)).mono ?_
  rintro e w1 ⟨rfl, b1⟩
  have P1 : Box9 w1 w.heap.size (.string x.write.arr) (.slice A2 x.write.subs.length c2) (.int .i64 x.value.kind) (.int .i64 x.value.num) (.slice A5 x.value.index.coefs.length c5) (.int .i64 x.value.index.const) (.string x.value.read.arr) (.slice A8 x.value.read.subs.length c8) (.slice A9 x.value.kids.length c9) := by
    refine ⟨?_, ?_, ?_, ?_, ?_, ?_, ?_, ?_, ?_⟩ <;> (rw [b1.cell (by simp [World.setCell]; try omega)]; go_simp)
  have S1 : Below w.heap.size w w1 := bel
  go_wp2_with fail
  refine (heldExpr_n ((GV.out.below bel).below b1) (by omega) (by omega)).mono ?_
  rintro e w2 ⟨rfl, b2⟩
  have s2 : Below w1.heap.size w1 w2 := bel
  have P2 := P1.to s2; clear P1
  have S2 : Below w.heap.size w w2 := below_tr S1 s2
  clear s2
  go_wp2
  go_ret
  exact ⟨rfl, S2⟩
end Go.Proofs.Ytadmmlflngkpiaa
