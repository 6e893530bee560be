/- Instances of a valid program in plain Lean: whose statement is there, whose accesses denote elements. -/
import Derived.Test.YtadmmlflngkpiaaPgF
import Derived.Test.YtadmmlflngkpiaaPointIn
import Derived.Test.YtadmmlflngkpiaaStmtOk
set_option linter.all false
set_option linter.unusedSimpArgs false
set_option linter.unusedVariables false
namespace Go.Proofs.Ytadmmlflngkpiaa
open Go.ChangeShapes Go.WideShapes Go.ChangeAt Go.RowKit Go.Deep

def prtF (p : Pgm) (k : Int) : Prt := p.parts.getD k.toNat ⟨[], []⟩
def noStm : Stm := ⟨⟨⟨#[]⟩, []⟩, ⟨0, 0, ⟨[], 0⟩, ⟨⟨#[]⟩, []⟩, []⟩⟩
def stmF (p : Pgm) (x : In) : Stm := (prtF p x.part).body.getD x.stmt.toNat noStm
theorem prtF_eq {p : Pgm} {k : Nat} (h : k < p.parts.length) : prtF p (k : Int) = p.parts[k] := by simp [prtF, List.getD_eq_getElem?_getD, h]
theorem stmF_eq {p : Pgm} {x : In} {s : Nat} (hs : x.stmt = (s : Int)) (h : s < (prtF p x.part).body.length) : stmF p x = (prtF p x.part).body[s] := by simp [stmF, hs, List.getD_eq_getElem?_getD, h]
def isInF (p : Pgm) (x : In) : Bool := inB x.part 0 ((p.parts.length : Int) - 1) && (inB x.stmt 0 (((prtF p x.part).body.length : Int) - 1) && PointInF (prtF p x.part).nest x.point)

/-- an instance whose part and statement are there and whose point is one of its nest -/
structure InOk (p : Pgm) (x : In) : Prop where
  p0 : 0 ≤ x.part
  p1 : x.part.toNat < p.parts.length
  s0 : 0 ≤ x.stmt
  s1 : x.stmt.toNat < (prtF p x.part).body.length
  q : x.point ∈ ptsOf (prtF p x.part)

theorem catN_of {α : Type} {f : Nat → List α} {x : α} {k : Nat} : ∀ {m : Nat}, k < m → x ∈ f k → x ∈ catN f m
  | 0, h, _ => by omega
  | m + 1, h, hx => by
    rw [catN]
    rcases Nat.lt_or_ge k m with hk | hk
    · exact List.mem_append_left _ (catN_of hk hx)
    · have : k = m := by omega
      subst this
      exact List.mem_append_right _ hx
/-- a point in the loops' ranges is one of the nest's points -/
theorem pts_in {xs : List Lp} {q : List Int} (hl : q.length = xs.length) : ∀ (n j : Nat), j + n = xs.length → inFrom xs q n j = true → q ∈ ptsF (xs.drop j) (q.take j)
  | 0, j, hj, _ => by
    have h1 : xs.drop j = [] := List.drop_eq_nil_of_le (by omega)
    rw [h1, ptsF, List.take_of_length_le (by omega)]; simp
  | n + 1, j, hj, h => by
    have hlt : j < xs.length := by omega
    simp only [inFrom, Bool.and_eq_true, inAt, decide_eq_true_iff] at h
    obtain ⟨⟨h1, h2⟩, h3⟩ := h
    have ih := pts_in hl n (j + 1) (by omega) h3
    rw [← List.getElem_cons_drop hlt, ptsF, nthL_eq hlt]
    refine catN_of (k := (gi q j - loF (nthL xs j) (q.take j)).toNat) (by unfold widN; omega) ?_
    have e : loF (nthL xs j) (q.take j) + (((gi q j - loF (nthL xs j) (q.take j)).toNat : Nat) : Int) = gi q j := by omega
    rw [e, gi_eq (by omega), ← List.take_succ_eq_append_getElem (by omega)]
    exact ih
theorem PointInF_pts {xs : List Lp} {q : List Int} (h : PointInF xs q = true) : q ∈ ptsF xs [] := by
  simp only [PointInF, Bool.and_eq_true, decide_eq_true_iff] at h
  obtain ⟨_, _, h3, h4⟩ := h
  have := pts_in h3 q.length 0 (by omega) h4
  simpa using this
theorem InOk.of_in {p : Pgm} {x : In} (h : isInF p x = true) : InOk p x := by
  simp only [isInF, Bool.and_eq_true] at h
  obtain ⟨h1, h2, h3⟩ := h
  have a1 := inB_iff.1 h1
  have a2 := inB_iff.1 h2
  exact ⟨by omega, by omega, by omega, by omega, PointInF_pts h3⟩
theorem instsFrom_mem : (xs : List Prt) → (k : Int) → (x : In) → x ∈ instsFrom xs k → ∃ j, ∃ h : j < xs.length, x ∈ instsP (k + (j : Int)) xs[j]
  | [], _, _, h => by simp [instsFrom] at h
  | y :: xs, k, x, h => by
    rw [instsFrom] at h
    rcases List.mem_append.1 h with h | h
    · exact ⟨0, by simp, by simpa using h⟩
    · obtain ⟨j, hj, hx⟩ := instsFrom_mem xs (k + 1) x h
      refine ⟨j + 1, by simpa using hj, ?_⟩
      rw [show k + ((j + 1 : Nat) : Int) = k + 1 + (j : Int) by omega]
      simpa using hx
theorem InOk.of_mem {p : Pgm} {x : In} (h : x ∈ instsF p) : InOk p x := by
  obtain ⟨j, hj, hx⟩ := instsFrom_mem _ _ _ h
  rw [Int.zero_add, instsP, List.mem_flatMap] at hx
  obtain ⟨q, hq, hx⟩ := hx
  rw [instsQ, List.mem_map] at hx
  obtain ⟨s, hs, rfl⟩ := hx
  rw [List.mem_range] at hs
  refine ⟨by simp, by simpa using hj, by simp, ?_, ?_⟩
  · rw [prtF_eq hj]; simpa using hs
  · rw [prtF_eq hj]; exact hq
theorem progOk_part {p : Pgm} (h : progOk p = true) : ∀ x ∈ p.parts, partOk p.arrays x = true := by
  simp only [progOk, progBase, Bool.and_eq_true, decide_eq_true_iff, List.all_eq_true] at h
  exact h.2.1
/-- what the walks of an instance's cells need -/
structure Fine (p : Pgm) (x : In) : Prop where
  fine : fineS p.arrays x.point (stmF p x) = true
  stm : StmtValidF (stmF p x) ((prtF p x.part).nest.length : Int) = true
  pt : PtS x.point
  len : x.point.length ≤ 4
theorem InOk.get {p : Pgm} {x : In} (h : InOk p x) : ∃ k s : Nat, x.part = (k : Int) ∧ x.stmt = (s : Int) ∧ ∃ hk : k < p.parts.length, ∃ hs : s < p.parts[k].body.length, prtF p x.part = p.parts[k] ∧ stmF p x = p.parts[k].body[s] := by
  obtain ⟨h1, h2, h3, h4, _⟩ := h
  refine ⟨x.part.toNat, x.stmt.toNat, by omega, by omega, h2, ?_⟩
  have e : prtF p x.part = p.parts[x.part.toNat] := by
    have := prtF_eq h2
    rwa [show ((x.part.toNat : Nat) : Int) = x.part by omega] at this
  have hs : x.stmt.toNat < p.parts[x.part.toNat].body.length := by rw [← e]; exact h4
  refine ⟨hs, e, ?_⟩
  rw [stmF_eq (s := x.stmt.toNat) (by omega) h4]
  simp only [e]
theorem InOk.fine {p : Pgm} {x : In} (h : InOk p x) (hv : progOk p = true) : Fine p x := by
  have hq := h.q
  obtain ⟨k, s, _, _, hk, hs, e1, e2⟩ := h.get
  have hp := progOk_part hv _ (List.getElem_mem hk)
  rw [← e1] at hp
  have hm : stmF p x ∈ (prtF p x.part).body := by rw [e2, e1]; exact List.getElem_mem hs
  simp only [partOk, bodyOk, Bool.and_eq_true, List.all_eq_true, ptFine] at hp
  have hnf := npF_ok hp.1
  have hp4 := pts_ok hnf.1 _ hq
  exact ⟨(hp.2.2 _ hq).2 _ hm, hp.2.1.2 _ hm, PtS.of_B hp4.1 hp4.2.2, hp4.2.2⟩
theorem fine_cells {xs : List Ar} {q : List Int} {s : Stm} (h : fineS xs q s = true) : 0 ≤ cellF xs s.write q ∧ ∀ a ∈ readsF s.value, 0 ≤ cellF xs a q := by
  simp only [fineS, Bool.and_eq_true, decide_eq_true_iff, Bool.not_eq_true', List.any_eq_false] at h
  exact ⟨h.1, fun a ha => by have := h.2 a ha; omega⟩
theorem CellsF_fine {xs : List Ar} {q : List Int} {s : Stm} (h : fineS xs q s = true) : CellsF xs q s = (rdF xs q s, wrF xs q s, true) := by rw [CellsF, if_pos h]

/-- the cells that an instance reads, the one that it writes -/
structure Us where
  reads : List Int
  write : Int
def useF (p : Pgm) (x : In) : Us := ⟨rdF p.arrays x.point (stmF p x), wrF p.arrays x.point (stmF p x)⟩
def usesF (p : Pgm) : List Us := (instsF p).map (useF p)
theorem usesF_len (p : Pgm) : (usesF p).length = (instsF p).length := by simp [usesF]
def Us.d (x : Us) : D := .st [ints x.reads, .int x.write]
theorem Us.d_size (x : Us) : x.d.size = 2 := rfl
theorem Rep.us_iff {w : World} {x : Us} {cs : List Value} {bs : List Nat} : Rep w x.d cs bs ↔ ∃ (A1 : Option Addr) (c1 : Nat) (d1 : List Nat), cs = [.slice A1 x.reads.length c1, .int .i64 x.write] ∧ bs = d1 ∧ Rep w (ints x.reads) [.slice A1 x.reads.length c1] d1 ∧ I64 x.write := by
  constructor
  · rintro ⟨_, _, _, _, rfl, rfl, h1, _, _, _, _, rfl, rfl, ⟨rfl, rfl, h2⟩, rfl, rfl⟩
    obtain ⟨A, c, rfl⟩ := h1.ints_form1
    exact ⟨A, c, _, rfl, by simp, h1, h2⟩
  · rintro ⟨A, c, d, rfl, rfl, h1, h2⟩
    exact ⟨_, [.int .i64 x.write], _, [], rfl, by simp, h1, [.int .i64 x.write], [], [], [], rfl, rfl, ⟨rfl, rfl, h2⟩, rfl, rfl⟩
end Go.Proofs.Ytadmmlflngkpiaa
