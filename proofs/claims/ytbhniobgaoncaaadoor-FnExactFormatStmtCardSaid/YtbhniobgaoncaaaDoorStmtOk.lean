/- Statements whose accesses denote elements at a point: stmtOk of the program. -/
import Derived.Test.YtbhniobgaoncaaaDoorPgF
import Derived.Test.YtbhniobgaoncaaaDoorCellW
import Derived.Test.YtbhniobgaoncaaaDoorReads
import Derived.Test.YtbhniobgaoncaaaDoorSqStmt
set_option linter.all false
set_option linter.unusedSimpArgs false
set_option linter.unusedVariables false
namespace Go.Proofs.YtbhniobgaoncaaaDoor
open Go.ChangeShapes Go.WideShapes Go.ChangeAt Go.RowKit Go.Deep

/-- what the walks of a statement's cells need -/
structure StB (s : Stm) (q : List Int) : Prop where
  w1 : 1 ≤ s.write.subs.length
  w : ∀ t ∈ s.write.subs, EvBd t q
  r : ∀ a ∈ readsF s.value, 1 ≤ a.subs.length ∧ ∀ t ∈ a.subs, EvBd t q
  n : (readsF s.value).length ≤ 1000000
theorem accOk_subs {a : Acc} {d : Int} (h : accOk a d = true) : 1 ≤ a.subs.length ∧ ∀ t ∈ a.subs, affOk t = true := by
  simp only [accOk, Bool.and_eq_true] at h
  have := sideOk_iff h.2
  exact ⟨this.1, fun t ht => (this.2.2 t ht).1⟩
theorem shape_reads (x : Ex) : ∀ (L : Nat) (d : Int), exShape x d L = true → ∀ a ∈ readsF x, accOk a d = true :=
  Ex.ind (P := fun x => ∀ (L : Nat) (d : Int), exShape x d L = true → ∀ a ∈ readsF x, accOk a d = true) (fun x hx L d h a ha => by
    rw [exShape_eq] at h
    simp only [Bool.and_eq_true, decide_eq_true_iff, List.all_eq_true] at h
    rw [readsF_eq] at ha
    by_cases hk : x.kind = 3
    · rw [if_pos hk, List.mem_singleton] at ha
      have ho := h.2.2.1
      rw [ha]
      simp [ownF, hk] at ho
      exact ho.2.2
    · rw [if_neg hk] at ha
      have : ∀ ys : List Ex, (∀ y ∈ ys, y ∈ x.kids) → a ∈ readsL ys → accOk a d = true := by
        intro ys
        induction ys with
        | nil => intro _ h; simp [readsL] at h
        | cons y ys ih =>
          intro hy h1
          rw [readsL] at h1
          rcases List.mem_append.1 h1 with h1 | h1
          · exact hx y (hy y List.mem_cons_self) _ d (h.2.2.2 y (hy y List.mem_cons_self)) a h1
          · exact ih (fun z hz => hy z (List.mem_cons_of_mem _ hz)) h1
      exact this x.kids (fun _ h => h) ha) x
theorem reads_len (x : Ex) : ∀ L : Nat, (∃ d, exShape x d L = true) → (readsF x).length ≤ exCnt x L :=
  Ex.ind (P := fun x => ∀ L : Nat, (∃ d, exShape x d L = true) → (readsF x).length ≤ exCnt x L) (fun x hx L ⟨d, h⟩ => by
    have h0 := exCnt_pos x L
    rw [readsF_eq]
    by_cases hk : x.kind = 3
    · rw [if_pos hk]; simpa using h0
    · rw [if_neg hk]
      rw [exShape_eq] at h
      simp only [Bool.and_eq_true, decide_eq_true_iff, List.all_eq_true] at h
      obtain ⟨L, rfl⟩ : ∃ M, L = M + 1 := ⟨L - 1, by omega⟩
      rw [exCnt_succ]
      simp only [Nat.add_sub_cancel] at h
      have : ∀ ys : List Ex, (∀ y ∈ ys, y ∈ x.kids) → (readsL ys).length ≤ cntL (fun y => exCnt y L) ys := by
        intro ys
        induction ys with
        | nil => intro _; simp [readsL, cntL]
        | cons y ys ih =>
          intro hy
          have h1 := hx y (hy y List.mem_cons_self) L ⟨d, h.2.2.2 y (hy y List.mem_cons_self)⟩
          have h2 := ih fun z hz => hy z (List.mem_cons_of_mem _ hz)
          simp only [readsL, List.length_append, cntL]; omega
      have := this x.kids fun _ h => h
      omega) x
theorem stmtValid_parts {s : Stm} {d : Int} (h : StmtValidF s d = true) : accOk s.write d = true ∧ exShape s.value d 5 = true ∧ exCnt s.value 5 ≤ 12 := by
  simp only [StmtValidF, Bool.and_eq_true, decide_eq_true_iff] at h
  exact ⟨h.2.1, h.2.2.1, h.2.2.2⟩
theorem StB.of {s : Stm} {d : Int} {q : List Int} (h : StmtValidF s d = true) (hq : PtS q) : StB s q := by
  obtain ⟨h1, h2, h3⟩ := stmtValid_parts h
  have h4 := accOk_subs h1
  refine ⟨h4.1, fun t ht => hq t (h4.2 t ht), fun a ha => ?_, ?_⟩
  · have h5 := accOk_subs (shape_reads s.value 5 d h2 a ha)
    exact ⟨h5.1, fun t ht => hq t (h5.2 t ht)⟩
  · have := reads_len s.value 5 ⟨d, h2⟩; omega
def cellBad (xs : List Ar) (q : List Int) (a : Acc) : Bool := decide (cellF xs a q < 0)

section
variable {w : World} {bs bs1 bs2 : List Nat}
end
end Go.Proofs.YtbhniobgaoncaaaDoor
