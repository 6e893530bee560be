/- Values of expressions in plain Lean. -/
import Derived.Test.YtgimggpmnemkbaaGreatZActs
import Derived.Test.YtgimggpmnemkbaaGreatZTotal
set_option linter.all false
set_option linter.unusedSimpArgs false
set_option linter.unusedVariables false
namespace Go.Proofs.YtgimggpmnemkbaaGreat
open Go.ChangeShapes Go.WideShapes Go.ChangeAt Go.RowKit Go.Deep

def wrapF (n : Int) : Int := n % 1000
def opF (k a b : Int) : Int := if k = 4 then wrapF (a + b) else if k = 5 then wrapF (a - b) else wrapF (a * b)
mutual
def valF : Ex → List Ar → List Int → List Int → Int
  | ⟨k, n, ix, r, kids⟩, xs, m, q => if k = 1 then n else if k = 2 then wrapF (evF ix q) else if k = 3 then gi m (cellF xs r q).toNat else opF k (gi (valsF kids xs m q) 0) (gi (valsF kids xs m q) 1)
def valsF : List Ex → List Ar → List Int → List Int → List Int
  | [], _, _, _ => []
  | x :: l, xs, m, q => valF x xs m q :: valsF l xs m q
end
theorem valF_eq (x : Ex) (xs : List Ar) (m q : List Int) : valF x xs m q = (if x.kind = 1 then x.num else if x.kind = 2 then wrapF (evF x.index q) else if x.kind = 3 then gi m (cellF xs x.read q).toNat else opF x.kind (gi (valsF x.kids xs m q) 0) (gi (valsF x.kids xs m q) 1)) := by
  cases x; simp only [valF]
theorem valsF_gi {l : List Ex} {xs : List Ar} {m q : List Int} {j : Nat} (h : j < l.length) : gi (valsF l xs m q) j = valF l[j] xs m q := by
  induction l generalizing j with
  | nil => simp at h
  | cons x l ih =>
    rcases j with _ | j
    · simp [valsF, gi]
    · have := ih (j := j) (by simpa using h)
      simp only [gi, valsF, List.getD_cons_succ, List.getElem_cons_succ] at this ⊢
      exact this
theorem wrap_bd (n : Int) : 0 ≤ wrapF n ∧ wrapF n ≤ 999 := by unfold wrapF; omega
theorem opF_bd (k a b : Int) : 0 ≤ opF k a b ∧ opF k a b ≤ 999 := by
  unfold opF; split
  · exact wrap_bd _
  · split <;> exact wrap_bd _
/-- a memory whose cells hold 0 to 999 -/
def MemB (m : List Int) : Prop := ∀ j, 0 ≤ gi m j ∧ gi m j ≤ 999
theorem MemB.of {m : List Int} (h : m.any memBad = false) : MemB m := fun j => by
  rcases Nat.lt_or_ge j m.length with hj | hj
  · have := List.any_eq_false.1 h _ (List.getElem_mem hj)
    rw [gi_eq hj]
    simp only [memBad, Bool.not_eq_true, Bool.not_eq_false'] at this
    exact inB_iff.1 this
  · have : gi m j = 0 := by simp [gi, List.getD_eq_getElem?_getD, hj]
    omega
/-- an expression of a valid statement: what its walk needs -/
structure VB (x : Ex) (xs : List Ar) (m q : List Int) : Prop where
  sh : ∃ L d, exShape x d L = true
  rd : ∀ a ∈ readsF x, 0 ≤ cellF xs a q
  ev : ∀ a ∈ readsF x, 1 ≤ a.subs.length ∧ ∀ t ∈ a.subs, EvBd t q
theorem readsL_mem {l : List Ex} {y : Ex} (h : y ∈ l) : ∀ a ∈ readsF y, a ∈ readsL l := fun a ha => by
  induction l with
  | nil => simp at h
  | cons x l ih =>
    rw [readsL]
    rcases List.mem_cons.1 h with rfl | h
    · exact List.mem_append_left _ ha
    · exact List.mem_append_right _ (ih h)
theorem VB.parts {x : Ex} {xs : List Ar} {m q : List Int} (h : VB x xs m q) : ((x.kind = 1 ∨ x.kind = 2 ∨ x.kind = 3) ∨ ((4 ≤ x.kind ∧ x.kind ≤ 6) ∧ x.kids.length = 2 ∧ ∀ y ∈ x.kids, VB y xs m q)) ∧ (x.kind = 1 → 0 ≤ x.num ∧ x.num ≤ 99) ∧ (x.kind = 2 → affOk x.index = true) ∧ (x.kind = 3 → x.read ∈ readsF x) := by
  obtain ⟨⟨L, d, hs⟩, h2, h3⟩ := h
  rw [exShape_eq] at hs
  simp only [Bool.and_eq_true, decide_eq_true_iff, List.all_eq_true] at hs
  obtain ⟨hL, hk, ho, hc⟩ := hs
  refine ⟨?_, ?_, ?_, ?_⟩
  · by_cases e3 : x.kind = 1 ∨ x.kind = 2 ∨ x.kind = 3
    · exact .inl e3
    refine .inr ?_
    unfold kidsN at hk
    rw [if_neg e3] at hk
    by_cases e4 : x.kind = 4 ∨ x.kind = 5 ∨ x.kind = 6
    · rw [if_pos e4] at hk
      refine ⟨by omega, by omega, fun y hy => ?_⟩
      have hm : ∀ a ∈ readsF y, a ∈ readsF x := fun a ha => by rw [readsF_eq x, if_neg (by omega)]; exact readsL_mem hy a ha
      exact ⟨⟨L - 1, d, hc y hy⟩, fun a ha => h2 a (hm a ha), fun a ha => h3 a (hm a ha)⟩
    · rw [if_neg e4] at hk; omega
  · intro e; simp [ownF, e] at ho; have := inB_iff.1 ho.1; omega
  · intro e; simp [ownF, e] at ho; exact ho.2.2.1
  · intro e; rw [readsF_eq, if_pos e]; simp
theorem val_bd (x : Ex) : ∀ (xs : List Ar) (m q : List Int), MemB m → VB x xs m q → 0 ≤ valF x xs m q ∧ valF x xs m q ≤ 999 := fun xs m q hm h => by
  have h1 := h.parts.2.1
  rw [valF_eq]
  split
  · next e => have := h1 e; omega
  · split
    · exact wrap_bd _
    · split
      · exact hm _
      · exact opF_bd _ _ _
theorem tmod_of (n : Int) : Int.tmod n 1000 = (if 0 ≤ n then n % 1000 else -((-n) % 1000)) := by
  split
  · next h => exact Int.tmod_eq_emod_of_nonneg h
  · next h =>
    have : n = -(-n) := by omega
    rw [this, Int.neg_tmod, Int.tmod_eq_emod_of_nonneg (by omega), Int.neg_neg]
theorem tmod_neg (n : Int) (hn : Int.tmod n 1000 < 0) : Int.tmod n 1000 + 999 + 1 = wrapF n := by
  unfold wrapF
  rw [tmod_of] at hn ⊢
  split at hn <;> rename_i h <;> (first | rw [if_pos h] | rw [if_neg h]) <;> omega
theorem tmod_pos (n : Int) (hn : ¬ Int.tmod n 1000 < 0) : Int.tmod n 1000 = wrapF n := by
  unfold wrapF
  rw [tmod_of] at hn ⊢
  split at hn <;> rename_i h <;> (first | rw [if_pos h] | rw [if_neg h]) <;> omega
theorem tmod_bd (n : Int) : -1000 < Int.tmod n 1000 ∧ Int.tmod n 1000 < 1000 := by
  rw [tmod_of]
  split <;> omega
theorem tmod_wrap (n : Int) : Int.tmod (Int.tmod n 1000 + 999 + 1) 1000 = wrapF n := by
  unfold wrapF
  have h1 := tmod_bd n
  rw [tmod_of (Int.tmod n 1000 + 999 + 1), if_pos (by omega), tmod_of n]
  split <;> omega
end Go.Proofs.YtgimggpmnemkbaaGreat
