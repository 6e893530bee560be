/- The reference's WaveOrder. -/
import Derived.Test.YtgogjbnneoadkaaGreatZpGrpS
set_option linter.all false
set_option linter.unusedSimpArgs false
set_option linter.unusedVariables false
namespace Go.Proofs.YtgogjbnneoadkaaGreat
open Go.ChangeShapes Go.WideShapes Go.ChangeAt Go.RowKit Go.Deep

theorem mem_idxOf {us : List In} {f : In → Bool} {i : Nat} (h : i ∈ idxOf us dIn f) : ∃ hl : i < us.length, f us[i] = true := by
  obtain ⟨h1, h2⟩ := ixTo_lt (us := us) (f := f) (j := us.length) h
  exact ⟨h1, by rw [getD_in h1] at h2; exact h2⟩
theorem grpOf_len (us : List In) (k : Int) (pre : List Int) : (grpOf us k pre).length ≤ us.length := ixTo_len _ _ _
/-- the points of a part's instances are that long -/
def PtLen (us : List In) (k : Int) (L : Nat) : Prop := ∀ a ∈ us, a.part = k → a.point.length = L
theorem PtLen.grp {us : List In} {k : Int} {L m : Nat} (h : PtLen us k L) (hm : m ≤ L) {pre : List Int} : ∀ i ∈ grpOf us k pre, ∃ hlt : i < us.length, m ≤ us[i].point.length := fun i hi => by
  obtain ⟨hl, hf⟩ := mem_idxOf hi
  refine ⟨hl, ?_⟩
  simp only [grpB, Bool.and_eq_true, decide_eq_true_iff] at hf
  rw [h _ (List.getElem_mem hl) hf.1]; exact hm
theorem PtLen.head {us : List In} {k : Int} {L m : Nat} (h : PtLen us k L) (hm : m ≤ L) {pre h' : List Int} (hh : h' ∈ headsK (ptK us m) (grpOf us k pre)) : h'.length = m := by
  obtain ⟨i, hi, rfl⟩ := (mem_headsK _ _ _).1 hh
  obtain ⟨hl, h1⟩ := h.grp hm i hi
  rw [ptK_eq hl, List.length_take]; omega
theorem PtLen.pre {us : List In} {k : Int} {L m : Nat} (h : PtLen us k L) (hm : m ≤ L) {pre : List Int} (hp : pre.length = m) : ∀ a ∈ us, a.part = k → pre.length ≤ a.point.length := fun a ha e => by rw [h a ha e]; omega
def lanesF (us : List In) (k m : Nat) (h : List Int) : List (List Int) := (headsK (ptK us (m + 1)) (grpOf us (k : Int) h)).map fun h' => toI (grpOf us (k : Int) h')
def outerF (us : List In) (k m : Nat) : List (List Int) := headsK (ptK us m) (grpOf us (k : Int) [])
theorem grpOf_nil (us : List In) (k : Nat) : grpOf us (k : Int) [] = idxOf us dIn (partB k) := idxOf_congr fun a _ => by simp [grpB, partB]
theorem grpsF_spec {us : List In} {k m L : Nat} (h : PtLen us (k : Int) L) (hm : m + 1 ≤ L) : toI3 (grpsF us k m) = (outerF us k m).map (lanesF us k m) := by
  have e := groups2_idx us dIn (partB k) (k1 := fun a => a.point.take m) (k2 := fun a => a.point.take (m + 1)) (fun a b e => take_refine e)
  have e2 : grpsF us k m = _ := e
  rw [e2]
  unfold toI3 outerF lanesF
  rw [List.map_map, grpOf_nil]
  refine List.map_congr_left fun h' hh => ?_
  have hl : h'.length = m := h.head (pre := []) (by omega) (by rw [grpOf_nil]; exact hh)
  have e3 : (idxOf us dIn fun a => partB k a && decide (a.point.take m = h')) = grpOf us (k : Int) h' := idxOf_congr fun a _ => by unfold grpB partB; rw [hl]
  show (List.map _ (headsK _ _)).map toI = _
  rw [e3, List.map_map]
  refine List.map_congr_left fun h2 hh2 => ?_
  have hl2 : h2.length = m + 1 := h.head (pre := h') (by omega) hh2
  have e4 : (idxOf us dIn fun a => partB k a && decide (a.point.take (m + 1) = h2)) = grpOf us (k : Int) h2 := idxOf_congr fun a _ => by unfold grpB partB; rw [hl2]
  exact congrArg toI e4
theorem insts_hi : ∀ (ps : List Prt) (k : Int), ∀ a ∈ instsFrom ps k, a.part < k + (ps.length : Int)
  | [], _, a, h => by simp [instsFrom] at h
  | x :: xs, k, a, h => by
    rcases List.mem_append.1 h with h | h
    · rw [instsP_part h]; simp; omega
    · have := insts_hi xs (k + 1) a h; simp; omega
theorem bef_spec {p : Pgm} {k : Nat} : (idxOf (instsF p) dIn fun a => decide (0 ≤ a.part) && decide (a.part < (k : Int))) = befF (instsF p) k := idxOf_congr fun a ha => by
  have := instsFrom_ge _ _ a ha
  simp only [this, decide_true, Bool.true_and]
theorem aft_spec {p : Pgm} {k : Nat} : (idxOf (instsF p) dIn fun a => decide ((k : Int) + 1 ≤ a.part) && decide (a.part < (p.parts.length : Int))) = aftF (instsF p) k := idxOf_congr fun a ha => by
  have h := insts_hi _ _ a ha
  rw [Int.zero_add] at h
  simp only [h, decide_true, Bool.and_true]
  exact decide_eq_decide.2 (by omega)
theorem insts_ptLen {p : Pgm} {k : Nat} (hk : k < p.parts.length) : PtLen (instsF p) (k : Int) p.parts[k].nest.length := fun a ha e => (InOk.of_mem ha).len hk e
theorem idxOf_len (us : List In) (f : In → Bool) : (idxOf us dIn f).length ≤ us.length := ixTo_len us f us.length
theorem outerF_len (us : List In) (k m : Nat) : (outerF us k m).length ≤ us.length := Nat.le_trans (headsK_len _ _) (grpOf_len _ _ _)
theorem flatMap_len {α β : Type} (f : α → List β) (n : Nat) : ∀ (l : List α), (∀ a ∈ l, (f a).length ≤ n) → (l.flatMap f).length ≤ l.length * n
  | [], _ => by simp
  | a :: l, h => by
    rw [List.flatMap_cons, List.length_append, List.length_cons, Nat.add_mul, Nat.one_mul]
    have h1 := h a List.mem_cons_self
    have h2 := flatMap_len f n l fun b hb => h b (List.mem_cons_of_mem _ hb)
    omega
end Go.Proofs.YtgogjbnneoadkaaGreat
