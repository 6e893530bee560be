/- Orders that are built by choices, in plain Lean. -/
import Derived.Test.YtgogjbnneoadkaaGreatZwWaveF
import Derived.Test.YtgogjbnneoadkaaGreatZwPointIn
import Derived.Test.YtgogjbnneoadkaaGreatZwActs
set_option linter.all false
set_option linter.unusedSimpArgs false
set_option linter.unusedVariables false
namespace Go.Proofs.YtgogjbnneoadkaaGreat

theorem catN_flat {α : Type} (f : Nat → List α) : ∀ n, catN f n = (List.range n).flatMap f
  | 0 => rfl
  | n + 1 => by rw [List.range_succ, List.flatMap_append, ← catN_flat f n]; simp [catN]
theorem pts_pre : ∀ (ls : List Lp) (p : List Int), ∀ q ∈ ptsF ls p, q.take p.length = p ∧ q.length = p.length + ls.length
  | [], p, q, h => by
    have : q = p := by simpa [ptsF] using h
    subst this; simp
  | l :: ls, p, q, h => by
    rw [ptsF, catN_flat] at h
    obtain ⟨k, _, hq⟩ := List.mem_flatMap.1 h
    obtain ⟨h1, h2⟩ := pts_pre ls _ q hq
    refine ⟨?_, by rw [h2]; simp; omega⟩
    have h3 := congrArg (List.take p.length) h1
    rw [List.take_take] at h3
    simpa using h3
theorem together_const {α β : Type} {key : α → β} {xs : List α} {v : β} (h : ∀ a ∈ xs, key a = v) : Together key xs := fun a b c hs _ => by
  rw [h b (hs.subset (by simp)), h c (hs.subset (by simp))]
theorem pts_tog (m : Nat) : ∀ (ls : List Lp) (p : List Int), Together (fun q : List Int => q.take m) (ptsF ls p)
  | [], p => together_const (v := p.take m) fun a h => by
    have : a = p := by simpa [ptsF] using h
    rw [this]
  | l :: ls, p => by
    rcases Nat.lt_or_ge p.length m with hm | hm
    · rw [ptsF, catN_flat]
      refine Together.blocks (tag := fun q : List Int => q.take (p.length + 1)) (g := fun k : Nat => p ++ [loF l p + (k : Int)]) _ ?_ ?_ ?_ fun k _ => pts_tog m ls _
      · exact List.pairwise_map.2 (List.nodup_range.imp fun {a b} h e => h (Int.ofNat_inj.1 (show ((a : Nat) : Int) = ((b : Nat) : Int) by simpa using e)))
      · intro k _ q hq
        have := (pts_pre ls _ q hq).1
        simpa using this
      · intro k _ q _ u _ r _ e
        have h := congrArg (List.take (p.length + 1)) e
        simp only [List.take_take] at h
        rwa [Nat.min_eq_left (by omega)] at h
    · exact together_const (v := p.take m) fun a h => by
        have := congrArg (List.take m) (pts_pre _ _ a h).1
        rwa [List.take_take, Nat.min_eq_left hm] at this
theorem insts_tog (m : Nat) (k : Int) (x : Prt) : Together (fun a : In => a.point.take m) (instsP k x) :=
  Together.flat (key0 := fun q : List Int => q.take m) (ptsOf x) (fun q _ a ha => by
    obtain ⟨s, _, rfl⟩ := List.mem_map.1 ha; rfl) (pts_tog m _ _)
theorem Together.map {α β γ : Type} {key : β → γ} {f : α → β} {xs : List α} (h : Together key (xs.map f)) : Together (fun a => key (f a)) xs := fun a b c hs e => h (f a) (f b) (f c) (hs.map f) e
theorem instsP_part {k : Int} {x : Prt} {a : In} (h : a ∈ instsP k x) : a.part = k := by
  obtain ⟨q, _, ha⟩ := List.mem_flatMap.1 h
  obtain ⟨s, _, rfl⟩ := List.mem_map.1 ha
  rfl
theorem instsFrom_ge : ∀ (ps : List Prt) (k : Int), ∀ a ∈ instsFrom ps k, k ≤ a.part
  | [], _, a, h => by simp [instsFrom] at h
  | x :: xs, k, a, h => by
    rcases List.mem_append.1 h with h | h
    · rw [instsP_part h]; omega
    · have := instsFrom_ge xs (k + 1) a h; omega
theorem insts_part : ∀ (ps : List Prt) (k0 : Int) (j : Nat) (h : j < ps.length), (instsFrom ps k0).filter (fun a => decide (a.part = k0 + (j : Int))) = instsP (k0 + (j : Int)) ps[j]
  | [], _, j, h => absurd h (by simp)
  | x :: xs, k0, 0, _ => by
    have h1 : (instsP k0 x).filter (fun a => decide (a.part = k0 + ((0 : Nat) : Int))) = instsP k0 x := List.filter_eq_self.2 fun a ha => by rw [instsP_part ha]; simp
    have h2 : (instsFrom xs (k0 + 1)).filter (fun a => decide (a.part = k0 + ((0 : Nat) : Int))) = [] := List.filter_eq_nil_iff.2 fun a ha => by have := instsFrom_ge xs (k0 + 1) a ha; simp; omega
    rw [instsFrom, List.filter_append, h1, h2]
    simp
  | x :: xs, k0, j + 1, h => by
    have h1 : (instsP k0 x).filter (fun a => decide (a.part = k0 + ((j + 1 : Nat) : Int))) = [] := List.filter_eq_nil_iff.2 fun a ha => by rw [instsP_part ha]; simp; omega
    have h2 := insts_part xs (k0 + 1) j (by simpa using h)
    have e : k0 + 1 + (j : Int) = k0 + ((j + 1 : Nat) : Int) := by omega
    rw [e] at h2
    rw [instsFrom, List.filter_append, h1, h2, List.nil_append]
    rfl
theorem range_getD {α : Type} (us : List α) (d : α) : (List.range us.length).map (fun i => us.getD i d) = us := by
  apply List.ext_getElem
  · simp
  · intro i h1 h2; simp [List.getD_eq_getElem?_getD, List.getElem?_eq_getElem h2]
/-- the numbers of the elements that pass -/
def idxOf {α : Type} (us : List α) (d : α) (f : α → Bool) : List Nat := (List.range us.length).filter fun i => f (us.getD i d)
theorem idxOf_map {α : Type} (us : List α) (d : α) (f : α → Bool) : (idxOf us d f).map (fun i => us.getD i d) = us.filter f := by
  conv => rhs; rw [← range_getD us d]
  rw [List.filter_map]
  rfl
/-- the numbers of a part's instances: equal beginnings lie together -/
theorem idx_tog (ps : List Prt) (d : In) (j : Nat) (h : j < ps.length) (m : Nat) : Together (fun i => ((instsFrom ps 0).getD i d).point.take m) (idxOf (instsFrom ps 0) d fun a => decide (a.part = (j : Int))) := by
  refine Together.map (key := fun a : In => a.point.take m) (f := fun i => (instsFrom ps 0).getD i d) ?_
  rw [idxOf_map]
  have := insts_part ps 0 j h
  rw [Int.zero_add] at this
  rw [this]
  exact insts_tog _ _ _
theorem idxOf_filter {α : Type} (us : List α) (d : α) (f g : α → Bool) : (idxOf us d f).filter (fun i => g (us.getD i d)) = idxOf us d fun a => f a && g a := by
  unfold idxOf
  rw [List.filter_filter]
  exact List.filter_congr fun i _ => by rw [Bool.and_comm]
/-- as the reference writes it: every group is taken from all instances -/
theorem groups2_idx {α β γ : Type} [DecidableEq β] [DecidableEq γ] (us : List α) (d : α) (f : α → Bool) {k1 : α → β} {k2 : α → γ} (hr : ∀ a b, k2 a = k2 b → k1 a = k1 b) :
    groups2 (fun i => k1 (us.getD i d)) (fun i => k2 (us.getD i d)) (idxOf us d f) = (headsK (fun i => k1 (us.getD i d)) (idxOf us d f)).map fun h =>
      (headsK (fun i => k2 (us.getD i d)) (idxOf us d fun a => f a && decide (k1 a = h))).map fun h' => idxOf us d fun a => f a && decide (k2 a = h') := by
  rw [groups2_eq (fun a b e => hr _ _ e)]
  refine List.map_congr_left fun h _ => ?_
  rw [idxOf_filter us d f (fun a => decide (k1 a = h))]
  refine List.map_congr_left fun h' _ => ?_
  rw [idxOf_filter us d f (fun a => decide (k2 a = h'))]
theorem take_refine {m : Nat} {a b : List Int} (h : a.take (m + 1) = b.take (m + 1)) : a.take m = b.take m := by
  have := congrArg (List.take m) h
  rwa [List.take_take, List.take_take, Nat.min_eq_left (by omega)] at this
end Go.Proofs.YtgogjbnneoadkaaGreat
set_option linter.all false
set_option linter.unusedSimpArgs false
set_option linter.unusedVariables false
namespace Go.Proofs.YtgogjbnneoadkaaGreat
open Go.ChangeShapes Go.WideShapes Go.ChangeAt Go.RowKit Go.Deep

end Go.Proofs.YtgogjbnneoadkaaGreat
set_option linter.all false
set_option linter.unusedSimpArgs false
set_option linter.unusedVariables false
namespace Go.Proofs.YtgogjbnneoadkaaGreat
open Go.ChangeShapes Go.WideShapes Go.ChangeAt Go.RowKit Go.Deep

end Go.Proofs.YtgogjbnneoadkaaGreat
