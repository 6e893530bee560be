/- LevelOrder in plain Lean: the instances level by level are the instances sorted by level, then by number. -/
import Derived.Test.YtpmgmekbnbligaaGreatZlStabM
import Derived.Test.YtpmgmekbnbligaaGreatZlActs
set_option linter.all false
set_option linter.unusedSimpArgs false
set_option linter.unusedVariables false
namespace Go.Proofs.YtpmgmekbnbligaaGreat
open Go.ChangeShapes Go.WideShapes Go.ChangeAt Go.RowKit Go.Deep

def keyL (ls : List Int) (x : Int) : Int := gi ls x.toNat
/-- the instances of a level, up to the j-th -/
def ordJ (ls : List Int) (n j : Nat) : List Int := ((List.range j).filter fun i => decide (gi ls i = (n : Int))).map fun (i : Nat) => (i : Int)
/-- .. of the first n levels -/
def ordN (ls : List Int) (n : Nat) : List Int := (List.range n).flatMap fun m => ordJ ls m ls.length
def ordF (ls : List Int) : List Int := ordN ls (critF ls).toNat
def idxL (n : Nat) : List Int := (List.range n).map fun (i : Nat) => (i : Int)
theorem ordJ_zero (ls : List Int) (n : Nat) : ordJ ls n 0 = [] := rfl
theorem ordJ_y {ls : List Int} {n j : Nat} (h : gi ls j = (n : Int)) : ordJ ls n (j + 1) = ordJ ls n j ++ [(j : Int)] := by
  unfold ordJ; rw [List.range_succ, List.filter_append, List.map_append]; simp [h]
theorem ordJ_n {ls : List Int} {n j : Nat} (h : ¬ gi ls j = (n : Int)) : ordJ ls n (j + 1) = ordJ ls n j := by
  unfold ordJ; rw [List.range_succ, List.filter_append, List.map_append]; simp [h]
theorem ordN_zero (ls : List Int) : ordN ls 0 = [] := rfl
theorem ordN_succ (ls : List Int) (n : Nat) : ordN ls (n + 1) = ordN ls n ++ ordJ ls n ls.length := by
  unfold ordN; rw [List.range_succ, List.flatMap_append]; simp
theorem idxL_len (n : Nat) : (idxL n).length = n := by simp [idxL]
theorem gi_idxL {n i : Nat} (h : i < n) : gi (idxL n) i = (i : Int) := by simp [gi, idxL, List.getD_eq_getElem?_getD, h]
theorem idxL_up (n : Nat) : Up 0 n (idxL n) := fun i j _ h2 h3 => by rw [gi_idxL (by omega), gi_idxL h3]; omega
theorem idxL_succ (n : Nat) : idxL (n + 1) = idxL n ++ [(n : Int)] := by unfold idxL; rw [List.range_succ, List.map_append]; rfl
theorem crit_ge (l : List Int) : ∀ n, n ≤ l.foldl critS n ∧ ∀ x ∈ l, x + 1 ≤ l.foldl critS n := by
  induction l with
  | nil => intro n; simp
  | cons a l ih =>
    intro n
    rw [List.foldl_cons]
    obtain ⟨h1, h2⟩ := ih (critS n a)
    have h3 : n ≤ critS n a ∧ a + 1 ≤ critS n a := by unfold critS; omega
    refine ⟨by omega, fun x hx => ?_⟩
    rcases List.mem_cons.1 hx with rfl | hx
    · omega
    · exact h2 x hx
theorem srt_of_pw {key : Int → Int} {l : List Int} (h : l.Pairwise (ltK key)) : Srt key 0 l.length l := fun i j _ h2 h3 => by
  have := List.pairwise_iff_getElem.1 h i j (by omega) h3 h2
  have hi : i < l.length := by omega
  simpa [gi, List.getD_eq_getElem?_getD, hi, h3] using this
theorem ordJ_mem {ls : List Int} {n j : Nat} {x : Int} (h : x ∈ ordJ ls n j) : ∃ i : Nat, x = (i : Int) ∧ i < j ∧ gi ls i = (n : Int) := by
  unfold ordJ at h
  obtain ⟨i, h1, rfl⟩ := List.mem_map.1 h
  simp only [List.mem_filter, List.mem_range, decide_eq_true_iff] at h1
  exact ⟨i, rfl, h1.1, h1.2⟩
theorem ordN_pw (ls : List Int) (n : Nat) : (ordN ls n).Pairwise (ltK (keyL ls)) := by
  unfold ordN
  rw [List.pairwise_flatMap]
  refine ⟨fun m _ => ?_, ?_⟩
  · unfold ordJ
    rw [List.pairwise_map]
    have h0 : ((List.range ls.length).filter fun i => decide (gi ls i = (m : Int))).Pairwise (· < ·) := List.Pairwise.filter _ List.pairwise_lt_range
    refine List.Pairwise.imp_of_mem ?_ h0
    intro i j hi hj hij
    simp only [List.mem_filter, decide_eq_true_iff] at hi hj
    refine .inr ⟨?_, by omega⟩
    show gi ls i = gi ls j
    rw [hi.2, hj.2]
  · have h0 : (List.range n).Pairwise (· < ·) := List.pairwise_lt_range
    refine h0.imp ?_
    intro a b hab x hx y hy
    obtain ⟨i, rfl, _, h1⟩ := ordJ_mem hx
    obtain ⟨j, rfl, _, h2⟩ := ordJ_mem hy
    refine .inl ?_
    show gi ls i < gi ls j
    omega
theorem ordF_perm {ls : List Int} (h : ∀ x ∈ ls, 0 ≤ x) : (ordF ls).Perm (idxL ls.length) := by
  have hn1 : (ordF ls).Nodup := (ordN_pw ls _).imp fun hlt e => by subst e; exact hlt.irrefl
  have hn2 : (idxL ls.length).Nodup := by
    unfold idxL List.Nodup
    rw [List.pairwise_map]
    exact List.pairwise_lt_range.imp fun hlt e => by omega
  refine (List.perm_ext_iff_of_nodup hn1 hn2).2 fun x => ⟨fun hx => ?_, fun hx => ?_⟩
  · unfold ordF ordN at hx
    obtain ⟨m, _, hx⟩ := List.mem_flatMap.1 hx
    obtain ⟨i, rfl, hi, _⟩ := ordJ_mem hx
    exact List.mem_map.2 ⟨i, List.mem_range.2 hi, rfl⟩
  · obtain ⟨i, hi, rfl⟩ := List.mem_map.1 hx
    rw [List.mem_range] at hi
    have hm : gi ls i ∈ ls := by
      have e : gi ls i = ls[i] := by simp [gi, List.getD_eq_getElem?_getD, hi]
      rw [e]; exact List.getElem_mem hi
    have h1 := (crit_ge ls 0).2 _ hm
    have h2 := h _ hm
    unfold ordF ordN
    refine List.mem_flatMap.2 ⟨(gi ls i).toNat, List.mem_range.2 ?_, ?_⟩
    · show (gi ls i).toNat < (ls.foldl critS 0).toNat
      omega
    · unfold ordJ
      refine List.mem_map.2 ⟨i, ?_, rfl⟩
      simp only [List.mem_filter, List.mem_range, decide_eq_true_iff]
      exact ⟨hi, by omega⟩
/-- a sorted arrangement of the instances is the one level by level -/
theorem ord_eq {ls ys : List Int} (h : ∀ x ∈ ls, 0 ≤ x) (hp : ys.Perm (idxL ls.length)) (hs : Srt (keyL ls) 0 ls.length ys) : ys = ordF ls := by
  have hl : ys.length = ls.length := by rw [hp.length_eq, idxL_len]
  exact srt_unique (key := keyL ls) (by rw [hl]; exact hs) (srt_of_pw (ordN_pw ls _)) (hp.trans (ordF_perm h).symm)
end Go.Proofs.YtpmgmekbnbligaaGreat
