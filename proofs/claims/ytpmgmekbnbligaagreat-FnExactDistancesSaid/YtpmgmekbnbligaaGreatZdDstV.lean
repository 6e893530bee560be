/- Distances in plain Lean: lists of numbers put one by one into an ascending list without a repetition, against sorting and striking repetitions. -/
import Derived.Test.YtpmgmekbnbligaaGreatZdSame
set_option linter.all false
set_option linter.unusedSimpArgs false
set_option linter.unusedVariables false
namespace Go.Proofs.YtpmgmekbnbligaaGreat
open Go.ChangeShapes Go.WideShapes Go.ChangeAt Go.RowKit Go.Deep

theorem cmpI_anti (x y : Int) : cmpI y x = - cmpI x y := by unfold cmpI; split <;> split <;> (try split) <;> omega
theorem cmpI_zero {x y : Int} : cmpI x y = 0 ↔ x = y := by unfold cmpI; split <;> (try split) <;> omega
theorem cmpI_neg {x y : Int} : cmpI x y < 0 ↔ x < y := by unfold cmpI; split <;> (try split) <;> omega
theorem cmpL_anti : ∀ xs ys : List Int, cmpL ys xs = - cmpL xs ys
  | [], [] => rfl
  | [], _ :: _ => rfl
  | _ :: _, [] => rfl
  | x :: xs, y :: ys => by
    unfold cmpL
    by_cases h : x = y
    · rw [if_pos (cmpI_zero.2 h), if_pos (cmpI_zero.2 h.symm)]; exact cmpL_anti xs ys
    · rw [if_neg (fun e => h (cmpI_zero.1 e)), if_neg (fun e => h (cmpI_zero.1 e).symm)]; exact cmpI_anti x y
theorem cmpL_zero : ∀ {xs ys : List Int}, cmpL xs ys = 0 → xs = ys
  | [], [], _ => rfl
  | [], _ :: _, h => by cases h
  | _ :: _, [], h => by cases h
  | x :: xs, y :: ys, h => by
    unfold cmpL at h
    by_cases e : x = y
    · rw [if_pos (cmpI_zero.2 e)] at h; rw [e, cmpL_zero h]
    · rw [if_neg (fun e2 => e (cmpI_zero.1 e2))] at h; exact absurd (cmpI_zero.1 h) e
theorem cmpL_self (xs : List Int) : cmpL xs xs = 0 := by have := cmpL_anti xs xs; omega
theorem cmpL_trans : ∀ {xs ys zs : List Int}, cmpL xs ys < 0 → cmpL ys zs < 0 → cmpL xs zs < 0
  | [], [], _, h, _ => by cases h
  | [], _ :: _, [], _, h => by cases h
  | [], _ :: _, _ :: _, _, _ => by unfold cmpL; decide
  | _ :: _, [], _, h, _ => by cases h
  | _ :: _, _ :: _, [], _, h => by cases h
  | x :: xs, y :: ys, z :: zs, h, k => by
    unfold cmpL at h k ⊢
    by_cases e : x = y
    · rw [if_pos (cmpI_zero.2 e)] at h
      subst e
      by_cases e2 : x = z
      · rw [if_pos (cmpI_zero.2 e2)] at k ⊢; exact cmpL_trans h k
      · rw [if_neg (fun e3 => e2 (cmpI_zero.1 e3))] at k ⊢; exact k
    · rw [if_neg (fun e3 => e (cmpI_zero.1 e3))] at h
      have h1 := cmpI_neg.1 h
      by_cases e2 : y = z
      · subst e2
        rw [if_neg (fun e3 => e (cmpI_zero.1 e3))]; exact h
      · rw [if_neg (fun e3 => e2 (cmpI_zero.1 e3))] at k
        have h2 := cmpI_neg.1 k
        rw [if_neg (fun e3 => by have := cmpI_zero.1 e3; omega)]
        exact cmpI_neg.2 (by omega)
/-- strictly ascending -/
def Asc (l : List (List Int)) : Prop := l.Pairwise fun x y => cmpL x y < 0
theorem Asc.eq {l m : List (List Int)} (h : Asc l) (k : Asc m) (e : ∀ x, x ∈ l ↔ x ∈ m) : l = m := by
  have nd : ∀ l : List (List Int), Asc l → l.Nodup := fun l h => List.Pairwise.imp (fun hlt e => by subst e; have := cmpL_self _ ▸ hlt; omega) h
  exact List.Perm.eq_of_pairwise (fun a b _ _ h1 h2 => by have := cmpL_anti a b; omega) h k ((List.perm_ext_iff_of_nodup (nd _ h) (nd _ k)).2 e)
/-- the reference's step: what stands ahead, the list, what stands behind -/
def putL (d : List Int) : List (List Int) → List (List Int)
  | [] => [d]
  | x :: l => if cmpL d x < 0 then d :: x :: l else x :: putL d l
def addL (l : List (List Int)) (d : List Int) : List (List Int) := if d ∈ l then l else putL d l
theorem putL_mem {d x : List Int} : ∀ {l : List (List Int)}, x ∈ putL d l ↔ x = d ∨ x ∈ l
  | [] => by simp [putL]
  | y :: l => by
    unfold putL
    split
    · simp
    · rw [List.mem_cons, putL_mem, List.mem_cons]
      constructor
      · rintro (h | h | h); exact .inr (.inl h); exact .inl h; exact .inr (.inr h)
      · rintro (h | h | h); exact .inr (.inl h); exact .inl h; exact .inr (.inr h)
theorem putL_asc {d : List Int} : ∀ {l : List (List Int)}, Asc l → d ∉ l → Asc (putL d l)
  | [], _, _ => by simp [putL, Asc]
  | x :: l, h, hn => by
    have h' := List.pairwise_cons.1 h
    unfold putL
    split
    · rename_i hlt
      exact List.pairwise_cons.2 ⟨fun y hy => by
        rcases List.mem_cons.1 hy with rfl | hy
        · exact hlt
        · exact cmpL_trans hlt (h'.1 y hy), h⟩
    · rename_i hge
      refine List.pairwise_cons.2 ⟨fun y hy => ?_, putL_asc h'.2 (fun hm => hn (List.mem_cons_of_mem _ hm))⟩
      rcases putL_mem.1 hy with rfl | hy
      · have h1 := cmpL_anti x y
        have h2 : cmpL x y ≠ 0 := fun e => hn (by rw [cmpL_zero e]; exact List.mem_cons_self)
        omega
      · exact h'.1 y hy
theorem addL_mem {l : List (List Int)} {d x : List Int} : x ∈ addL l d ↔ x = d ∨ x ∈ l := by
  unfold addL
  split
  · rename_i h
    constructor
    · exact .inr
    · rintro (rfl | h2); exact h; exact h2
  · exact putL_mem
theorem addL_asc {l : List (List Int)} {d : List Int} (h : Asc l) : Asc (addL l d) := by
  unfold addL
  split
  · exact h
  · rename_i hn; exact putL_asc h hn
def distL (ds : List (List Int)) : List (List Int) := ds.foldl addL []
theorem fold_add (ds : List (List Int)) : ∀ l, Asc l → Asc (ds.foldl addL l) ∧ ∀ x, x ∈ ds.foldl addL l ↔ x ∈ l ∨ x ∈ ds := by
  induction ds with
  | nil => intro l h; exact ⟨h, fun x => by simp⟩
  | cons d ds ih =>
    intro l h
    rw [List.foldl_cons]
    obtain ⟨h1, h2⟩ := ih (addL l d) (addL_asc h)
    refine ⟨h1, fun x => ?_⟩
    rw [h2, addL_mem, List.mem_cons]
    constructor
    · rintro ((h | h) | h); exact .inr (.inl h); exact .inl h; exact .inr (.inr h)
    · rintro (h | h | h); exact .inl (.inr h); exact .inl (.inl h); exact .inr h
theorem distL_asc (ds : List (List Int)) : Asc (distL ds) := (fold_add ds [] List.Pairwise.nil).1
theorem distL_mem {ds : List (List Int)} {x : List Int} : x ∈ distL ds ↔ x ∈ ds := by
  have := (fold_add ds [] List.Pairwise.nil).2 x
  unfold distL
  simpa using this
/-- neighbours that are equal struck -/
def cpL (a : List Int) : List (List Int) → List (List Int)
  | [] => []
  | b :: l => if a = b then cpL a l else b :: cpL b l
def compL : List (List Int) → List (List Int)
  | [] => []
  | a :: l => a :: cpL a l
def Ris (l : List (List Int)) : Prop := l.Pairwise fun x y => cmpL x y ≤ 0
theorem cmpL_le_lt {x y z : List Int} (h : cmpL x y ≤ 0) (k : cmpL y z < 0) : cmpL x z < 0 := by
  by_cases e : cmpL x y = 0
  · rw [cmpL_zero e]; exact k
  · exact cmpL_trans (by omega) k
theorem cpL_ok : ∀ (l : List (List Int)) (a : List Int), Ris (a :: l) → (∀ x, x ∈ a :: cpL a l ↔ x ∈ a :: l) ∧ Asc (a :: cpL a l)
  | [], a, _ => ⟨fun _ => Iff.rfl, by simp [cpL, Asc]⟩
  | b :: l, a, h => by
    have h' := List.pairwise_cons.1 h
    have h2 := List.pairwise_cons.1 h'.2
    unfold cpL
    split
    · rename_i e
      subst e
      obtain ⟨h3, h4⟩ := cpL_ok l a h'.2
      exact ⟨fun x => by rw [h3]; simp, h4⟩
    · rename_i e
      obtain ⟨h3, h4⟩ := cpL_ok l b h'.2
      have hab : cmpL a b < 0 := by
        have h5 := h'.1 b List.mem_cons_self
        have h6 : cmpL a b ≠ 0 := fun e2 => e (cmpL_zero e2)
        omega
      refine ⟨fun x => by rw [List.mem_cons, h3, List.mem_cons, List.mem_cons, List.mem_cons], List.pairwise_cons.2 ⟨fun y hy => ?_, h4⟩⟩
      rcases List.mem_cons.1 hy with rfl | hy
      · exact hab
      · exact cmpL_trans hab ((List.pairwise_cons.1 h4).1 y hy)
/-- sorted, then struck: the same list -/
theorem comp_dist {ds ys : List (List Int)} (hp : ys.Perm ds) (hs : Ris ys) : compL ys = distL ds := by
  refine Asc.eq ?_ (distL_asc ds) fun x => ?_
  · match ys, hs with
    | [], _ => exact List.Pairwise.nil
    | a :: l, h => exact (cpL_ok l a h).2
  · rw [distL_mem, ← hp.mem_iff]
    match ys, hs with
    | [], _ => exact Iff.rfl
    | a :: l, h => exact (cpL_ok l a h).1 x
end Go.Proofs.YtpmgmekbnbligaaGreat
