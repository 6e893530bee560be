/- A store into a slice of integers. -/
import Derived.Test.YtimocdpfnncnlaaGreatFlag
set_option linter.all false
set_option linter.unusedSimpArgs false
set_option linter.unusedVariables false
namespace Go.Proofs.YtimocdpfnncnlaaGreat
open Go.ChangeShapes Go.WideShapes Go.ChangeAt Go.RowKit Go.Deep

theorem gi_set {xs : List Int} {k j : Nat} {v : Int} (hk : k < xs.length) : gi (xs.set k v) j = if j = k then v else gi xs j := by
  unfold gi
  rw [List.getD_eq_getElem?_getD, List.getD_eq_getElem?_getD, List.getElem?_set]
  by_cases e : k = j
  · subst e; rw [if_pos rfl, if_pos rfl, if_pos hk]; rfl
  · rw [if_neg e, if_neg (fun h => e h.symm)]
theorem gi_range {n k : Nat} {f : Nat → Int} (h : k < n) : gi ((List.range n).map f) k = f k := by
  rw [gi_eq (by simpa using h)]; simp
theorem range_set {n k : Nat} {f g : Nat → Int} {v : Int} (hk : k < n) (h : ∀ j, j < n → g j = if j = k then v else f j) : ((List.range n).map f).set k v = (List.range n).map g := by
  apply List.ext_getElem
  · simp
  · intro j h1 h2
    have hj : j < n := by simpa using h2
    rw [List.getElem_set]
    have := h j hj
    by_cases e : k = j
    · subst e; rw [if_pos rfl] at this ⊢; simp [this]
    · rw [if_neg e]; rw [if_neg (fun h => e h.symm)] at this; simp [this]
theorem range_congr {n : Nat} {f g : Nat → Int} (h : ∀ j, j < n → f j = g j) : (List.range n).map f = (List.range n).map g :=
  List.map_congr_left fun j hj => h j (List.mem_range.1 hj)
end Go.Proofs.YtimocdpfnncnlaaGreat
