/- Slices of data: one element in place, one element changed; a row of the call's own filled element by element. -/
import Derived.Test.YtaomlianiehkgaaOwn
set_option linter.all false
set_option linter.unusedSimpArgs false
set_option linter.unusedVariables false
namespace Go.Proofs.Ytaomlianiehkgaa
open Go.ChangeShapes Go.WideShapes Go.ChangeAt Go.RowKit Go.Deep

theorem Rep.sl_len {w : World} {xs : List D} {A : Option Addr} {n c : Nat} {bs : List Nat} (h : Rep w (.sl xs) [.slice A n c] bs) : n = xs.length ∧ n ≤ c ∧ c ≤ maxLen := by
  obtain ⟨A', c', es, cb, e, h1, h2, _⟩ := h
  simp only [List.cons.injEq, Value.slice.injEq] at e
  obtain ⟨⟨rfl, rfl, rfl⟩, _⟩ := e
  exact ⟨rfl, h1, h2⟩

/-- the k-th element in place, and the slice with another element in its place -/
theorem Rep.focus {w : World} {xs : List D} {A : Option Addr} {n c s : Nat} {bs : List Nat} (h : Rep w (.sl xs) [.slice A n c] bs) (hs : ∀ x ∈ xs, x.size = s) {k : Nat} {x : D} (hk : xs[k]? = some x) :
    ∃ b o e1 l1 l0 l2, A = some ⟨b, o, none⟩ ∧ bs = b :: (l0 ++ l1 ++ l2) ∧ b < w.heap.size ∧ Rep w x e1 l1 ∧ e1.length = s ∧
      (∀ j u, e1[j]? = some u → w.cell? ⟨b, o + k * s + j, none⟩ = some u ∧ w.frozen? ⟨b, o + k * s + j, none⟩ = false) ∧
      (∀ w' x' e1', Rep w' x' e1' l1 → e1'.length = s → w.heap.size ≤ w'.heap.size → (∀ y, y ∈ l0 ∨ y ∈ l2 → w'.heap[y]? = w.heap[y]?) →
        (∀ i, w'.frozen? ⟨b, i, none⟩ = w.frozen? ⟨b, i, none⟩) → (∀ j u, e1'[j]? = some u → w'.cell? ⟨b, o + k * s + j, none⟩ = some u) →
        (∀ i, (i < o + k * s ∨ o + k * s + s ≤ i) → w'.cell? ⟨b, i, none⟩ = w.cell? ⟨b, i, none⟩) → Rep w' (.sl (xs.set k x')) [.slice A n c] bs) := by
  obtain ⟨A', c', es, cb, e, h1, h2, h3, h4⟩ := h
  simp only [List.cons.injEq, Value.slice.injEq] at e
  obtain ⟨⟨rfl, rfl, rfl⟩, _⟩ := e
  have hlt : k < xs.length := by
    rcases Nat.lt_or_ge k xs.length with h | h
    · exact h
    · rw [List.getElem?_eq_none h] at hk; cases hk
  rcases h4 with ⟨rfl, _⟩ | ⟨b, o, rfl, rfl, hbl, hc⟩
  · simp at hlt
  obtain ⟨e0, e1, e2, l0, l1, l2, rfl, rfl, he0, he1, r0, r1, r2⟩ := h3.at_ hs hk
  have hidx : ∀ j u, e1[j]? = some u → (e0 ++ e1 ++ e2)[k * s + j]? = some u := fun j u hu => by
    have hj : j < e1.length := by
      rcases Nat.lt_or_ge j e1.length with h | h
      · exact h
      · rw [List.getElem?_eq_none h] at hu; cases hu
    rw [List.append_assoc, List.getElem?_append_right (by omega), he0, Nat.add_sub_cancel_left, List.getElem?_append_left hj, hu]
  refine ⟨b, o, e1, l1, l0, l2, rfl, rfl, hbl, r1, he1, fun j u hu => ?_, ?_⟩
  · have := hc (k * s + j) u (hidx j u hu)
    rwa [← Nat.add_assoc] at this
  · intro w' x' e1' q1 q2 q3 q4 q5 q6 q7
    have hset : xs.set k x' = xs.take k ++ (x' :: xs.drop (k + 1)) := by
      rw [List.set_eq_take_append_cons_drop, if_pos hlt]
    refine ⟨_, c, e0 ++ e1' ++ e2, l0 ++ l1 ++ l2, by rw [List.length_set], by rw [List.length_set]; exact h1, h2, ?_, .inr ⟨b, o, rfl, rfl, Nat.lt_of_lt_of_le hbl q3, fun j u hu => ?_⟩⟩
    · rw [hset]
      refine (Reps_append _ _).2 ⟨e0, e1' ++ e2, l0, l1 ++ l2, by simp, by simp, Reps.keep _ r0 ⟨q3, fun y hy => q4 y (.inl hy)⟩, e1', e2, l1, l2, rfl, rfl, q1, Reps.keep _ r2 ⟨q3, fun y hy => q4 y (.inr hy)⟩⟩
    · have hfr : w'.frozen? ⟨b, o + j, none⟩ = false := by
        rw [q5]
        have hj : j < (e0 ++ e1 ++ e2).length := by
          have : j < (e0 ++ e1' ++ e2).length := by
            rcases Nat.lt_or_ge j (e0 ++ e1' ++ e2).length with h | h
            · exact h
            · rw [List.getElem?_eq_none h] at hu; cases hu
          simp only [List.length_append] at this ⊢
          omega
        exact (hc j _ (List.getElem?_eq_getElem hj)).2
      refine ⟨?_, hfr⟩
      rcases Nat.lt_or_ge j (k * s) with hj | hj
      · rw [q7 _ (.inl (by omega))]
        refine (hc j u ?_).1
        rw [List.append_assoc, List.getElem?_append_left (by omega)] at hu ⊢
        exact hu
      · rcases Nat.lt_or_ge j (k * s + s) with hj2 | hj2
        · rw [List.append_assoc, List.getElem?_append_right (by omega), he0, List.getElem?_append_left (by omega)] at hu
          have := q6 (j - k * s) u hu
          rwa [show o + k * s + (j - k * s) = o + j by omega] at this
        · rw [q7 _ (.inr (by omega))]
          refine (hc j u ?_).1
          rw [List.getElem?_append_right (by simp only [List.length_append]; omega)] at hu ⊢
          rw [← hu]
          congr 1
          simp only [List.length_append]; omega

/-- a block of the call's own, its cells known -/
def Row (w : World) (g : Nat) (t : TypeId) (cells : List Value) : Prop := w.heap[g]? = some (.cells cells.toArray t (0, 0))
section
variable {w w' : World} {g : Nat} {t : TypeId} {cells : List Value}
theorem Row.lt (h : Row w g t cells) : g < w.heap.size := by
  rcases Nat.lt_or_ge g w.heap.size with hlt | hge
  · exact hlt
  · unfold Row at h; rw [Array.getElem?_eq_none hge] at h; cases h
theorem Row.cell (h : Row w g t cells) (i : Nat) : w.cell? ⟨g, i, none⟩ = cells[i]? := by
  unfold Row at h; simp [World.cell?, h]
theorem Row.frozen (h : Row w g t cells) (i : Nat) : w.frozen? ⟨g, i, none⟩ = false := by
  unfold Row at h; simp [World.frozen?, h]
theorem Row.to (h : Row w g t cells) (hb : Below w.heap.size w w') : Row w' g t cells := (hb.block g h.lt).trans h
theorem Row.of_block (h : Row w g t cells) (hb : w'.heap[g]? = w.heap[g]?) : Row w' g t cells := hb.trans h
theorem Row.set (h : Row w g t cells) (i : Nat) (v : Value) : Row (w.setCell ⟨g, i, none⟩ v) g t (cells.set i v) := by
  unfold Row at h ⊢
  simp [World.setCell, Array.getElem?_modify, h]
theorem Row.far (h : Row w g t cells) {p : Addr} (hp : p.block ≠ g) (v : Value) : Row (w.setCell p v) g t cells := (Below.heap_setCell w p v g (fun e => hp e.symm)).trans h
theorem Row.made (w : World) (z : Array Value) (n : Nat) (t : TypeId) : Row (w.alloc (.cells (madeCells z n) t)) w.heap.size t (madeCells z n).toList := by
  unfold Row; rw [heap_alloc_new]
theorem Row.rep {xs : List D} {es rest : List Value} {cb : List Nat} (h : Row w g t (es ++ rest)) (hr : Reps w xs es cb) {c : Nat} (hc : xs.length ≤ c) (hm : c ≤ maxLen) : Rep w (.sl xs) [.slice (some ⟨g, 0, none⟩) xs.length c] (g :: cb) := by
  refine ⟨_, c, es, cb, rfl, hc, hm, hr, .inr ⟨g, 0, rfl, rfl, h.lt, fun j u hu => ⟨?_, h.frozen _⟩⟩⟩
  have hj : j < es.length := by
    rcases Nat.lt_or_ge j es.length with h | h
    · exact h
    · rw [List.getElem?_eq_none h] at hu; cases hu
  rw [Nat.zero_add, h.cell, List.getElem?_append_left hj, hu]
end

end Go.Proofs.Ytaomlianiehkgaa
