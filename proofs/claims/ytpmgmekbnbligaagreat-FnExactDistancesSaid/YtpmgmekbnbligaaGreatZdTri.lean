/- Slices of slices of numbers, each element told by what it reads as, its value and its blocks. -/
import Derived.Test.YtpmgmekbnbligaaGreatZdTree
import Derived.Test.YtpmgmekbnbligaaGreatZdDstV
set_option linter.all false
set_option linter.unusedSimpArgs false
set_option linter.unusedVariables false
namespace Go.Proofs.YtpmgmekbnbligaaGreat
open Go.ChangeShapes Go.WideShapes Go.ChangeAt Go.RowKit Go.Deep

structure Tri where
  x : List Int
  e : Value
  b : List Nat
def Tri.ok (w : World) (t : Tri) : Prop := Rep w (ints t.x) [t.e] t.b
theorem Tri.ok.keep {w w' : World} {t : Tri} (h : t.ok w) (k : Keeps w w' t.b) : t.ok w' := Rep.keep _ h k
theorem Tri.ok.below {w w' : World} {t : Tri} (h : t.ok w) (k : Below w.heap.size w w') : t.ok w' := Rep.below h k
theorem Tri.ok.form {w : World} {t : Tri} (h : t.ok w) : ∃ A c, t.e = .slice A t.x.length c := by
  obtain ⟨A, c, es, cb, he, _⟩ := h
  simp only [List.cons.injEq, and_true] at he
  exact ⟨A, c, by simpa [ints] using he⟩
theorem Tri.ok.one {w : World} {t : Tri} (h : t.ok w) : t.e.oneCell' = true := by
  obtain ⟨A, c, he⟩ := h.form
  rw [he]; rfl
def TriB (T : List Tri) : List Nat := T.flatMap Tri.b
theorem triB_snoc (T : List Tri) (t : Tri) : TriB (T ++ [t]) = TriB T ++ t.b := by simp [TriB]
theorem triB_mem {T : List Tri} {y : Nat} : y ∈ TriB T ↔ ∃ t ∈ T, y ∈ t.b := by simp [TriB, List.mem_flatMap]
theorem reps_tri {w : World} : (T : List Tri) → (∀ t ∈ T, t.ok w) → Reps w ((T.map Tri.x).map ints) (T.map Tri.e) (TriB T)
  | [], _ => ⟨rfl, rfl⟩
  | t :: T, h => ⟨[t.e], T.map Tri.e, t.b, TriB T, rfl, by simp [TriB], h t List.mem_cons_self, reps_tri T fun s hs => h s (List.mem_cons_of_mem _ hs)⟩
/-- a slice of the call's own whose elements are these -/
structure GrowT (w : World) (B : Nat) (ty : TypeId) (v : Value) (T : List Tri) : Prop where
  own : w.ownsRow B ty 1 v T.length (T.map Tri.e)
  ok : ∀ t ∈ T, t.ok w
  nd : (ownL v ++ TriB T).Nodup
  ge : ∀ y ∈ TriB T, B ≤ y
section
variable {P : Program} {w w' : World} {B : Nat} {e : TypeId} {v : Value} {T : List Tri}
theorem GrowT.nil (w : World) (B : Nat) (e : TypeId) : GrowT w B e (.slice none 0 0) [] := ⟨World.ownsRow_nil _ _ _ _, by simp, by simp [ownL, TriB, Value.ownBlock], by simp [TriB]⟩
theorem GrowT.made (w : World) {B g : Nat} (e : TypeId) (hg : w.heap.size = g) (hB : B ≤ g) : GrowT (w.alloc (.cells #[] e)) B e (.slice (some ⟨g, 0, none⟩) 0 0) [] := by
  subst hg
  exact ⟨World.ownsRow_made w #[] 0 hB (Nat.zero_le _) (by simp), by simp, by rw [ownL_some]; simp [TriB], by simp [TriB]⟩
theorem GrowT.lt (h : GrowT w B e v T) : ∀ y ∈ TriB T, y < w.heap.size := fun y hy => by
  obtain ⟨t, ht, hb⟩ := triB_mem.1 hy
  exact Rep.lt _ (h.ok t ht) y hb
theorem GrowT.far (h : GrowT w B e v T) : ∀ t ∈ T, ∀ y ∈ t.b, y ∉ ownL v := fun t ht y hy hm => (List.nodup_append.1 h.nd).2.2 y hm y (triB_mem.2 ⟨t, ht, hy⟩) rfl
theorem GrowT.form (h : GrowT w B e v T) : ∃ A c, v = .slice A T.length c ∧ T.length ≤ c ∧ c ≤ maxLen := by
  have h6 := reps_tri T h.ok
  obtain ⟨A, c, bs, rfl, h7, _⟩ := Rep.of_own (xs := (T.map Tri.x).map ints) h.own (by simp) h6
  obtain ⟨h1, h2, h3⟩ := h7.sl_len
  exact ⟨A, c, rfl, by simpa using h2, h3⟩
theorem GrowT.rep (h : GrowT w B e v T) : ∃ A c bs, v = .slice A T.length c ∧ Rep w (sls ints (T.map Tri.x)) [.slice A T.length c] bs ∧ bs.Nodup ∧ ∀ y ∈ bs, B ≤ y := by
  have h6 := reps_tri T h.ok
  obtain ⟨A, c, bs, rfl, h7, h8⟩ := Rep.of_own (xs := (T.map Tri.x).map ints) h.own (by simp) h6
  refine ⟨A, c, bs, rfl, h7, ?_⟩
  rcases h8 with ⟨_, rfl⟩ | ⟨g, rfl, hg, hgo⟩
  · simp
  · refine ⟨?_, fun y hy => ?_⟩
    · have := h.nd
      rw [show ownL (Value.slice A T.length c) = [g] by unfold ownL; rw [hgo]] at this
      exact this
    · rcases List.mem_cons.1 hy with rfl | hy
      · exact hg
      · exact h.ge y hy
theorem GrowT.own_ge (h : GrowT w B e v T) : ∀ b, v.ownBlock = some b → B ≤ b ∧ b < w.heap.size := fun b hb => own_lt' h.own hb
theorem GrowT.keep (h : GrowT w B e v T) (hs : w.heap.size ≤ w'.heap.size) (h1 : ∀ y ∈ ownL v ++ TriB T, w'.heap[y]? = w.heap[y]?) : GrowT w' B e v T :=
  ⟨own_kept1 h.own fun g hg => h1 g (List.mem_append_left _ (mem_ownL.2 hg)), fun t ht => (h.ok t ht).keep ⟨hs, fun y hy => h1 y (List.mem_append_right _ (triB_mem.2 ⟨t, ht, hy⟩))⟩, h.nd, h.ge⟩
theorem GrowT.below (h : GrowT w B e v T) (hb : Below w.heap.size w w') : GrowT w' B e v T :=
  h.keep hb.size fun y hy => by
    rcases List.mem_append.1 hy with hy | hy
    · exact hb.block y (h.own_ge y (mem_ownL.1 hy)).2
    · exact hb.block y (h.lt y hy)
theorem wpList_append_T {ops : Array Oper} {rest : List Oper} {o : Oper} {a : Act} {Q : Exit → Act → World → Prop} (hgd : o.guard = none) (s x : Operand) (t : TypeId)
    (ho : o.op = .call { callee := .builtin .append, args := #[s, x], argTypes := #[t, t] })
    (z : Value) (ht : P.underlying t = some (.slice e)) (hinfo : (P.info? e).map (fun i => (i.zero, i.size, decide (i.bytes ≤ 1024))) = some (some z, 1, true)) (hzs : z.cells.size = 1) (hs : a.eval s = v) (hG : GrowT w B e v T) {g0 : Nat} {d : Tri}
    (hx : a.eval x = .slice (some ⟨g0, 0, none⟩) 1 1) (hcell : w.cell? ⟨g0, 0, none⟩ = some d.e) (hd : d.ok w) (hdn : d.b.Nodup) (hdf : ∀ y ∈ d.b, y ∉ ownL v ++ TriB T) (hdB : ∀ y ∈ d.b, B ≤ y) (h63 : T.length + 1 ≤ 1000000000) (hbase : B ≤ w.heap.size)
    (h : ∀ v' w', GrowT w' B e v' (T ++ [d]) → Grew w w' v v' → wpList P ops Q rest (a.put o.dst v') w') : wpList P ops Q (o :: rest) a w := by
  refine wpList_plain hgd fun K hK => wp_append_es s x t ho z ht hinfo hzs hs hG.own hx hcell hd.one h63 hbase fun v' w' h5 h6 => hK _ _ (h v' w' ?_ h6)
  have keep : ∀ t ∈ T, Keeps w w' t.b := fun t ht => ⟨h6.touch.size, fun y hy => h6.touch.block y (Rep.lt _ (hG.ok t ht) y hy) fun hm => hG.far t ht y hy hm⟩
  have kd : Keeps w w' d.b := ⟨h6.touch.size, fun y hy => h6.touch.block y (Rep.lt _ hd y hy) fun hm => hdf y hy (List.mem_append_left _ hm)⟩
  have nd0 : (ownL v ++ TriB (T ++ [d])).Nodup := by
    rw [triB_snoc, ← List.append_assoc]
    refine List.nodup_append.2 ⟨hG.nd, hdn, fun y hy z hz e => ?_⟩
    subst e; exact hdf y hz hy
  refine ⟨by simpa using h5, fun t ht => ?_, h6.ownL_nodup nd0 fun y hy => ?_, fun y hy => ?_⟩
  · rcases List.mem_append.1 ht with ht | ht
    · exact (hG.ok t ht).keep (keep t ht)
    · rw [List.mem_singleton.1 ht]; exact hd.keep kd
  · rw [triB_snoc] at hy
    rcases List.mem_append.1 hy with hy | hy
    · exact hG.lt y hy
    · exact Rep.lt _ hd y hy
  · rw [triB_snoc] at hy
    rcases List.mem_append.1 hy with hy | hy
    · exact hG.ge y hy
    · exact hdB y hy
end
/-- neighbours that read alike struck -/
def cpT (a : Tri) : List Tri → List Tri
  | [] => []
  | b :: l => if a.x = b.x then cpT b l else b :: cpT b l
def compT : List Tri → List Tri
  | [] => []
  | a :: l => a :: cpT a l
theorem cpT_x : ∀ (l : List Tri) (a : Tri), (cpT a l).map Tri.x = cpL a.x (l.map Tri.x)
  | [], a => rfl
  | b :: l, a => by
    unfold cpT
    rw [List.map_cons, cpL]
    split
    · rename_i e; rw [cpT_x l b, e]
    · rw [List.map_cons, cpT_x l b]
theorem compT_x (T : List Tri) : (compT T).map Tri.x = compL (T.map Tri.x) := by
  cases T with
  | nil => rfl
  | cons a l => unfold compT compL; rw [List.map_cons, cpT_x]; rfl
theorem cpT_sub : ∀ (l : List Tri) (a : Tri), (cpT a l).Sublist l
  | [], _ => .slnil
  | b :: l, a => by
    unfold cpT
    split
    · exact (cpT_sub l b).cons b
    · exact (cpT_sub l b).cons₂ b
theorem compT_sub : ∀ T : List Tri, (compT T).Sublist T
  | [] => .slnil
  | a :: l => (cpT_sub l a).cons₂ a
theorem cpT_snoc : ∀ (l : List Tri) (a b : Tri), cpT a (l ++ [b]) = cpT a l ++ if ((a :: l).getLast (by simp)).x = b.x then [] else [b]
  | [], a, b => by by_cases h : a.x = b.x <;> simp [cpT, h]
  | c :: l, a, b => by
    rw [List.cons_append, cpT, cpT]
    have e : ((a :: c :: l).getLast (by simp)) = ((c :: l).getLast (by simp)) := by simp [List.getLast_cons]
    rw [cpT_snoc l c b, e]
    split <;> simp
theorem compT_snoc {T : List Tri} (h : T ≠ []) (b : Tri) : compT (T ++ [b]) = compT T ++ if (T.getLast h).x = b.x then [] else [b] := by
  cases T with
  | nil => exact absurd rfl h
  | cons a l => show a :: cpT a (l ++ [b]) = (a :: cpT a l) ++ _; rw [cpT_snoc]; rfl
theorem compT_take {T : List Tri} {k : Nat} (hk : k + 1 < T.length) : compT (T.take (k + 1 + 1)) = compT (T.take (k + 1)) ++ if (T[k]'(Nat.lt_of_succ_lt hk)).x = T[k + 1].x then [] else [T[k + 1]] := by
  rw [List.take_succ_eq_append_getElem hk]
  have hne : T.take (k + 1) ≠ [] := List.ne_nil_of_length_pos (by rw [List.length_take]; omega)
  rw [compT_snoc hne]
  have : (T.take (k + 1)).getLast hne = T[k]'(Nat.lt_of_succ_lt hk) := by
    rw [List.getLast_eq_getElem]
    simp only [List.length_take, List.getElem_take]
    congr 1; omega
  rw [this]
theorem compT_one (T : List Tri) (h : T.length < 2) : compT T = T := by
  match T, h with
  | [], _ => rfl
  | [a], _ => rfl
theorem Row.setN {g : Nat} {t : TypeId} : (vs l pre : List Value) → {w : World} → {tl : List Value} → Row w g t (pre ++ (l ++ tl)) → l.length = vs.length → Row (w.setCells g pre.length vs) g t (pre ++ (vs ++ tl))
  | [], l, pre, w, tl, h, hl => by
    have : l = [] := List.eq_nil_of_length_eq_zero hl
    subst this
    exact h
  | v :: vs, l, pre, w, tl, h, hl => by
    match l, hl with
    | u :: l, hl =>
      have h1 := h.set_in v
      have h2 := Row.setN vs l (pre ++ [v]) h1 (by simpa using hl)
      rw [List.length_append, List.length_singleton, List.append_assoc] at h2
      exact h2
theorem Touch.drewT {bs : List Nat} {a w : World} (h : Touch bs a w) (n : Nat) : Touch bs a (w.drewN n) := ⟨h.os, h.tape, h.output, h.size, h.block⟩
theorem Touch.setN {g : Nat} : (vs : List Value) → (o : Nat) → (w : World) → Touch [g] w (w.setCells g o vs)
  | [], _, w => Touch.refl _ w
  | v :: vs, o, w => ((Touch.refl _ w).setCell (p := ⟨g, o, none⟩) (by simp) v).trans (Touch.setN vs (o + 1) _)
/-- the cells' values ahead, in a row of c cells -/
def RowV (w : World) (g : Nat) (t : TypeId) (c : Nat) (cs : List Value) : Prop := ∃ rest, Row w g t (cs ++ rest) ∧ cs.length + rest.length = c
section
variable {w w' : World} {g i c : Nat} {t : TypeId} {cs : List Value}
theorem RowV.cell (h : RowV w g t c cs) (hi : i < cs.length) : w.cell? ⟨g, i, none⟩ = some cs[i] := by
  obtain ⟨rest, h, _⟩ := h
  rw [h.cell, List.getElem?_append_left hi, List.getElem?_eq_getElem hi]
theorem RowV.frozen (h : RowV w g t c cs) (i : Nat) : w.frozen? ⟨g, i, none⟩ = false := by
  obtain ⟨rest, h, _⟩ := h
  exact h.frozen i
theorem RowV.set (h : RowV w g t c cs) (hi : i < cs.length) (v : Value) : RowV (w.setCell ⟨g, i, none⟩ v) g t c (cs.set i v) := by
  obtain ⟨rest, h, hl⟩ := h
  refine ⟨rest, ?_, by simpa using hl⟩
  have := h.set i v
  rwa [List.set_append_left _ _ hi] at this
theorem RowV.drewN (h : RowV w g t c cs) (n : Nat) : RowV (w.drewN n) g t c cs := h
theorem own_rowV {B n : Nat} {es : List Value} (h : w.ownsRow B t 1 (.slice (some ⟨g, 0, none⟩) n c) n es) : RowV w g t c es ∧ B ≤ g ∧ c ≤ maxLen ∧ n ≤ c := by
  rcases h.2 with ⟨h0, _⟩ | ⟨g', cap', cur, hv, h2, h3, h4, h5, h6, h7⟩
  · cases h0
  · simp only [Value.slice.injEq, Option.some.injEq, Addr.mk.injEq] at hv
    obtain ⟨⟨rfl, _⟩, _, rfl⟩ := hv
    refine ⟨⟨cur.toList.drop (n * 1), ?_, ?_⟩, h2, h5, h4⟩
    · rw [← h7, List.take_append_drop]
      unfold Row; rw [h3]
    · have := h.1
      simp only [List.length_drop, Array.length_toList]
      omega
theorem rowV_own {B k : Nat} (h : RowV w g t c cs) (hB : B ≤ g) (hc : c ≤ maxLen) (hk : k ≤ cs.length) : w.ownsRow B t 1 (.slice (some ⟨g, 0, none⟩) k c) k (cs.take k) := by
  obtain ⟨rest, h, hl⟩ := h
  refine ⟨by simp; omega, .inr ⟨g, c, (cs ++ rest).toArray, rfl, hB, h, by omega, hc, by simp; omega, ?_⟩⟩
  simp only [Nat.mul_one]
  rw [List.take_append_of_le_length hk]
theorem RowV.clear {k m : Nat} {z : Value} (h : RowV w g t c cs) (hk : k + m = cs.length) : RowV (w.setCells g k (List.replicate m z)) g t c (cs.take k ++ List.replicate m z) := by
  obtain ⟨rest, h, hl⟩ := h
  refine ⟨rest, ?_, by simp; omega⟩
  have h1 : Row w g t (cs.take k ++ (cs.drop k ++ rest)) := by rw [← List.append_assoc, List.take_append_drop]; exact h
  have h2 := Row.setN (List.replicate m z) (cs.drop k) (cs.take k) h1 (by simp; omega)
  rw [List.length_take, Nat.min_eq_left (by omega)] at h2
  rw [List.append_assoc]; exact h2
end
end Go.Proofs.YtpmgmekbnbligaaGreat
