/- Slices of the call's own whose elements are slices of the call's own: they grow in place, at their last elements; no function of the program is walked here. -/
import Derived.Test.YtgogjbnneoadkaaGreatZpActs
set_option linter.all false
set_option linter.unusedSimpArgs false
set_option linter.unusedVariables false
namespace Go.Proofs.YtgogjbnneoadkaaGreat
open Go.ChangeShapes Go.WideShapes Go.ChangeAt Go.RowKit Go.Deep

def All3 {α β γ : Type} (R : α → β → γ → Prop) : List α → List β → List γ → Prop
  | [], [], [] => True
  | a :: us, b :: bs, c :: cs => R a b c ∧ All3 R us bs cs
  | _, _, _ => False
section
variable {α β γ : Type} {R S : α → β → γ → Prop}
theorem All3.len : ∀ {us : List α} {bs : List β} {cs : List γ}, All3 R us bs cs → us.length = bs.length
  | [], [], [], _ => rfl
  | _ :: us, _ :: bs, _ :: cs, h => by simp [All3.len h.2]
theorem All3.imp : ∀ {us : List α} {bs : List β} {cs : List γ}, All3 R us bs cs → (∀ a b c, c ∈ cs → R a b c → S a b c) → All3 S us bs cs
  | [], [], [], _, _ => trivial
  | _ :: us, _ :: bs, _ :: cs, h, k => ⟨k _ _ _ List.mem_cons_self h.1, h.2.imp fun a b c hc => k a b c (List.mem_cons_of_mem _ hc)⟩
theorem All3.snoc : ∀ {us : List α} {bs : List β} {cs : List γ} {a : α} {b : β} {c : γ}, All3 R us bs cs → R a b c → All3 R (us ++ [a]) (bs ++ [b]) (cs ++ [c])
  | [], [], [], _, _, _, _, k => ⟨k, trivial⟩
  | _ :: us, _ :: bs, _ :: cs, _, _, _, h, k => ⟨h.1, h.2.snoc k⟩
theorem All3.unsnoc : ∀ {us : List α} {bs : List β} {cs : List γ} {b : β}, All3 R us (bs ++ [b]) cs → ∃ us' a cs' c, us = us' ++ [a] ∧ cs = cs' ++ [c] ∧ All3 R us' bs cs' ∧ R a b c
  | [], [], _, _, h => by simp [All3] at h
  | [], _ :: _, _, _, h => by simp [All3] at h
  | _ :: _, [], [], _, h => by simp [All3] at h
  | _ :: _, _ :: _, [], _, h => by simp [All3] at h
  | [a], [], [c], _, h => ⟨[], a, [], c, rfl, rfl, trivial, h.1⟩
  | _ :: _ :: _, [], _ :: _, _, h => by simp [All3] at h
  | [_], [], _ :: _ :: _, _, h => by simp [All3] at h
  | a :: us, b' :: bs, c :: cs, b, h => by
    obtain ⟨us', a1, cs', c1, rfl, rfl, h1, h2⟩ := All3.unsnoc (bs := bs) h.2
    exact ⟨a :: us', a1, c :: cs', c1, rfl, rfl, ⟨h.1, h1⟩, h2⟩
theorem All3.mem : ∀ {us : List α} {bs : List β} {cs : List γ}, All3 R us bs cs → ∀ c ∈ cs, ∃ a b, R a b c
  | [], [], [], _, _, h => by cases h
  | _ :: us, _ :: bs, _ :: cs, h, c, hc => by
    rcases List.mem_cons.1 hc with rfl | hc
    · exact ⟨_, _, h.1⟩
    · exact h.2.mem c hc
end

/-- how an element lies in a world: its value, what it reads as, its blocks -/
abbrev Lies (α : Type) := World → Value → α → List Nat → Prop
structure Frames {α : Type} (B : Nat) (T : Lies α) : Prop where
  frame : ∀ {w w' : World} {v : Value} {x : α} {bs : List Nat}, T w v x bs → (∀ y ∈ bs, w'.heap[y]? = w.heap[y]?) → T w' v x bs
  lt : ∀ {w : World} {v : Value} {x : α} {bs : List Nat}, T w v x bs → ∀ y ∈ bs, B ≤ y ∧ y < w.heap.size
/-- a slice of integers of the call's own -/
def LI (B : Nat) (e : TypeId) : Lies (List Int) := fun w v xs bs => w.ownsRow B e 1 v xs.length (xs.map (Value.int .i64 ·)) ∧ (∀ x ∈ xs, I64 x) ∧ bs = ownL v
/-- a slice of such slices -/
def LL {α : Type} (B : Nat) (e : TypeId) (T : Lies α) : Lies (List α) := fun w v xs bs => ∃ vs bss, w.ownsRow B e 1 v xs.length vs ∧ All3 (T w) vs xs bss ∧ bs = ownL v ++ bss.flatten

section
variable {α : Type} {P : Program} {w w' : World} {B : Nat} {e : TypeId} {T : Lies α} {v : Value} {xs : List α} {x : α} {bs : List Nat}
theorem own_ltL {size n : Nat} {es : List Value} (h : w.ownsRow B e size v n es) : ∀ y ∈ ownL v, B ≤ y ∧ y < w.heap.size := fun _ hy => own_lt' h (mem_ownL.1 hy)
theorem own_eqL {size n : Nat} {es : List Value} (h : w.ownsRow B e size v n es) (hs : ∀ y ∈ ownL v, w'.heap[y]? = w.heap[y]?) : w'.ownsRow B e size v n es := own_kept1 h fun g hg => hs g (mem_ownL.2 hg)
theorem LI.frames (B : Nat) (e : TypeId) : Frames B (LI B e) where
  frame h hs := by
    obtain ⟨h1, h2, rfl⟩ := h
    exact ⟨own_eqL h1 hs, h2, rfl⟩
  lt h := by
    obtain ⟨h1, h2, rfl⟩ := h
    exact own_ltL h1
theorem LL.frames (hT : Frames B T) : Frames B (LL B e T) where
  frame h hs := by
    obtain ⟨vs, bss, h1, h2, rfl⟩ := h
    exact ⟨vs, bss, own_eqL h1 fun y hy => hs y (List.mem_append_left _ hy), h2.imp fun a b c hc k => hT.frame k fun y hy => hs y (List.mem_append_right _ (List.mem_flatten.2 ⟨c, hc, hy⟩)), rfl⟩
  lt h := by
    obtain ⟨vs, bss, h1, h2, rfl⟩ := h
    intro y hy
    rcases List.mem_append.1 hy with hy | hy
    · exact own_ltL h1 y hy
    · obtain ⟨c, hc, hy⟩ := List.mem_flatten.1 hy
      obtain ⟨a, b, k⟩ := h2.mem c hc
      exact hT.lt k y hy
theorem ownL_some (g n c : Nat) : ownL (.slice (some ⟨g, 0, none⟩) n c) = [g] := rfl
theorem LI.nil (w : World) (B : Nat) (e : TypeId) : LI B e w (.slice none 0 0) [] [] := ⟨World.ownsRow_nil _ _ _ _, by simp, rfl⟩
theorem LL.nil (w : World) (B : Nat) (e : TypeId) (T : Lies α) : LL B e T w (.slice none 0 0) [] [] := ⟨[], [], World.ownsRow_nil _ _ _ _, trivial, rfl⟩
theorem LI.form {xs : List Int} (h : LI B e w v xs bs) : ∃ A c, v = .slice A xs.length c := by
  obtain ⟨⟨_, h0 | ⟨g, cap, cur, rfl, _⟩⟩, _⟩ := h
  · obtain ⟨rfl, h0⟩ := h0; exact ⟨none, 0, by rw [h0]⟩
  · exact ⟨_, _, rfl⟩
theorem LL.form (h : LL B e T w v xs bs) : ∃ A c, v = .slice A xs.length c := by
  obtain ⟨vs, bss, ⟨_, h0 | ⟨g, cap, cur, rfl, _⟩⟩, _⟩ := h
  · obtain ⟨rfl, h0⟩ := h0; exact ⟨none, 0, by rw [h0]⟩
  · exact ⟨_, _, rfl⟩
theorem own_set {n g c i : Nat} {es : List Value} (h : w.ownsRow B e 1 (.slice (some ⟨g, 0, none⟩) n c) n es) (hi : i < n) (u : Value) : (w.setCell ⟨g, i, none⟩ u).ownsRow B e 1 (.slice (some ⟨g, 0, none⟩) n c) n (es.set i u) := by
  obtain ⟨h1, h0 | ⟨g', cap, cur, hv, h2, h3, h4, h5, h6, h7⟩⟩ := h
  · cases h0.1
  · simp only [Value.slice.injEq, Option.some.injEq, Addr.mk.injEq] at hv
    obtain ⟨⟨rfl, _⟩, _, rfl⟩ := hv
    have hlt : g < w.heap.size := by
      rcases Nat.lt_or_ge g w.heap.size with hlt | hge
      · exact hlt
      · rw [Array.getElem?_eq_none hge] at h3; cases h3
    refine ⟨by simpa using h1, .inr ⟨g, c, cur.setIfInBounds i u, rfl, h2, ?_, h4, h5, by simpa using h6, ?_⟩⟩
    · have hr : Row w g e cur.toList := by unfold Row; rw [h3]
      have := hr.set i u
      unfold Row at this
      rw [this]
      congr 2
      apply Array.ext'
      simp
    · rw [← h7]; simp only [Array.toList_setIfInBounds, Nat.mul_one]
      rw [List.take_set]
/-- the last element in place, and the slice with another one there -/
theorem LL.last (hT : Frames B T) (h : LL B e T w v (xs ++ [x]) bs) : ∃ g c u bx cb, v = .slice (some ⟨g, 0, none⟩) (xs.length + 1) c ∧ bs = g :: (cb ++ bx) ∧ w.cell? ⟨g, xs.length, none⟩ = some u ∧ w.frozen? ⟨g, xs.length, none⟩ = false ∧ T w u x bx ∧ B ≤ g ∧ g < w.heap.size ∧
    (∀ w' x' bx', (∀ y, y = g ∨ y ∈ cb → w'.heap[y]? = w.heap[y]?) → T w' u x' bx' → LL B e T w' v (xs ++ [x']) (g :: (cb ++ bx'))) ∧
    (∀ w' u' x' bx', (∀ y, y = g ∨ y ∈ cb → w'.heap[y]? = w.heap[y]?) → T w' u' x' bx' → g ∉ bx' → g ∉ cb → LL B e T (w'.setCell ⟨g, xs.length, none⟩ u') v (xs ++ [x']) (g :: (cb ++ bx'))) := by
  obtain ⟨vs, bss, h1, h2, rfl⟩ := h
  obtain ⟨vs, u, bss, bx, rfl, rfl, h3, h4⟩ := h2.unsnoc
  rw [List.length_append, List.length_singleton] at h1
  have hl := h3.len
  obtain ⟨g, c, rfl, hg, hlt⟩ := h1.form (by omega)
  have hcell : w.cell? ⟨g, xs.length, none⟩ = some u ∧ w.frozen? ⟨g, xs.length, none⟩ = false := by
    obtain ⟨_, h0 | ⟨g', cap, cur, hv, _, hh, _, _, _, ht⟩⟩ := h1
    · cases h0.1
    · simp only [Value.slice.injEq, Option.some.injEq, Addr.mk.injEq] at hv
      obtain ⟨⟨rfl, _⟩, _, rfl⟩ := hv
      have hr : Row w g e cur.toList := by unfold Row; rw [hh]
      refine ⟨?_, hr.frozen _⟩
      rw [hr.cell]
      have : (vs ++ [u])[xs.length]? = some u := by rw [← hl]; simp
      rw [← ht, Nat.mul_one, List.getElem?_take, if_pos (by omega)] at this
      exact this
  refine ⟨g, c, u, bx, bss.flatten, rfl, by rw [ownL_some]; simp, hcell.1, hcell.2, h4, hg, hlt, fun w' x' bx' hs k => ?_, fun w' u' x' bx' hs k n1 n2 => ?_⟩
  · refine ⟨vs ++ [u], bss ++ [bx'], ?_, ?_, by rw [ownL_some]; simp⟩
    · rw [List.length_append, List.length_singleton]
      exact own_eqL h1 fun y hy => hs y (.inl (by rw [ownL_some] at hy; simpa using hy))
    · exact (h3.imp fun a b c hc k => hT.frame k fun y hy => hs y (.inr (List.mem_flatten.2 ⟨c, hc, hy⟩))).snoc k
  · refine ⟨vs ++ [u'], bss ++ [bx'], ?_, ?_, by rw [ownL_some]; simp⟩
    · rw [List.length_append, List.length_singleton]
      have := own_set (own_eqL h1 (w' := w') fun y hy => hs y (.inl (by rw [ownL_some] at hy; simpa using hy))) (i := xs.length) (by omega) u'
      rwa [show (vs ++ [u]).set xs.length u' = vs ++ [u'] by rw [← hl]; simp] at this
    · refine (h3.imp fun a b c hc k => hT.frame k fun y hy => ?_).snoc (hT.frame k fun y hy => ?_)
      · have hm : y ∈ bss.flatten := List.mem_flatten.2 ⟨c, hc, hy⟩
        exact (Below.heap_setCell _ _ _ _ (show y ≠ g from fun e => n2 (e ▸ hm))).trans (hs y (.inr hm))
      · exact Below.heap_setCell _ _ _ _ (show y ≠ g from fun e => n1 (e ▸ hy))

/-- append of one cell to a row of the call's own, its cells said -/
theorem wp_append_es {o : Oper} {a : Act} {K : Act → World → Prop} {Q : Exit → Act → World → Prop} {j : Nat} {es : List Value} (s x : Operand) (t : TypeId)
    (ho : o.op = .call { callee := .builtin .append, args := #[s, x], argTypes := #[t, t] })
    (z : Value) (ht : P.underlying t = some (.slice e)) (hinfo : (P.info? e).map (fun i => (i.zero, i.size, decide (i.bytes ≤ 1024))) = some (some z, 1, true)) (hzs : z.cells.size = 1) (hs : a.eval s = v) (hG : w.ownsRow B e 1 v j es) {g0 : Nat} {u : Value}
    (hx : a.eval x = .slice (some ⟨g0, 0, none⟩) 1 1) (hcell : w.cell? ⟨g0, 0, none⟩ = some u) (h1 : u.oneCell' = true) (h63 : j + 1 ≤ 1000000000) (hbase : B ≤ w.heap.size)
    (h : ∀ v' w', w'.ownsRow B e 1 v' (j + 1) (es ++ [u]) → Grew w w' v v' → K (a.put o.dst v') w') : o.wp P a w K Q := by
  obtain ⟨i, hi, hzz⟩ := Option.map_eq_some_iff.1 hinfo
  simp only [Prod.mk.injEq, decide_eq_true_iff] at hzz
  obtain ⟨v', w', hrun, h2, h3, _, h5⟩ := run_append_own_at (P := P) w B t o.type e i z 1 i.bytes ht hi hzz.1 hzz.2.1 rfl hzs (by omega) v j es hG ⟨g0, 0, none⟩ 1 1 [u] (by simp)
    (fun j u' hu => by
      rcases j with _ | j
      · rw [add_none]; simp at hu; rw [← hu]; exact hcell
      · simp at hu) (by simpa using h1) (by unfold maxLen; omega) (by have := Nat.mul_le_mul h63 hzz.2.2; omega) hbase
  unfold Oper.wp execOp
  simp only [ho, resolve, invoke, builtin, Sem.run_bind, Sem.run_pure, Result.andThen_ok, List.map_toArray, List.map_cons, List.map_nil, hs, hx, hrun]
  refine h v' w' h2 ⟨⟨h3.os, h3.tape, h3.output, h3.size, fun y hy hm => h3.block y hy fun e => hm (mem_ownL.2 e.symm)⟩, fun y hy => ?_⟩
  rcases h5 with h5 | h5
  · rw [h5] at hy; exact .inl hy
  · rw [h5] at hy
    have : w.heap.size = y := by simpa using hy
    exact .inr (by omega)
theorem Grew.ownL_nodup {u v : Value} {cb : List Nat} (h : Grew w w' u v) (hn : (ownL u ++ cb).Nodup) (hl : ∀ y ∈ cb, y < w.heap.size) : (ownL v ++ cb).Nodup := by
  refine List.nodup_append.2 ⟨?_, (List.nodup_append.1 hn).2.1, fun y hy z hz e => ?_⟩
  · unfold ownL; split <;> simp
  · subst e
    rcases h.own y (mem_ownL.1 hy) with h1 | h1
    · exact (List.nodup_append.1 hn).2.2 y (mem_ownL.2 h1) y hz rfl
    · have := hl y hz; omega
theorem LI.grown {xs : List Int} {n : Int} (h : LI B e w v xs bs) (hn : I64 n) {v' : Value} (h2 : w'.ownsRow B e 1 v' (xs.length + 1) (xs.map (Value.int .i64 ·) ++ [.int .i64 n])) : LI B e w' v' (xs ++ [n]) (ownL v') :=
  ⟨by simpa using h2, fun y hy => by
    rcases List.mem_append.1 hy with hy | hy
    · exact h.2.1 y hy
    · rw [List.mem_singleton.1 hy]; exact hn, rfl⟩
/-- a slice that grows by an element without blocks -/
theorem LL.open_ (h : LL B e T w v xs bs) : ∃ vs cb, bs = ownL v ++ cb ∧ w.ownsRow B e 1 v xs.length vs ∧
    ∀ w' v' u x, Frames B T → (ownL v ++ cb).Nodup → (∀ y ∈ cb, w'.heap[y]? = w.heap[y]?) → w'.ownsRow B e 1 v' (xs.length + 1) (vs ++ [u]) → T w' u x [] → LL B e T w' v' (xs ++ [x]) (ownL v' ++ cb) := by
  obtain ⟨vs, bss, h1, h2, rfl⟩ := h
  refine ⟨vs, bss.flatten, rfl, h1, fun w' v' u x hT hn hs h3 h4 => ⟨vs ++ [u], bss ++ [[]], by simpa using h3, (h2.imp fun a b c hc k => hT.frame k fun y hy => hs y (List.mem_flatten.2 ⟨c, hc, hy⟩)).snoc h4, by simp⟩⟩
theorem wp_append_LL {o : Oper} {a : Act} {K : Act → World → Prop} {Q : Exit → Act → World → Prop} (hT : Frames B T) (s x : Operand) (t : TypeId)
    (ho : o.op = .call { callee := .builtin .append, args := #[s, x], argTypes := #[t, t] })
    (z : Value) (ht : P.underlying t = some (.slice e)) (hinfo : (P.info? e).map (fun i => (i.zero, i.size, decide (i.bytes ≤ 1024))) = some (some z, 1, true)) (hzs : z.cells.size = 1) (hs : a.eval s = v) (hG : LL B e T w v xs bs) (hn : bs.Nodup) {g0 : Nat} {u : Value} {d : α}
    (hx : a.eval x = .slice (some ⟨g0, 0, none⟩) 1 1) (hcell : w.cell? ⟨g0, 0, none⟩ = some u) (h1 : u.oneCell' = true) (hu : ∀ W, T W u d []) (h63 : xs.length + 1 ≤ 1000000000) (hbase : B ≤ w.heap.size)
    (h : ∀ v' w' cb, bs = ownL v ++ cb → LL B e T w' v' (xs ++ [d]) (ownL v' ++ cb) → (ownL v' ++ cb).Nodup → Grew w w' v v' → K (a.put o.dst v') w') : o.wp P a w K Q := by
  have hlt := (LL.frames hT (e := e)).lt hG
  obtain ⟨vs, cb, rfl, h3, h4⟩ := hG.open_
  refine wp_append_es s x t ho z ht hinfo hzs hs h3 hx hcell h1 h63 hbase fun v' w' h5 h6 => h v' w' cb rfl (h4 w' v' u d hT hn (fun y hy => h6.touch.block y (hlt y (by simp [hy])).2 fun hm => (List.nodup_append.1 hn).2.2 y hm y hy rfl) h5 (hu _)) (h6.ownL_nodup hn fun y hy => (hlt y (by simp [hy])).2) h6
theorem wp_append_LI {o : Oper} {a : Act} {K : Act → World → Prop} {Q : Exit → Act → World → Prop} {xs : List Int} {n : Int} (s x : Operand) (t : TypeId)
    (ho : o.op = .call { callee := .builtin .append, args := #[s, x], argTypes := #[t, t] })
    (ht : P.underlying t = some (.slice e)) (hinfo : (P.info? e).map (fun i => (i.zero, i.size, decide (i.bytes ≤ 1024))) = some (some (.int .i64 0), 1, true)) (hs : a.eval s = v) (hG : LI B e w v xs bs) {g0 : Nat}
    (hx : a.eval x = .slice (some ⟨g0, 0, none⟩) 1 1) (hcell : w.cell? ⟨g0, 0, none⟩ = some (.int .i64 n)) (hn : I64 n) (h63 : xs.length + 1 ≤ 1000000000) (hbase : B ≤ w.heap.size)
    (h : ∀ v' w', LI B e w' v' (xs ++ [n]) (ownL v') → Grew w w' v v' → K (a.put o.dst v') w') : o.wp P a w K Q :=
  wp_append_es s x t ho _ ht hinfo rfl hs hG.1 hx hcell rfl h63 hbase fun v' w' h5 h6 => h v' w' (hG.grown hn h5) h6
/-- what it reads as -/
theorem LI.rep {xs : List Int} (h : LI B e w v xs bs) : Rep w (ints xs) [v] bs := by
  obtain ⟨h1, h2, rfl⟩ := h
  obtain ⟨A, c, bs, rfl, h3, h4⟩ := Rep.of_own (xs := xs.map D.int) h1 (by simp) ((reps_ints xs).2 ⟨rfl, rfl, h2⟩)
  rcases h4 with ⟨h4, rfl⟩ | ⟨g, rfl, _, h4⟩
  · rw [h4] at h3 ⊢; exact h3
  · have : ownL (Value.slice A xs.length c) = [g] := by unfold ownL; rw [h4]
    rw [this]; exact h3
theorem All3.reps {f : α → D} (hf : ∀ {v x bs}, T w v x bs → Rep w (f x) [v] bs) : ∀ {vs : List Value} {xs : List α} {bss : List (List Nat)}, All3 (T w) vs xs bss → Reps w (xs.map f) vs bss.flatten
  | [], [], [], _ => ⟨rfl, rfl⟩
  | v :: vs, x :: xs, b :: bss, h => ⟨[v], vs, b, bss.flatten, rfl, rfl, hf h.1, All3.reps hf h.2⟩
theorem LL.rep {f : α → D} (hf : ∀ {w v x bs}, T w v x bs → Rep w (f x) [v] bs) (h : LL B e T w v xs bs) : Rep w (sls f xs) [v] bs := by
  obtain ⟨vs, bss, h1, h2, rfl⟩ := h
  obtain ⟨A, c, bs, rfl, h3, h4⟩ := Rep.of_own (xs := xs.map f) h1 (by simp) (h2.reps hf)
  rcases h4 with ⟨h4, rfl⟩ | ⟨g, rfl, _, h4⟩
  · have hb := Rep.lt _ h3
    rw [h4] at h3 ⊢
    simp only [Value.slice.injEq] at h4
    have hx : xs = [] := List.length_eq_zero_iff.1 h4.2.1
    subst hx
    have : bss = [] := by
      rcases vs with _ | ⟨_, _⟩ <;> rcases bss with _ | ⟨_, _⟩ <;> simp [All3] at h2 ⊢
    subst this
    exact h3
  · have : ownL (Value.slice A xs.length c) = [g] := by unfold ownL; rw [h4]
    rw [this]; exact h3
end

section
variable {α : Type} {P : Program} {w w' : World} {B : Nat} {e : TypeId} {T : Lies α} {v : Value} {xs : List α} {x : α} {bs : List Nat}
theorem wpList_append_LL {ops : Array Oper} {rest : List Oper} {o : Oper} {a : Act} {Q : Exit → Act → World → Prop} (hgd : o.guard = none) (hT : Frames B T) (s x : Operand) (t : TypeId)
    (ho : o.op = .call { callee := .builtin .append, args := #[s, x], argTypes := #[t, t] })
    (z : Value) (ht : P.underlying t = some (.slice e)) (hinfo : (P.info? e).map (fun i => (i.zero, i.size, decide (i.bytes ≤ 1024))) = some (some z, 1, true)) (hzs : z.cells.size = 1) (hs : a.eval s = v) (hG : LL B e T w v xs bs) (hn : bs.Nodup) {g0 : Nat} {u : Value} {d : α}
    (hx : a.eval x = .slice (some ⟨g0, 0, none⟩) 1 1) (hcell : w.cell? ⟨g0, 0, none⟩ = some u) (h1 : u.oneCell' = true) (hu : ∀ W, T W u d []) (h63 : xs.length + 1 ≤ 1000000000) (hbase : B ≤ w.heap.size)
    (h : ∀ v' w' cb, bs = ownL v ++ cb → LL B e T w' v' (xs ++ [d]) (ownL v' ++ cb) → (ownL v' ++ cb).Nodup → Grew w w' v v' → wpList P ops Q rest (a.put o.dst v') w') : wpList P ops Q (o :: rest) a w :=
  wpList_plain hgd fun _ hK => wp_append_LL hT s x t ho z ht hinfo hzs hs hG hn hx hcell h1 hu h63 hbase fun v' w' cb h1 h2 h3 h4 => hK _ _ (h v' w' cb h1 h2 h3 h4)
theorem wpList_append_LI {ops : Array Oper} {rest : List Oper} {o : Oper} {a : Act} {Q : Exit → Act → World → Prop} (hgd : o.guard = none) {xs : List Int} {n : Int} (s x : Operand) (t : TypeId)
    (ho : o.op = .call { callee := .builtin .append, args := #[s, x], argTypes := #[t, t] })
    (ht : P.underlying t = some (.slice e)) (hinfo : (P.info? e).map (fun i => (i.zero, i.size, decide (i.bytes ≤ 1024))) = some (some (.int .i64 0), 1, true)) (hs : a.eval s = v) (hG : LI B e w v xs bs) {g0 : Nat}
    (hx : a.eval x = .slice (some ⟨g0, 0, none⟩) 1 1) (hcell : w.cell? ⟨g0, 0, none⟩ = some (.int .i64 n)) (hn : I64 n) (h63 : xs.length + 1 ≤ 1000000000) (hbase : B ≤ w.heap.size)
    (h : ∀ v' w', LI B e w' v' (xs ++ [n]) (ownL v') → Grew w w' v v' → wpList P ops Q rest (a.put o.dst v') w') : wpList P ops Q (o :: rest) a w :=
  wpList_plain hgd fun _ hK => wp_append_LI s x t ho ht hinfo hs hG hx hcell hn h63 hbase fun v' w' h1 h2 => hK _ _ (h v' w' h1 h2)
theorem Frames.below (hT : Frames B T) {y : α} (h : T w v y bs) (hb : Below w.heap.size w w') : T w' v y bs := hT.frame h fun y hy => hb.block y (hT.lt h y hy).2
/-- the last element, to be stored anew when it has grown -/
theorem LL.mid {β : Type} {S : Lies β} {e' : TypeId} {xs : List (List β)} {x : List β} (hS : Frames B S) (h : LL B e (LL B e' S) w v (xs ++ [x]) bs) (hn : bs.Nodup) :
    ∃ g c A c1 b1, v = .slice (some ⟨g, 0, none⟩) (xs.length + 1) c ∧ w.cell? ⟨g, xs.length, none⟩ = some (.slice A x.length c1) ∧ w.frozen? ⟨g, xs.length, none⟩ = false ∧ B ≤ g ∧ g < w.heap.size ∧ LL B e' S w (.slice A x.length c1) x b1 ∧ b1.Nodup ∧ g ∉ ownL (.slice A x.length c1) ∧
      ∀ w' u' x' cb, b1 = ownL (.slice A x.length c1) ++ cb → (∀ y, y < w.heap.size → y ∉ ownL (.slice A x.length c1) → w'.heap[y]? = w.heap[y]?) → LL B e' S w' u' x' (ownL u' ++ cb) → (ownL u' ++ cb).Nodup → (∀ y ∈ ownL u', y ∈ ownL (.slice A x.length c1) ∨ w.heap.size ≤ y) →
        ∃ bs', LL B e (LL B e' S) (w'.setCell ⟨g, xs.length, none⟩ u') v (xs ++ [x']) bs' ∧ bs'.Nodup := by
  have hlt := (LL.frames (LL.frames hS)).lt h
  obtain ⟨g, c, u, bx, cb0, rfl, rfl, h1, h2, h3, h4, h5, _, h7⟩ := h.last (LL.frames hS)
  obtain ⟨A, c1, rfl⟩ := h3.form
  obtain ⟨n1, n2⟩ := List.nodup_cons.1 hn
  obtain ⟨n3, n4, n5⟩ := List.nodup_append.1 n2
  have hown : ∀ y ∈ ownL (.slice A x.length c1), y ∈ bx := fun y hy => by
    obtain ⟨vs, bss, _, _, rfl⟩ := h3
    exact List.mem_append_left _ hy
  refine ⟨g, c, A, c1, bx, rfl, h1, h2, h4, h5, h3, n4, fun hm => n1 (List.mem_append_right _ (hown g hm)), fun w' u' x' cb he hs k1 k2 k3 => ⟨_, h7 w' u' x' _ (fun y hy => ?_) k1 (fun hm => ?_) (fun hm => n1 (List.mem_append_left _ hm)), ?_⟩⟩
  · rcases hy with rfl | hy
    · exact hs y h5 fun hm => n1 (List.mem_append_right _ (hown y hm))
    · exact hs y (hlt y (by simp [hy])).2 fun hm => n5 y hy y (hown y hm) rfl
  · rcases List.mem_append.1 hm with hm | hm
    · rcases k3 g hm with hm | hm
      · exact n1 (List.mem_append_right _ (hown g hm))
      · omega
    · exact n1 (List.mem_append_right _ (by rw [he]; exact List.mem_append_right _ hm))
  · refine List.nodup_cons.2 ⟨fun hm => ?_, List.nodup_append.2 ⟨n3, k2, fun y hy z hz e => ?_⟩⟩
    · rcases List.mem_append.1 hm with hm | hm
      · exact n1 (List.mem_append_left _ hm)
      · rcases List.mem_append.1 hm with hm | hm
        · rcases k3 g hm with hm | hm
          · exact n1 (List.mem_append_right _ (hown g hm))
          · omega
        · exact n1 (List.mem_append_right _ (by rw [he]; exact List.mem_append_right _ hm))
    · subst e
      rcases List.mem_append.1 hz with hz | hz
      · rcases k3 y hz with hz | hz
        · exact n5 y hy y (hown y hz) rfl
        · have := (hlt y (by simp [hy])).2; omega
      · exact n5 y hy y (by rw [he]; exact List.mem_append_right _ hz) rfl
/-- the last list of the last element, to be stored anew when it has grown -/
theorem LL.inn {e1 e2 : TypeId} {Xs : List (List (List Int))} {xs : List (List Int)} {x : List Int} (h : LL B e (LL B e1 (LI B e2)) w v (Xs ++ [xs ++ [x]]) bs) (hn : bs.Nodup) :
    ∃ g c g1 c1 A2 c2, v = .slice (some ⟨g, 0, none⟩) (Xs.length + 1) c ∧ w.cell? ⟨g, Xs.length, none⟩ = some (.slice (some ⟨g1, 0, none⟩) (xs.length + 1) c1) ∧ B ≤ g ∧ g < w.heap.size ∧ w.cell? ⟨g1, xs.length, none⟩ = some (.slice A2 x.length c2) ∧ w.frozen? ⟨g1, xs.length, none⟩ = false ∧ B ≤ g1 ∧ g1 < w.heap.size ∧ g1 ≠ g ∧
      LI B e2 w (.slice A2 x.length c2) x (ownL (.slice A2 x.length c2)) ∧ g1 ∉ ownL (.slice A2 x.length c2) ∧
      ∀ w' u' x', (∀ y, y < w.heap.size → y ∉ ownL (.slice A2 x.length c2) → w'.heap[y]? = w.heap[y]?) → LI B e2 w' u' x' (ownL u') → (∀ y ∈ ownL u', y ∈ ownL (.slice A2 x.length c2) ∨ w.heap.size ≤ y) →
        ∃ bs', LL B e (LL B e1 (LI B e2)) (w'.setCell ⟨g1, xs.length, none⟩ u') v (Xs ++ [xs ++ [x']]) bs' ∧ bs'.Nodup := by
  have hF1 := LL.frames (e := e1) (LI.frames B e2)
  have hlt := (LL.frames hF1).lt h
  obtain ⟨g, c, u, bx, cb0, rfl, rfl, h1, h2, h3, h4, h5, h6, _⟩ := h.last hF1
  obtain ⟨n1, n2⟩ := List.nodup_cons.1 hn
  obtain ⟨n3, n4, n5⟩ := List.nodup_append.1 n2
  obtain ⟨g1, c1, u2, b2, cb1, rfl, rfl, k1, k2, k3, k4, k5, _, k7⟩ := h3.last (LI.frames B e2)
  obtain ⟨A2, c2, rfl⟩ := k3.form
  obtain ⟨m1, m2⟩ := List.nodup_cons.1 n4
  obtain ⟨m3, m4, m5⟩ := List.nodup_append.1 m2
  have hb2 : b2 = ownL (.slice A2 x.length c2) := k3.2.2
  subst hb2
  refine ⟨g, c, g1, c1, A2, c2, rfl, h1, h4, h5, k1, k2, k4, k5, fun e => n1 (List.mem_append_right _ (by rw [e]; simp)), k3, fun hm => m1 (List.mem_append_right _ hm), fun w' u' x' hs q1 q3 => ?_⟩
  have hg1 : g1 ∉ ownL u' := fun hm => by
    rcases q3 g1 hm with hm | hm
    · exact m1 (List.mem_append_right _ hm)
    · omega
  have q4 := k7 w' u' x' _ (fun y hy => by
    rcases hy with rfl | hy
    · exact hs y k5 fun hm => m1 (List.mem_append_right _ hm)
    · exact hs y (hlt y (by simp [hy])).2 fun hm => m5 y hy y hm rfl) q1 hg1 (fun hm => m1 (List.mem_append_left _ hm))
  have q5 := h6 (w'.setCell ⟨g1, xs.length, none⟩ u') (xs ++ [x']) _ (fun y hy => by
    have hne : y ≠ g1 := fun e => by
      rcases hy with rfl | hy
      · exact n1 (List.mem_append_right _ (by rw [e]; simp))
      · exact n5 y hy y (by rw [e]; simp) rfl
    refine (Below.heap_setCell _ _ _ _ hne).trans ?_
    rcases hy with rfl | hy
    · exact hs y h5 fun hm => n1 (List.mem_append_right _ (by simp [hm]))
    · exact hs y (hlt y (by simp [hy])).2 fun hm => n5 y hy y (by simp [hm]) rfl) q4
  refine ⟨_, q5, ?_⟩
  have key : ∀ y, (y = g ∨ y ∈ cb0 ∨ y = g1 ∨ y ∈ cb1) → y < w.heap.size ∧ y ∈ g :: (cb0 ++ g1 :: (cb1 ++ ownL (.slice A2 x.length c2))) := fun y hy => by
    have hm : y ∈ g :: (cb0 ++ g1 :: (cb1 ++ ownL (.slice A2 x.length c2))) := by
      rcases hy with rfl | hy | rfl | hy <;> simp_all
    exact ⟨(hlt y hm).2, hm⟩
  have hnew : ∀ y ∈ ownL u', ¬ (y = g ∨ y ∈ cb0 ∨ y = g1 ∨ y ∈ cb1) := fun y hy hc => by
    rcases q3 y hy with hm | hm
    · rcases hc with rfl | hc | rfl | hc
      · exact n1 (List.mem_append_right _ (by simp [hm]))
      · exact n5 y hc y (by simp [hm]) rfl
      · exact m1 (List.mem_append_right _ hm)
      · exact m5 y hc y hm rfl
    · have := (key y hc).1; omega
  have hnd : (ownL u').Nodup := by unfold ownL; split <;> simp
  refine List.nodup_cons.2 ⟨fun hm => ?_, List.nodup_append.2 ⟨n3, List.nodup_cons.2 ⟨fun hm => ?_, List.nodup_append.2 ⟨m3, hnd, fun y hy z hz e => ?_⟩⟩, fun y hy z hz e => ?_⟩⟩
  · rcases List.mem_append.1 hm with hm | hm
    · exact n1 (List.mem_append_left _ hm)
    · rcases List.mem_cons.1 hm with rfl | hm
      · exact n1 (by simp)
      · rcases List.mem_append.1 hm with hm | hm
        · exact n1 (by simp [hm])
        · exact hnew g hm (.inl rfl)
  · rcases List.mem_append.1 hm with hm | hm
    · exact m1 (by simp [hm])
    · exact hg1 hm
  · subst e; exact hnew y hz (.inr (.inr (.inr hy)))
  · subst e
    rcases List.mem_cons.1 hz with rfl | hz
    · exact n5 y hy y (by simp) rfl
    · rcases List.mem_append.1 hz with hz | hz
      · exact n5 y hy y (by simp [hz]) rfl
      · exact hnew y hz (.inr (.inl hy))
end

section
variable {α : Type} {w0 wc w' : World} {B : Nat} {e : TypeId} {T : Lies α} {u v : Value} {xs : List α} {bs : List Nat}
theorem Grew.heap_eq (h : Grew wc w' u v) (hb : Below w0.heap.size w0 wc) : (∀ y, y < w0.heap.size → y ∉ ownL u → w'.heap[y]? = w0.heap[y]?) ∧ ∀ y ∈ ownL v, y ∈ ownL u ∨ w0.heap.size ≤ y :=
  ⟨fun y hy hm => (h.touch.block y (Nat.lt_of_lt_of_le hy hb.size) hm).trans (hb.block y hy), fun y hy => (h.own y (mem_ownL.1 hy)).imp mem_ownL.2 fun h => Nat.le_trans hb.size h⟩
theorem Grew.cellH (h : Grew wc w' u v) (hb : Below w0.heap.size w0 wc) {g : Nat} (hg : g < w0.heap.size) (hn : g ∉ ownL u) (o : Nat) : w'.cell? ⟨g, o, none⟩ = w0.cell? ⟨g, o, none⟩ ∧ w'.frozen? ⟨g, o, none⟩ = w0.frozen? ⟨g, o, none⟩ := by
  have := (h.heap_eq hb).1 g hg hn
  exact ⟨World.cell?_of_block this, World.frozen?_of_block this⟩
theorem LL.own_ge (h : LL B e T w0 v xs bs) : ∀ b, v.ownBlock = some b → B ≤ b ∧ b < w0.heap.size := by
  obtain ⟨vs, bss, h1, _⟩ := h
  exact fun b hb => own_lt' h1 hb
theorem LI.own_ge {xs : List Int} (h : LI B e w0 v xs bs) : ∀ b, v.ownBlock = some b → B ≤ b ∧ b < w0.heap.size := fun b hb => own_lt' h.1 hb
/-- what a store to a cell leaves of another one -/
theorem set_far {w : World} {g o g' o' : Nat} {u x : Value} (h : (w.setCell ⟨g, o, none⟩ u).cell? ⟨g', o', none⟩ = some x) (hn : g' ≠ g) : w.cell? ⟨g', o', none⟩ = some x := by
  rwa [World.cell?_setCell_other _ _ _ _ (fun e => hn (show g' = g from (congrArg Addr.block e).symm))] at h
theorem set_farF {w : World} {g o g' o' : Nat} {u : Value} (h : (w.setCell ⟨g, o, none⟩ u).frozen? ⟨g', o', none⟩ = false) : w.frozen? ⟨g', o', none⟩ = false := by
  rwa [World.frozen?_setCell] at h
theorem set_here {w : World} {g o : Nat} {u x y : Value} (h : (w.setCell ⟨g, o, none⟩ u).cell? ⟨g, o, none⟩ = some x) (h0 : w.cell? ⟨g, o, none⟩ = some y) : u = x := by
  rw [World.cell?_setCell_same _ _ _ h0] at h
  exact Option.some.inj h
end
end Go.Proofs.YtgogjbnneoadkaaGreat
