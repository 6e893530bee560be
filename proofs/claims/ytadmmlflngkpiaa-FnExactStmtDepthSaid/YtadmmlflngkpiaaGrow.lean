/- A slice of the call's own that grows by append, element by element: what it reads as; append's law on it. -/
import Derived.Test.YtadmmlflngkpiaaCore
import Derived.Maps.AppendAt
import Derived.Deep.AppendLies
import Derived.OwnWalk
set_option linter.all false
set_option linter.unusedSimpArgs false
set_option linter.unusedVariables false
namespace Go.Proofs.Ytadmmlflngkpiaa
open Go.ChangeShapes Go.WideShapes Go.ChangeAt Go.RowKit Go.Deep

/-- the value v is a slice of elements e (size cells each) that the call has made since the heap had B blocks; it reads as xs -/
def Grow (w : World) (B : Nat) (e : TypeId) (size : Nat) (v : Value) (xs : List D) : Prop :=
  ∃ es cb, w.ownsRow B e size v xs.length es ∧ Reps w xs es cb ∧ cb.Nodup ∧ (∀ y ∈ cb, B ≤ y) ∧ ∀ g, v.ownBlock = some g → g ∉ cb

section
variable {w w' w0 : World} {B : Nat} {e : TypeId} {size : Nat} {v : Value} {xs : List D}
theorem Grow.nil (w : World) (B : Nat) (e : TypeId) (size : Nat) : Grow w B e size (.slice none 0 0) [] :=
  ⟨[], [], ⟨by simp, .inl ⟨rfl, rfl⟩⟩, ⟨rfl, rfl⟩, by simp, by simp, fun g h => by cases h⟩
theorem Grow.made (w : World) {B : Nat} (e : TypeId) (size : Nat) (hB : B ≤ w.heap.size) : Grow (w.alloc (.cells #[] e)) B e size (.slice (some ⟨w.heap.size, 0, none⟩) 0 0) [] :=
  ⟨[], [], ⟨by simp, .inr ⟨w.heap.size, 0, #[], rfl, hB, heap_alloc_new w _, Nat.le_refl _, Nat.zero_le _, by simp, by simp⟩⟩, ⟨rfl, rfl⟩, by simp, by simp, by simp⟩
theorem own_kept {n : Nat} {es : List Value} (h : w.ownsRow B e size v n es) (hs : w.heap.size ≤ w'.heap.size) (hb : ∀ g, B ≤ g → g < w.heap.size → w'.heap[g]? = w.heap[g]?) : w'.ownsRow B e size v n es := by
  refine ⟨h.1, ?_⟩
  rcases h.2 with h0 | ⟨g, cap, cur, rfl, h1, h2, h3, h4, h5, h6⟩
  · exact .inl h0
  · have hlt : g < w.heap.size := by
      rcases Nat.lt_or_ge g w.heap.size with hlt | hge
      · exact hlt
      · rw [Array.getElem?_eq_none hge] at h2; cases h2
    exact .inr ⟨g, cap, cur, rfl, h1, (hb g h1 hlt).trans h2, h3, h4, h5, h6⟩
theorem own_lt' {n g : Nat} {es : List Value} (h : w.ownsRow B e size v n es) (hg : v.ownBlock = some g) : B ≤ g ∧ g < w.heap.size := by
  rcases h.2 with ⟨rfl, _⟩ | ⟨g', cap, cur, rfl, h1, hh, _⟩
  · cases hg
  · have : g' = g := by simpa [Value.ownBlock] using hg
    subst this
    refine ⟨h1, ?_⟩
    rcases Nat.lt_or_ge g' w.heap.size with h | h
    · exact h
    · rw [Array.getElem?_eq_none h] at hh; cases hh
theorem Grow.kept (h : Grow w B e size v xs) (hs : w.heap.size ≤ w'.heap.size) (hb : ∀ g, B ≤ g → g < w.heap.size → w'.heap[g]? = w.heap[g]?) : Grow w' B e size v xs := by
  obtain ⟨es, cb, h1, h2, h3, h4, h5⟩ := h
  exact ⟨es, cb, own_kept h1 hs hb, Reps.keep _ h2 ⟨hs, fun y hy => hb y (h4 y hy) (Reps.lt _ h2 y hy)⟩, h3, h4, h5⟩
theorem Grow.below (h : Grow w B e size v xs) (hb : Below w.heap.size w w') : Grow w' B e size v xs := h.kept hb.size fun g _ hl => hb.block g hl
theorem Grow.drewN (h : Grow w B e size v xs) (n : Nat) : Grow (w.drewN n) B e size v xs := h.kept (Nat.le_refl _) fun _ _ _ => rfl
theorem Grow.set_low (h : Grow w B e size v xs) {p : Addr} (hp : p.block < B) (u : Value) : Grow (w.setCell p u) B e size v xs :=
  h.kept (by simp [World.setCell]) fun g hg _ => Below.heap_setCell _ _ _ _ (fun e => by omega)
theorem Grow.more (h : Grow w B e size v xs) {B' : Nat} (hB : B' ≤ B) : Grow w B' e size v xs := by
  obtain ⟨es, cb, h1, h2, h3, h4, h5⟩ := h
  refine ⟨es, cb, ⟨h1.1, ?_⟩, h2, h3, fun y hy => Nat.le_trans hB (h4 y hy), h5⟩
  rcases h1.2 with h0 | ⟨g, cap, cur, r1, r2, r3⟩
  · exact .inl h0
  · exact .inr ⟨g, cap, cur, r1, Nat.le_trans hB r2, r3⟩
theorem Grow.rep (h : Grow w B e size v xs) : ∃ A c bs, v = .slice A xs.length c ∧ Rep w (.sl xs) [.slice A xs.length c] bs ∧ bs.Nodup ∧ ∀ y ∈ bs, B ≤ y := by
  obtain ⟨es, cb, h1, h2, h3, h4, h5⟩ := h
  obtain ⟨A, c, bs, rfl, h6, h7⟩ := Rep.of_own h1 rfl h2
  refine ⟨A, c, bs, rfl, h6, ?_, ?_⟩
  · rcases h7 with ⟨_, rfl⟩ | ⟨g, rfl, _, hg⟩
    · simp
    · exact List.nodup_cons.2 ⟨h5 g hg, h3⟩
  · rcases h7 with ⟨_, rfl⟩ | ⟨g, rfl, hg, _⟩
    · simp
    · intro y hy
      rcases List.mem_cons.1 hy with rfl | hy
      · exact hg
      · exact h4 y hy
theorem Grow.form (h : Grow w B e size v xs) : ∃ A c, v = .slice A xs.length c ∧ xs.length ≤ c ∧ c ≤ maxLen := by
  obtain ⟨A, c, bs, rfl, h6, _⟩ := h.rep
  obtain ⟨h1, h2, h3⟩ := h6.sl_len
  exact ⟨A, c, rfl, h2, h3⟩

/-- one element more: its cells lie in the block that the statement has made for it -/
theorem run_append_grow {P : Program} (w w0 : World) (t ty : TypeId) (i : TypeInfo) (z : Value) (bytes : Nat) (ht : P.underlying t = some (.slice e)) (hi : P.info? e = some i) (hz : i.zero = some z)
    (hsize : i.size = size) (hby : i.bytes = bytes) (hzs : z.cells.size = size) (hsz : 0 < size) (hG : Grow w0 B e size v xs) (hb0 : Below w0.heap.size w0 w) {x : D} {g0 : Nat} {news : List Value} {b1 : List Nat}
    (hr : Rep w x news b1) (hn : b1.Nodup) (hf : ∀ y ∈ b1, w0.heap.size ≤ y) (hcells : ∀ j u, news[j]? = some u → w.cell? ⟨g0, j, none⟩ = some u) (hlen : news.length = size) (h1 : ∀ u ∈ news, u.oneCell' = true)
    (h63 : xs.length + 1 ≤ 1000000000) (hbytes : bytes ≤ 1024) (hbase : B ≤ w0.heap.size) :
    ∃ v' w', (Builtin.append_ #[t, t] ty #[v, .slice (some ⟨g0, 0, none⟩) 1 1]).run P w = .ok v' w' ∧ Grow w' B e size v' (xs ++ [x]) ∧ Below B w w' := by
  obtain ⟨es, cb, q1, q2, q3, q4, q5⟩ := hG
  have hown := own_kept q1 hb0.size (w' := w) fun g _ hl => hb0.block g hl
  have hadd : ∀ j, (⟨g0, 0, none⟩ : Addr).add j = ⟨g0, j, none⟩ := fun j => by
    unfold Addr.add; split
    · simp_all
    · simp
  obtain ⟨v', w', hrun, h2, h3, _, h5⟩ := run_append_own_at (P := P) w B t ty e i z size bytes ht hi hz hsize hby hzs hsz v xs.length es hown ⟨g0, 0, none⟩ 1 1 news (by rw [hlen, Nat.one_mul]) (fun j u hu => by rw [hadd]; exact hcells j u hu) h1
    (by unfold maxLen; omega) (by have := Nat.mul_le_mul h63 hbytes; omega) (Nat.le_trans hbase hb0.size)
  have hlt0 := Reps.lt _ q2
  have hblk : ∀ y, y < w.heap.size → v.ownBlock ≠ some y → w'.heap[y]? = w.heap[y]? := fun y hy hne => h3.block y hy (fun e => hne e.symm)
  refine ⟨v', w', hrun, ⟨es ++ news, cb ++ b1, by simpa using h2, ?_, ?_, ?_, ?_⟩, ?_⟩
  · refine reps_snoc (Reps.keep _ q2 ⟨Nat.le_trans hb0.size h3.size, fun y hy => ?_⟩) (Rep.keep _ hr ⟨h3.size, fun y hy => ?_⟩)
    · rw [hblk y (Nat.lt_of_lt_of_le (hlt0 y hy) hb0.size) (fun h => q5 y h hy)]
      exact hb0.block y (hlt0 y hy)
    · exact hblk y (Rep.lt _ hr y hy) fun h => by
        have := (own_lt' q1 h).2
        have := hf y hy
        omega
  · refine List.nodup_append.2 ⟨q3, hn, fun y hy z hz e => ?_⟩
    subst e
    have := hlt0 y hy
    have := hf y hz
    omega
  · intro y hy
    rcases List.mem_append.1 hy with hy | hy
    · exact q4 y hy
    · exact Nat.le_trans hbase (hf y hy)
  · intro g hg hm
    rcases h5 with h5 | h5
    · rw [h5] at hg
      rcases List.mem_append.1 hm with hm | hm
      · exact q5 g hg hm
      · have := (own_lt' q1 hg).2
        have := hf g hm
        omega
    · rw [h5] at hg
      have hgw : w.heap.size = g := by simpa using hg
      rcases List.mem_append.1 hm with hm | hm
      · have := hlt0 g hm
        have := hb0.size
        omega
      · have := Rep.lt _ hr g hm
        omega
  · exact (Below.refl _ _).grown h3 (Nat.le_trans hbase hb0.size) fun k hk => (own_lt' q1 hk).1

theorem wp_append_grow {P : Program} {w w0 : World} {o : Oper} {a : Act} {K : Act → World → Prop} {Q : Exit → Act → World → Prop} (s x : Operand) (t : TypeId)
    (ho : o.op = .call { callee := .builtin .append, args := #[s, x], argTypes := #[t, t] })
    (z : Value) (ht : P.underlying t = some (.slice e)) (hinfo : (P.info? e).map (fun i => (i.zero, i.size, decide (i.bytes ≤ 1024))) = some (some z, size, true)) (hzs : z.cells.size = size) (hsz : 0 < size) (hs : a.eval s = v) (hG : Grow w0 B e size v xs) (hb0 : Below w0.heap.size w0 w) {d : D} {g0 : Nat} {news : List Value} {b1 : List Nat}
    (hx : a.eval x = .slice (some ⟨g0, 0, none⟩) 1 1) (hr : Rep w d news b1) (hn : b1.Nodup) (hf : ∀ y ∈ b1, w0.heap.size ≤ y) (hcells : ∀ j u, news[j]? = some u → w.cell? ⟨g0, j, none⟩ = some u) (hlen : news.length = size) (h1 : ∀ u ∈ news, u.oneCell' = true)
    (h63 : xs.length + 1 ≤ 1000000000) (hbase : B ≤ w0.heap.size)
    (h : ∀ v' w', Grow w' B e size v' (xs ++ [d]) → Below B w w' → K (a.put o.dst v') w') : o.wp P a w K Q := by
  obtain ⟨i, hi, hzz⟩ := Option.map_eq_some_iff.1 hinfo
  simp only [Prod.mk.injEq, decide_eq_true_iff] at hzz
  obtain ⟨v', w', hrun, h2, h3⟩ := run_append_grow (P := P) w w0 t o.type i z i.bytes ht hi hzz.1 hzz.2.1 rfl hzs hsz hG hb0 hr hn hf hcells hlen h1 h63 hzz.2.2 hbase
  unfold Oper.wp execOp
  simp only [ho, resolve, invoke, builtin, Sem.run_bind, Sem.run_pure, Result.andThen_ok, List.map_toArray, List.map_cons, List.map_nil, hs, hx, hrun]
  exact h v' w' h2 h3

theorem wpList_append_grow {P : Program} {w w0 : World} {ops : Array Oper} {rest : List Oper} {o : Oper} {a : Act} {Q : Exit → Act → World → Prop} (hgd : o.guard = none) (s x : Operand) (t : TypeId)
    (ho : o.op = .call { callee := .builtin .append, args := #[s, x], argTypes := #[t, t] })
    (z : Value) (ht : P.underlying t = some (.slice e)) (hinfo : (P.info? e).map (fun i => (i.zero, i.size, decide (i.bytes ≤ 1024))) = some (some z, size, true)) (hzs : z.cells.size = size) (hsz : 0 < size) (hs : a.eval s = v) (hG : Grow w0 B e size v xs) (hb0 : Below w0.heap.size w0 w) {d : D} {g0 : Nat} {news : List Value} {b1 : List Nat}
    (hx : a.eval x = .slice (some ⟨g0, 0, none⟩) 1 1) (hr : Rep w d news b1) (hn : b1.Nodup) (hf : ∀ y ∈ b1, w0.heap.size ≤ y) (hcells : ∀ j u, news[j]? = some u → w.cell? ⟨g0, j, none⟩ = some u) (hlen : news.length = size) (h1 : ∀ u ∈ news, u.oneCell' = true)
    (h63 : xs.length + 1 ≤ 1000000000) (hbase : B ≤ w0.heap.size)
    (h : ∀ v' w', Grow w' B e size v' (xs ++ [d]) → Below B w w' → wpList P ops Q rest (a.put o.dst v') w') : wpList P ops Q (o :: rest) a w :=
  wpList_plain hgd fun _ hK => wp_append_grow s x t ho z ht hinfo hzs hsz hs hG hb0 hx hr hn hf hcells hlen h1 h63 hbase fun v' w' h2 h3 => hK _ _ (h v' w' h2 h3)

/-- a slice of one element, its block just made -/
theorem one_new (w : World) {d : D} {cells : List Value} {b : List Nat} (h : Rep w d cells b) (t : TypeId) : Rep (w.alloc (.cells cells.toArray t)) (.sl [d]) [.slice (some ⟨w.heap.size, 0, none⟩) 1 1] (w.heap.size :: b) := by
  have h' := h.below (w' := w.alloc (.cells cells.toArray t)) ((Below.refl _ _).alloc (Nat.le_refl _) _)
  refine ⟨_, 1, cells, b, rfl, Nat.le_refl _, by unfold maxLen; omega, ⟨cells, [], b, [], by simp, by simp, h', rfl, rfl⟩, .inr ⟨w.heap.size, 0, rfl, rfl, by simp, fun j u hu => ⟨?_, ?_⟩⟩⟩
  · rw [Nat.zero_add, World.cell?_alloc_new]
    simpa using hu
  · exact Row.frozen (t := t) (cells := cells) (by unfold Row; rw [heap_alloc_new]) _
/-- the cells of a block just made -/
theorem new_cells (w : World) (l : List Value) (t : TypeId) : ∀ j u, l[j]? = some u → (w.alloc (.cells l.toArray t)).cell? ⟨w.heap.size, j, none⟩ = some u := by
  intro j u hu
  rw [World.cell?_alloc_new]
  simpa using hu
end
end Go.Proofs.Ytadmmlflngkpiaa
