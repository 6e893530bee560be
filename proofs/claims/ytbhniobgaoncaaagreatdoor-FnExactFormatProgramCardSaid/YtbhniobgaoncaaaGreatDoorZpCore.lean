/- Texts of this seat, joined: Base, Ints, Own, Aff, Seqs, Slices, Data, Region, Open. -/
import Derived.Test.YtbhniobgaoncaaaGreatDoorProg
import Derived.WalkKit
import Derived.ProofKit
import Derived.OpenShut
import Derived.Outline
import Derived.BigQuiet
import Derived.Deep.QuietTactic
import Derived.WalkSpells
import Derived.WalkLawsBesides
import Derived.Lib.Hide
import Derived.Deep.OwnRows
import Derived.Deep.LoopGhost
import Derived.Deep.DeepFit
import Derived.Laws.MakeOwn
import Derived.IntWalk
import Derived.Deep.RegionHeld3
import Derived.Deep.DeepMust
import Derived.Deep.DeepCutAuto
import Derived.Maps.AppendAt
import Derived.Orders
import Derived.Deep.Slices
import Derived.Carry
/- Words and laws on Go data in memory: what a value, with all that it leads to, reads as; no function of the program is walked here. -/
set_option linter.all false
set_option linter.unusedSimpArgs false
set_option linter.unusedVariables false
namespace Go.Proofs.YtbhniobgaoncaaaGreatDoor
open Go.ChangeShapes Go.WideShapes Go.ChangeAt Go.RowKit
theorem aq0 {α : Type _} (l : List α) (i : Nat) (a : α) : l.toArray.setIfInBounds i a = (l.set i a).toArray := List.setIfInBounds_toArray l i a
theorem aq1 {α : Type _} {x : α} {xs : List α} {a : α} : (x :: xs).set 0 a = a :: xs := List.set_cons_zero
theorem aq2 {α : Type _} {x : α} {xs : List α} {i : Nat} {a : α} : (x :: xs).set (i + 1) a = x :: xs.set i a := List.set_cons_succ

/-- What Go data read as: numbers, truth values, strings, structs, slices. -/
inductive D where
  | int (n : Int)
  | bool (b : Bool)
  | str (s : ByteArray)
  | st (fs : List D)
  | sl (xs : List D)

/-- the number fits an int -/
def I64 (n : Int) : Prop := -9223372036854775808 ≤ n ∧ n ≤ 9223372036854775807

mutual
/-- how many cells a datum takes in place -/
def D.size : D → Nat
  | .int _ => 1
  | .bool _ => 1
  | .str _ => 1
  | .st fs => D.sizes fs
  | .sl _ => 1
def D.sizes : List D → Nat
  | [] => 0
  | x :: xs => x.size + D.sizes xs
end

mutual
/-- In world w the cells cs read as the datum; bs: the blocks that its slices lie in, each as often as it is met. -/
def Rep (w : World) : D → List Value → List Nat → Prop
  | .int n, cs, bs => cs = [.int .i64 n] ∧ bs = [] ∧ I64 n
  | .bool b, cs, bs => cs = [.bool b] ∧ bs = []
  | .str s, cs, bs => cs = [.string s] ∧ bs = [] ∧ s.size ≤ maxLen
  | .st fs, cs, bs => Reps w fs cs bs
  | .sl xs, cs, bs => ∃ A c es cb, cs = [.slice A xs.length c] ∧ xs.length ≤ c ∧ c ≤ maxLen ∧ Reps w xs es cb ∧
      ((xs = [] ∧ bs = []) ∨ ∃ b o, A = some ⟨b, o, none⟩ ∧ bs = b :: cb ∧ b < w.heap.size ∧
        ∀ j u, es[j]? = some u → w.cell? ⟨b, o + j, none⟩ = some u ∧ w.frozen? ⟨b, o + j, none⟩ = false)
def Reps (w : World) : List D → List Value → List Nat → Prop
  | [], cs, bs => cs = [] ∧ bs = []
  | x :: xs, cs, bs => ∃ c1 c2 b1 b2, cs = c1 ++ c2 ∧ bs = b1 ++ b2 ∧ Rep w x c1 b1 ∧ Reps w xs c2 b2
end

/-- w' holds in the blocks bs what w held -/
def Keeps (w w' : World) (bs : List Nat) : Prop := w.heap.size ≤ w'.heap.size ∧ ∀ b ∈ bs, w'.heap[b]? = w.heap[b]?

theorem Keeps.left {w w' : World} {b1 b2 : List Nat} (h : Keeps w w' (b1 ++ b2)) : Keeps w w' b1 := ⟨h.1, fun b hb => h.2 b (List.mem_append_left _ hb)⟩
theorem Keeps.right {w w' : World} {b1 b2 : List Nat} (h : Keeps w w' (b1 ++ b2)) : Keeps w w' b2 := ⟨h.1, fun b hb => h.2 b (List.mem_append_right _ hb)⟩

mutual
theorem Rep.keep {w w' : World} : (d : D) → {cs : List Value} → {bs : List Nat} → Rep w d cs bs → Keeps w w' bs → Rep w' d cs bs
  | .int _, _, _, h, _ => h
  | .bool _, _, _, h, _ => h
  | .str _, _, _, h, _ => h
  | .st fs, _, _, h, k => Reps.keep fs h k
  | .sl xs, _, _, h, k => by
    obtain ⟨A, c, es, cb, hcs, hc, hm, hr, h0⟩ := h
    rcases h0 with ⟨hx, hb⟩ | ⟨b, o, hA, hb, hlt, hcell⟩
    · subst hx
      exact ⟨A, c, es, cb, hcs, hc, hm, hr, .inl ⟨rfl, hb⟩⟩
    · subst hb
      have hcb : Keeps w w' cb := ⟨k.1, fun x hx => k.2 x (List.mem_cons_of_mem _ hx)⟩
      have hbb := k.2 b List.mem_cons_self
      refine ⟨A, c, es, cb, hcs, hc, hm, Reps.keep xs hr hcb, .inr ⟨b, o, hA, rfl, Nat.lt_of_lt_of_le hlt k.1, fun j u hu => ?_⟩⟩
      obtain ⟨e1, e2⟩ := hcell j u hu
      exact ⟨by rw [← e1]; exact World.cell?_of_block (w := w) hbb, by rw [← e2]; exact World.frozen?_of_block (w := w) hbb⟩
theorem Reps.keep {w w' : World} : (xs : List D) → {cs : List Value} → {bs : List Nat} → Reps w xs cs bs → Keeps w w' bs → Reps w' xs cs bs
  | [], _, _, h, _ => h
  | x :: xs, _, _, h, k => by
    obtain ⟨c1, c2, b1, b2, hc, hb, h1, h2⟩ := h
    subst hb
    exact ⟨c1, c2, b1, b2, hc, rfl, Rep.keep x h1 k.left, Reps.keep xs h2 k.right⟩
end

mutual
theorem Rep.lt {w : World} : (d : D) → {cs : List Value} → {bs : List Nat} → Rep w d cs bs → ∀ b ∈ bs, b < w.heap.size
  | .int _, _, _, h => by obtain ⟨_, rfl, _⟩ := h; simp
  | .bool _, _, _, h => by obtain ⟨_, rfl⟩ := h; simp
  | .str _, _, _, h => by obtain ⟨_, rfl, _⟩ := h; simp
  | .st fs, _, _, h => Reps.lt fs h
  | .sl xs, _, _, h => by
    obtain ⟨A, c, es, cb, hcs, hc, hm, hr, h0⟩ := h
    rcases h0 with ⟨hx, rfl⟩ | ⟨b, o, hA, rfl, hlt, hcell⟩
    · simp
    · intro x hx
      rcases List.mem_cons.1 hx with rfl | hx
      · exact hlt
      · exact Reps.lt xs hr x hx
theorem Reps.lt {w : World} : (xs : List D) → {cs : List Value} → {bs : List Nat} → Reps w xs cs bs → ∀ b ∈ bs, b < w.heap.size
  | [], _, _, h => by obtain ⟨_, rfl⟩ := h; simp
  | x :: xs, _, _, h => by
    obtain ⟨c1, c2, b1, b2, hc, rfl, h1, h2⟩ := h
    intro b hb
    rcases List.mem_append.1 hb with hb | hb
    · exact Rep.lt x h1 b hb
    · exact Reps.lt xs h2 b hb
end

mutual
theorem Rep.length {w : World} : (d : D) → {cs : List Value} → {bs : List Nat} → Rep w d cs bs → cs.length = d.size
  | .int _, _, _, h => by obtain ⟨rfl, _, _⟩ := h; rfl
  | .bool _, _, _, h => by obtain ⟨rfl, _⟩ := h; rfl
  | .str _, _, _, h => by obtain ⟨rfl, _, _⟩ := h; rfl
  | .st fs, _, _, h => Reps.length fs h
  | .sl xs, _, _, h => by obtain ⟨A, c, es, cb, rfl, _⟩ := h; rfl
theorem Reps.length {w : World} : (xs : List D) → {cs : List Value} → {bs : List Nat} → Reps w xs cs bs → cs.length = D.sizes xs
  | [], _, _, h => by obtain ⟨rfl, _⟩ := h; rfl
  | x :: xs, _, _, h => by
    obtain ⟨c1, c2, b1, b2, rfl, _, h1, h2⟩ := h
    simp only [List.length_append, D.sizes, Rep.length x h1, Reps.length xs h2]
end

theorem Keeps.refl (w : World) (bs : List Nat) : Keeps w w bs := ⟨Nat.le_refl _, fun _ _ => rfl⟩
theorem Keeps.setCell {w w' : World} {bs : List Nat} (h : Keeps w w' bs) {p : Addr} (hp : p.block ∉ bs) (u : Value) : Keeps w (w'.setCell p u) bs :=
  ⟨by simpa [World.setCell] using h.1, fun b hb => (Below.heap_setCell _ _ _ _ (fun e => hp (e ▸ hb))).trans (h.2 b hb)⟩
theorem Keeps.of_below {w w' : World} {B : Nat} {bs : List Nat} (h : Below B w w') (hb : ∀ b ∈ bs, b < B) : Keeps w w' bs := ⟨h.size, fun b hm => h.block b (hb b hm)⟩
theorem below_tr {w a b : World} (h : Below w.heap.size w a) (k : Below a.heap.size a b) : Below w.heap.size w b := h.trans (k.mono h.size)
theorem below_al {w a : World} (h : Below w.heap.size w a) (o : Obj) : Below w.heap.size w (a.alloc o) := h.alloc h.size o
theorem below_drewN {B : Nat} {a w : World} (h : Below B a w) (n : Nat) : Below B a (w.drewN n) := ⟨h.os, h.tape, h.output, h.size, h.block⟩
theorem bcell {W w1 : World} (hb : Below W.heap.size W w1) : (∀ b o, b < W.heap.size → w1.cell? ⟨b, o, none⟩ = W.cell? ⟨b, o, none⟩) ∧ (∀ b o, b < W.heap.size → w1.frozen? ⟨b, o, none⟩ = W.frozen? ⟨b, o, none⟩) :=
  ⟨fun b o h => hb.cell (p := ⟨b, o, none⟩) h, fun b o h => hb.frozen (p := ⟨b, o, none⟩) h⟩
theorem Rep.below {w w' : World} {d : D} {cs : List Value} {bs : List Nat} (h : Rep w d cs bs) (hb : Below w.heap.size w w') : Rep w' d cs bs :=
  Rep.keep d h (.of_below hb (Rep.lt d h))
theorem Rep.drewN {w : World} {d : D} {cs : List Value} {bs : List Nat} (h : Rep w d cs bs) (n : Nat) : Rep (w.drewN n) d cs bs :=
  Rep.keep d h ⟨Nat.le_refl _, fun _ _ => rfl⟩

theorem Reps_append {w : World} : (xs ys : List D) → {cs : List Value} → {bs : List Nat} →
    (Reps w (xs ++ ys) cs bs ↔ ∃ c1 c2 b1 b2, cs = c1 ++ c2 ∧ bs = b1 ++ b2 ∧ Reps w xs c1 b1 ∧ Reps w ys c2 b2)
  | [], ys, cs, bs => by
    constructor
    · exact fun h => ⟨[], cs, [], bs, rfl, rfl, ⟨rfl, rfl⟩, h⟩
    · rintro ⟨c1, c2, b1, b2, rfl, rfl, ⟨rfl, rfl⟩, h⟩
      exact h
  | x :: xs, ys, cs, bs => by
    constructor
    · rintro ⟨c1, c2, b1, b2, rfl, rfl, h1, h2⟩
      obtain ⟨d1, d2, e1, e2, rfl, rfl, g1, g2⟩ := (Reps_append xs ys).1 h2
      exact ⟨c1 ++ d1, d2, b1 ++ e1, e2, by simp, by simp, ⟨c1, d1, b1, e1, rfl, rfl, h1, g1⟩, g2⟩
    · rintro ⟨_, d2, _, e2, rfl, rfl, ⟨c1, d1, b1, e1, rfl, rfl, h1, g1⟩, g2⟩
      exact ⟨c1, d1 ++ d2, b1, e1 ++ e2, by simp, by simp, h1, (Reps_append xs ys).2 ⟨d1, d2, e1, e2, rfl, rfl, g1, g2⟩⟩

theorem sizes_eq {s : Nat} : (xs : List D) → (∀ x ∈ xs, x.size = s) → D.sizes xs = xs.length * s
  | [], _ => by simp [D.sizes]
  | x :: xs, h => by
    simp only [D.sizes, List.length_cons, h x List.mem_cons_self, sizes_eq xs (fun y hy => h y (List.mem_cons_of_mem _ hy)), Nat.add_mul, Nat.one_mul, Nat.add_comm]

/-- the k-th element's own cells, and what stands ahead and behind -/
theorem Reps.at_ {w : World} {xs : List D} {es : List Value} {cb : List Nat} {s : Nat} (h : Reps w xs es cb) (hs : ∀ x ∈ xs, x.size = s) {k : Nat} {x : D} (hk : xs[k]? = some x) :
    ∃ e0 e1 e2 l0 l1 l2, es = e0 ++ e1 ++ e2 ∧ cb = l0 ++ l1 ++ l2 ∧ e0.length = k * s ∧ e1.length = s ∧
      Reps w (xs.take k) e0 l0 ∧ Rep w x e1 l1 ∧ Reps w (xs.drop (k + 1)) e2 l2 := by
  have hlt : k < xs.length := by
    rcases Nat.lt_or_ge k xs.length with h | h
    · exact h
    · rw [List.getElem?_eq_none h] at hk; cases hk
  have hx : xs[k] = x := by rw [List.getElem?_eq_getElem hlt] at hk; exact Option.some.inj hk
  have e : xs = xs.take k ++ (x :: xs.drop (k + 1)) := by
    rw [← hx, List.getElem_cons_drop, List.take_append_drop]
  rw [e] at h
  obtain ⟨e0, er, l0, lr, rfl, rfl, h0, e1, e2, l1, l2, rfl, rfl, h1, h2⟩ := (Reps_append _ _).1 h
  refine ⟨e0, e1, e2, l0, l1, l2, by simp, by simp, ?_, ?_, h0, h1, h2⟩
  · rw [Reps.length _ h0, sizes_eq (s := s) _ (fun y hy => hs y (List.mem_of_mem_take hy)), List.length_take, Nat.min_eq_left (by omega)]
  · rw [Rep.length _ h1]
    exact hs x (by rw [← hx]; exact List.getElem_mem _)

theorem of_drew {w w' : World} (h : Below w.drew.heap.size w.drew w') : Below w.heap.size w w' := ⟨h.os, h.tape, h.output, h.size, h.block⟩
/-- a block of the call's own that holds a struct of two cells -/
abbrev Box2 (w : World) (g : Nat) (u v : Value) : Prop := w.cell? ⟨g, 0, none⟩ = some u ∧ w.cell? ⟨g, 1, none⟩ = some v
theorem lt_of_cell {w : World} {g o : Nat} {u : Value} (h : w.cell? ⟨g, o, none⟩ = some u) : g < w.heap.size := by
  unfold World.cell? at h
  rcases Nat.lt_or_ge g w.heap.size with hlt | hge
  · exact hlt
  · simp [Array.getElem?_eq_none hge] at h
theorem Box2.to {w w' : World} {g : Nat} {u v : Value} (h : Box2 w g u v) (hb : Below w.heap.size w w') : Box2 w' g u v := by
  have hg := lt_of_cell h.1
  exact ⟨by rw [hb.cell hg]; exact h.1, by rw [hb.cell hg]; exact h.2⟩
theorem Box2.set {w : World} {g : Nat} {u v : Value} (h : Box2 w g u v) {p : Addr} (hp : p.block ≠ g) (x : Value) : Box2 (w.setCell p x) g u v :=
  ⟨by rw [World.cell?_setCell_other _ _ _ _ (fun e => hp (by rw [e]))]; exact h.1, by rw [World.cell?_setCell_other _ _ _ _ (fun e => hp (by rw [e]))]; exact h.2⟩
/-- .. and may be written -/
abbrev BoxW (w : World) (g : Nat) (u v : Value) : Prop := (w.cell? ⟨g, 0, none⟩ = some u ∧ w.cell? ⟨g, 1, none⟩ = some v) ∧ w.frozen? ⟨g, 0, none⟩ = false ∧ w.frozen? ⟨g, 1, none⟩ = false
theorem Box2.new (w : World) (u v : Value) (t : TypeId) : Box2 (w.alloc (.cells #[u, v] t)) w.heap.size u v := by simp [Box2]

theorem ieq_t {a b : Int} (h : a = b) : (a == b) = true := by simp [h]
theorem ieq_f {a b : Int} (h : ¬ a = b) : (a == b) = false := by simp [h]
theorem ine_t {a b : Int} (h : ¬ a = b) : (a != b) = true := by simp [h]
theorem ine_f {a b : Int} (h : a = b) : (a != b) = false := by simp [h]

/-- what stands below a mark is as it was: through draws, allocs, stores above it, and calls -/
theorem bel {N : Nat} {a b : World} (h : Below N a b := by repeat (first | with_reducible exact Below.refl _ _ | refine Below.setCell ?_ (by simp; try omega) _ | refine below_al ?_ _ | refine Below.alloc ?_ (by simp [World.setCell]; try omega) _ | refine below_drewN ?_ _ | refine Below.drew ?_ | refine below_tr ?_ ‹Below _ _ _›)) : Below N a b := h
end Go.Proofs.YtbhniobgaoncaaaGreatDoor

/- Slices of integers: how they read; the law package's functions on them (copy, equality, size, mark, held). -/
namespace Go.Proofs.YtbhniobgaoncaaaGreatDoor
open Go.ChangeShapes Go.WideShapes Go.ChangeAt Go.RowKit Go.Deep

/-- the k-th number (0 past the end), closed to simp -/
def gi (xs : List Int) (k : Nat) : Int := xs.getD k 0
theorem gi_eq {xs : List Int} {k : Nat} (h : k < xs.length) : gi xs k = xs[k] := by simp [gi, List.getD_eq_getElem?_getD, h]
def ints (xs : List Int) : D := .sl (xs.map .int)

theorem reps_ints {w : World} : (xs : List Int) → {es : List Value} → {cb : List Nat} → (Reps w (xs.map .int) es cb ↔ es = xs.map (.int .i64 ·) ∧ cb = [] ∧ ∀ x ∈ xs, I64 x)
  | [], es, cb => by simp [Reps]
  | x :: xs, es, cb => by
    simp only [List.map_cons, Reps, Rep]
    constructor
    · rintro ⟨c1, c2, b1, b2, rfl, rfl, ⟨rfl, rfl, hx⟩, h⟩
      obtain ⟨rfl, rfl, hxs⟩ := (reps_ints xs).1 h
      exact ⟨rfl, rfl, by simpa using ⟨hx, hxs⟩⟩
    · rintro ⟨rfl, rfl, h⟩
      exact ⟨[_], _, [], [], rfl, rfl, ⟨rfl, rfl, h x List.mem_cons_self⟩, (reps_ints xs).2 ⟨rfl, rfl, fun y hy => h y (List.mem_cons_of_mem _ hy)⟩⟩

/-- what a slice of integers tells -/
theorem Rep.ints_form {w : World} {xs : List Int} {cs : List Value} {bs : List Nat} (h : Rep w (ints xs) cs bs) :
    ∃ A c, cs = [.slice A xs.length c] ∧ xs.length ≤ c ∧ c ≤ maxLen ∧ (∀ x ∈ xs, I64 x) := by
  obtain ⟨A, c, es, cb, rfl, h1, h2, h3, h4⟩ := h
  obtain ⟨rfl, rfl, hx⟩ := (reps_ints xs).1 h3
  simp only [List.length_map] at *
  exact ⟨A, c, rfl, h1, h2, hx⟩
theorem Rep.ints_len {w : World} {xs : List Int} {A : Option Addr} {n c : Nat} {bs : List Nat} (h : Rep w (ints xs) [.slice A n c] bs) : n = xs.length ∧ n ≤ c ∧ c ≤ maxLen := by
  obtain ⟨A', c', e, h1, h2, _⟩ := h.ints_form
  simp only [List.cons.injEq, Value.slice.injEq] at e
  obtain ⟨⟨rfl, rfl, rfl⟩, _⟩ := e
  exact ⟨rfl, h1, h2⟩
theorem Rep.ints_fit {w : World} {xs : List Int} {cs : List Value} {bs : List Nat} (h : Rep w (ints xs) cs bs) : ∀ x ∈ xs, I64 x := by
  obtain ⟨_, _, _, _, _, h⟩ := h.ints_form; exact h
theorem Rep.gi_fit {w : World} {xs : List Int} {cs : List Value} {bs : List Nat} (h : Rep w (ints xs) cs bs) (k : Nat) : I64 (gi xs k) := by
  rcases Nat.lt_or_ge k xs.length with hk | hk
  · rw [gi_eq hk]; exact h.ints_fit _ (List.getElem_mem _)
  · simp [gi, List.getD_eq_getElem?_getD, hk, I64]
theorem Rep.ints_at {w : World} {xs : List Int} {A : Option Addr} {n c : Nat} {bs : List Nat} (h : Rep w (ints xs) [.slice A n c] bs) {k : Nat} (hk : k < xs.length) :
    ∃ b o, A = some ⟨b, o, none⟩ ∧ bs = [b] ∧ b < w.heap.size ∧ w.cell? ⟨b, o + k, none⟩ = some (.int .i64 (gi xs k)) ∧ w.frozen? ⟨b, o + k, none⟩ = false := by
  obtain ⟨A', c', es, cb, e, h1, h2, h3, h4⟩ := h
  simp only [List.cons.injEq, Value.slice.injEq] at e
  obtain ⟨⟨rfl, rfl, rfl⟩, _⟩ := e
  obtain ⟨rfl, rfl, hx⟩ := (reps_ints xs).1 h3
  rcases h4 with ⟨e, _⟩ | ⟨b, o, rfl, rfl, hlt, hc⟩
  · simp at e; subst e; simp at hk
  · have := hc k (.int .i64 xs[k]) (by simp [hk])
    rw [gi_eq hk]
    exact ⟨b, o, rfl, rfl, hlt, this.1, this.2⟩
theorem Rep.ints_mk {w : World} {xs : List Int} {b o c : Nat} (h1 : xs.length ≤ c) (h2 : c ≤ maxLen) (h3 : ∀ x ∈ xs, I64 x) (h4 : b < w.heap.size)
    (h5 : ∀ k, k < xs.length → w.cell? ⟨b, o + k, none⟩ = some (.int .i64 (gi xs k)) ∧ w.frozen? ⟨b, o + k, none⟩ = false) :
    Rep w (ints xs) [.slice (some ⟨b, o, none⟩) xs.length c] [b] := by
  refine ⟨_, c, _, [], by simp, by simpa using h1, h2, (reps_ints xs).2 ⟨rfl, rfl, h3⟩, .inr ⟨b, o, rfl, rfl, h4, fun j u hu => ?_⟩⟩
  rw [List.getElem?_map] at hu
  rcases Nat.lt_or_ge j xs.length with hj | hj
  · rw [List.getElem?_eq_getElem hj] at hu
    have := h5 j hj
    rw [gi_eq hj] at this
    simp at hu; subst hu; exact this
  · rw [List.getElem?_eq_none hj] at hu; simp at hu
theorem Rep.ints_nil {w : World} {A : Option Addr} {c : Nat} (h2 : c ≤ maxLen) : Rep w (ints []) [.slice A 0 c] [] :=
  ⟨A, c, [], [], rfl, Nat.zero_le _, h2, ⟨rfl, rfl⟩, .inl ⟨rfl, rfl⟩⟩

theorem ret_bool {a b : Bool} (h : a = b) : Ending.returned (.bool a) = .returned (.bool b) := by rw [h]
theorem ret_int {k : IntKind} {a b : Int} (h : a = b) : Ending.returned (.int k a) = .returned (.int k b) := by rw [h]

theorem Tryz.int3 : (Tryz.prog.info? 3).map (fun i => (i.zero, i.size, i.bytes)) = some (some (.int .i64 0), 1, 8) := by kernel_rfl

/-- w' is w but for new blocks and the blocks bs -/
structure Touch (bs : List Nat) (w w' : World) : Prop where
  os : w'.os = w.os
  tape : w'.tape = w.tape
  output : w'.output = w.output
  size : w.heap.size ≤ w'.heap.size
  block : ∀ b, b < w.heap.size → b ∉ bs → w'.heap[b]? = w.heap[b]?
theorem Touch.refl (bs : List Nat) (w : World) : Touch bs w w := ⟨rfl, rfl, rfl, Nat.le_refl _, fun _ _ _ => rfl⟩
theorem Touch.trans {bs : List Nat} {a b c : World} (h : Touch bs a b) (k : Touch bs b c) : Touch bs a c :=
  ⟨k.os.trans h.os, k.tape.trans h.tape, k.output.trans h.output, Nat.le_trans h.size k.size, fun x hx hn => (k.block x (Nat.lt_of_lt_of_le hx h.size) hn).trans (h.block x hx hn)⟩
theorem Touch.mono {bs bs' : List Nat} {a b : World} (h : Touch bs a b) (k : ∀ x ∈ bs, x ∈ bs') : Touch bs' a b :=
  ⟨h.os, h.tape, h.output, h.size, fun x hx hn => h.block x hx fun e => hn (k x e)⟩
theorem Touch.of_below {bs : List Nat} {a b : World} (h : Below a.heap.size a b) : Touch bs a b := ⟨h.os, h.tape, h.output, h.size, fun x hx _ => h.block x hx⟩
theorem Touch.below {bs : List Nat} {a b : World} {B : Nat} (h : Touch bs a b) (hB : B ≤ a.heap.size) (k : ∀ x ∈ bs, B ≤ x) : Below B a b :=
  ⟨h.os, h.tape, h.output, h.size, fun x hx => h.block x (by omega) fun e => by have := k x e; omega⟩
theorem Touch.setCell {bs : List Nat} {a w : World} (h : Touch bs a w) {p : Addr} (hp : p.block ∈ bs) (u : Value) : Touch bs a (w.setCell p u) :=
  h.trans ⟨rfl, rfl, rfl, by simp [World.setCell], fun x _ hn => Below.heap_setCell _ _ _ _ (fun e => hn (e ▸ hp))⟩
theorem Touch.keeps {bs l : List Nat} {a b : World} (h : Touch bs a b) (k : ∀ x ∈ l, x < a.heap.size ∧ x ∉ bs) : Keeps a b l := ⟨h.size, fun x hx => h.block x (k x hx).1 (k x hx).2⟩

theorem Touch.cell {bs : List Nat} {a b : World} (h : Touch bs a b) {g o : Nat} (hl : g < a.heap.size) (hn : g ∉ bs) : b.cell? ⟨g, o, none⟩ = a.cell? ⟨g, o, none⟩ := World.cell?_of_block (w := a) (a := ⟨g, o, none⟩) (h.block g hl hn)
theorem Touch.frozen {bs : List Nat} {a b : World} (h : Touch bs a b) {g o : Nat} (hl : g < a.heap.size) (hn : g ∉ bs) : b.frozen? ⟨g, o, none⟩ = a.frozen? ⟨g, o, none⟩ := World.frozen?_of_block (w := a) (a := ⟨g, o, none⟩) (h.block g hl hn)
theorem Touch.box2 {bs : List Nat} {a b : World} (h : Touch bs a b) {g : Nat} {u v : Value} (k : Box2 a g u v) (hn : g ∉ bs) : Box2 b g u v := by
  have hl := lt_of_cell k.1
  exact ⟨by rw [h.cell hl hn]; exact k.1, by rw [h.cell hl hn]; exact k.2⟩

/-- what a size function leaves of 'left' -/
def szR (left : Int) (tot : Nat) : Int := if left - tot < 0 then -1 else left - tot
theorem szR_neg {left : Int} {tot : Nat} (h : left - tot < 0) : szR left tot = -1 := if_pos h
theorem szR_pos {left : Int} {tot : Nat} (h : 0 ≤ left - tot) : szR left tot = left - tot := if_neg (by omega)
section
variable {w : World} {xs ys : List Int} {A B : Option Addr} {n m c d : Nat} {bs bs' : List Nat}

set_option maxHeartbeats 400000 in
theorem toIntS_c (h : Rep w (ints xs) [.slice A n c] bs) (hn : n ≤ 10000000) :
    Calls Tryz.prog 124 #[.slice A n c] w fun e w' => ∃ g, e = .returned (.slice (some ⟨g, 0, none⟩) n n) ∧ Rep w' (ints xs) [.slice (some ⟨g, 0, none⟩) n n] [g] ∧ w.heap.size ≤ g ∧ Below w.heap.size w w' := by
  obtain ⟨rfl, _, _⟩ := h.ints_len
  have hfit := h.ints_fit
  have hmk := fun W => run_make_row' (P := Tryz.prog) 44 3 (.int .i64 0) 8 Tryz.underlying44 Tryz.int3 rfl .i64 .i64 xs.length (by omega) (by omega) W
  have hle : xs.length ≤ maxLen := by unfold maxLen; omega
  have HN := Lib.hid hn; clear hn
  have HF := Lib.hid hfit; clear hfit
  have hn : xs.length ≤ 9223372036854775807 := hle
  go_enter Tryz.func124, Tryz.ntmps124
  go_wp2
  clear hmk
  go_loopw [4] (fun i wr => ∃ (k : Nat) (f : Nat → Value), k ≤ xs.length ∧ i = .int .i64 k ∧ (∀ j, j < k → f j = .int .i64 (gi xs j)) ∧ wr.rowIs w.heap.size 3 xs.length f ∧ Below w.heap.size w wr) (fun i _ => xs.length - (intOf i).toNat)
  case atStart =>
    exact ⟨0, _, Nat.zero_le _, rfl, fun j hj => absurd hj (by omega), World.rowIs_made _ _ _ _, (Below.refl _ _).alloc (Nat.le_refl _) _⟩
  case round =>
    obtain ⟨k, f, hk, rfl, hf, hrow, hb⟩ := hrel
    have HF2 := Lib.hid hf; clear hf
    by_cases hlt : k < xs.length
    · obtain ⟨b, o, rfl, _, hbl, hc, _⟩ := h.ints_at hlt
      have hc1 : wr.cell? ⟨b, o + k, none⟩ = some (.int .i64 (gi xs k)) := by rw [hb.cell (p := ⟨b, o + k, none⟩) hbl]; exact hc
      have hc2 := hrow.cell hlt
      have hc3 := hrow.frozen k
      clear hc
      go_wp2
      go_roundw
      case rel =>
        refine ⟨k + 1, _, by omega, by go_num, fun j hj => ?_, hrow.set k _, hb.setCell (Nat.le_refl _) _⟩
        rcases Nat.lt_or_ge j k with hjk | hjk
        · simp only [if_neg (show ¬ j = k by omega)]
          exact HF2.out j hjk
        · have : j = k := by omega
          subst this; simp
      case measure => simp [intOf]; omega
    · go_wp2
      go_ret
      have hkk : k = xs.length := by omega
      subst hkk
      refine ⟨_, rfl, Rep.ints_mk (Nat.le_refl _) hle HF.out hrow.lt (fun j hj => ⟨?_, ?_⟩), Nat.le_refl _, hb⟩
      · rw [Nat.zero_add, hrow.cell hj, HF2.out j hj]
      · exact hrow.frozen _

set_option maxHeartbeats 400000 in
theorem eqIntS_c (hA : Rep w (ints xs) [.slice A n c] bs) (hB : Rep w (ints xs) [.slice B m d] bs') :
    Calls Tryz.prog 136 #[.slice A n c, .slice B m d] w fun e w' => e = .returned (.bool true) ∧ ∃ nq, w' = w.drewN nq := by
  obtain ⟨rfl, h1, h2⟩ := hA.ints_len
  obtain ⟨rfl, _, _⟩ := hB.ints_len
  have hn : xs.length ≤ 9223372036854775807 := Nat.le_trans h1 h2
  clear h1 h2
  have hl1 : ((xs.length : Int) != (xs.length : Int)) = false := by simp
  go_enter Tryz.func136, Tryz.ntmps136
  go_wp2
  go_loopw [5] (fun i w' => ∃ k : Nat, k ≤ xs.length ∧ i = .int .i64 k ∧ ∃ nq, w' = w.drewN nq) (fun i _ => xs.length - (intOf i).toNat)
  case atStart => exact ⟨0, Nat.zero_le _, rfl, 0, rfl⟩
  case round =>
    obtain ⟨k, hk, rfl, nq, rfl⟩ := hrel
    by_cases hlt : k < xs.length
    · obtain ⟨b, off, rfl, _, _, hc1, _⟩ := hA.ints_at hlt
      obtain ⟨b', off', rfl, _, _, hc2, _⟩ := hB.ints_at hlt
      have hq1 : (gi xs k != gi xs k) = false := by simp
      go_wp2
      go_quiet (fail)
      go_wp2
      go_roundw
      case rel => exact ⟨k + 1, by omega, by go_num, _, rfl⟩
      case measure => simp [intOf]; omega
    · go_wp2
      go_ret
      exact ⟨rfl, _, rfl⟩

theorem szIntS_c {left : Int} (h : Rep w (ints xs) [.slice A n c] bs) (h0 : 0 ≤ left) (h1 : left ≤ 1048576) :
    Calls Tryz.prog 117 #[.slice A n c, .int .i64 left] w fun e w' => e = .returned (.int .i64 (szR left n)) ∧ w = w' := by
  obtain ⟨rfl, h2, h3⟩ := h.ints_len
  have hn : xs.length ≤ 9223372036854775807 := Nat.le_trans h2 h3
  clear h2 h3
  by_cases hs : left - xs.length < 0
  · have hr := Lib.hid (szR_neg hs)
    go_enter Tryz.func117, Tryz.ntmps117
    go_wp2
    go_ret
    exact ⟨ret_int hr.out.symm, rfl⟩
  · have hr := Lib.hid (szR_pos (show 0 ≤ left - xs.length by omega))
    go_enter Tryz.func117, Tryz.ntmps117
    go_wp2
    go_ret
    exact ⟨ret_int hr.out.symm, rfl⟩

end

end Go.Proofs.YtbhniobgaoncaaaGreatDoor

/- Rows of the call's own as data; slices.Clone on integers. -/
namespace Go.Proofs.YtbhniobgaoncaaaGreatDoor
open Go.ChangeShapes Go.WideShapes Go.ChangeAt Go.RowKit Go.Deep

/-- a row that the call owns, its cells reading as data, is a slice of them -/
theorem Rep.of_own {w : World} {base : Nat} {e : TypeId} {size n : Nat} {v : Value} {es : List Value} {cb : List Nat} {xs : List D} (h : w.ownsRow base e size v n es) (hn : n = xs.length) (hr : Reps w xs es cb) :
    ∃ A c bs, v = .slice A n c ∧ Rep w (.sl xs) [.slice A n c] bs ∧ ((v = .slice none 0 0 ∧ bs = []) ∨ ∃ g, bs = g :: cb ∧ base ≤ g ∧ v.ownBlock = some g) := by
  subst hn
  rcases h.2 with ⟨rfl, h0⟩ | ⟨g, cap, cur, rfl, hb, hh, hnc, hcm, hsz, htake⟩
  · have := List.eq_nil_of_length_eq_zero h0
    subst this
    exact ⟨none, 0, [], rfl, ⟨none, 0, es, cb, rfl, Nat.le_refl _, Nat.zero_le _, hr, .inl ⟨rfl, rfl⟩⟩, .inl ⟨rfl, rfl⟩⟩
  · have hlt : g < w.heap.size := by
      rcases Nat.lt_or_ge g w.heap.size with hlt | hge
      · exact hlt
      · rw [Array.getElem?_eq_none hge] at hh; cases hh
    refine ⟨_, cap, g :: cb, rfl, ⟨_, cap, es, cb, rfl, hnc, hcm, hr, .inr ⟨g, 0, rfl, rfl, hlt, fun j u hu => ⟨?_, by simp [World.frozen?, hh]⟩⟩⟩, .inr ⟨g, rfl, hb, rfl⟩⟩
    rw [← htake, List.getElem?_take] at hu
    split at hu
    · simp only [World.cell?, hh, Nat.zero_add]
      simpa using hu
    · cases hu

theorem Tryz.info3 : ∃ i, Tryz.prog.info? 3 = some i ∧ i.zero = some (.int .i64 0) ∧ i.size = 1 ∧ i.bytes = 8 := info_parts Tryz.int3

section
variable {w : World} {xs : List Int} {A : Option Addr} {n c : Nat} {bs : List Nat}

/-- the call answers a new slice of integers -/
def MadeInts (w : World) (xs : List Int) (e : Ending) (w' : World) : Prop :=
  ∃ A n c bs, e = .returned (.slice A n c) ∧ Rep w' (ints xs) [.slice A n c] bs ∧ bs.Nodup ∧ (∀ b ∈ bs, w.heap.size ≤ b) ∧ Below w.heap.size w w'

set_option maxHeartbeats 400000 in
theorem Clone_int_c (h : Rep w (ints xs) [.slice A n c] bs) (hn : n ≤ 10000000) :
    Calls Tryz.prog 134 #[.slice A n c] w (MadeInts w xs) := by
  obtain ⟨rfl, _, _⟩ := h.ints_len
  have HN := Lib.hid hn; clear hn
  rcases A with _ | ad
  · have hx : xs = [] := by
      rcases xs with _ | ⟨x, xs⟩
      · rfl
      · obtain ⟨b, o, e, _⟩ := h.ints_at (k := 0) (by simp); cases e
    subst hx
    have hq := fun W => Lib.run_eql_slice_nil (P := Tryz.prog) W 44 3 none 0 c 0 0 Tryz.underlying44
    go_enter Tryz.func134, Tryz.ntmps134
    go_wp2
    go_ret
    exact ⟨_, _, _, [], rfl, Rep.ints_nil (Nat.zero_le _), by simp, by simp, bel⟩
  · have hq := fun W => Lib.run_eql_slice_nil (P := Tryz.prog) W 44 3 (some ad) xs.length c 0 0 Tryz.underlying44
    obtain ⟨i0, hi, hz0, hz1, hz2⟩ := Tryz.info3
    have hI := Lib.hid (And.intro hi (And.intro hz0 (And.intro hz1 hz2))); clear hi hz0 hz1 hz2
    have hfit := Lib.hid h.ints_fit
    have hcells : ∀ j u, (xs.map (Value.int .i64 ·))[j]? = some u → w.cell? (ad.add j) = some u := by
      intro j u hu
      have hj : j < xs.length := by
        rcases Nat.lt_or_ge j xs.length with hj | hj
        · exact hj
        · rw [List.getElem?_eq_none (by simpa using hj)] at hu; cases hu
      obtain ⟨b, o, e, _, _, hc, _⟩ := h.ints_at hj
      simp only [Option.some.injEq] at e
      subst e
      rw [List.getElem?_map, List.getElem?_eq_getElem hj] at hu
      rw [gi_eq hj] at hc
      have : (⟨b, o, none⟩ : Addr).add j = ⟨b, o + j, none⟩ := by
        unfold Addr.add; split
        · simp_all
        · rfl
      rw [this, hc]
      simpa using hu
    have hblk : 0 < xs.length → ad.block < w.heap.size := fun h0 => by
      obtain ⟨b, o, e, _, hlt, _⟩ := h.ints_at h0
      simp only [Option.some.injEq] at e
      subst e; exact hlt
    have hown : (w.alloc (.cells #[] 3)).ownsRow w.heap.size 3 1 (.slice (some ⟨w.heap.size, 0, none⟩) 0 0) 0 [] :=
      ⟨rfl, .inr ⟨w.heap.size, 0, #[], rfl, Nat.le_refl _, heap_alloc_new w _, Nat.le_refl _, Nat.zero_le _, rfl, rfl⟩⟩
    have hnews : ∀ j u, (xs.map (Value.int .i64 ·))[j]? = some u → (w.alloc (.cells #[] 3)).cell? (ad.add j) = some u := by
      intro j u hu
      rw [World.cell?_alloc_lt _ _ _ (by
        have hj : j < xs.length := by
          rcases Nat.lt_or_ge j xs.length with hj | hj
          · exact hj
          · rw [List.getElem?_eq_none (by simpa using hj)] at hu; cases hu
        have := hblk (by omega)
        unfold Addr.add; split
        · exact this
        · exact this)]
      exact hcells j u hu
    have hone : ∀ u ∈ xs.map (Value.int .i64 ·), u.oneCell' = true := by
      intro u hu
      obtain ⟨x, _, rfl⟩ := List.mem_map.1 hu
      rfl
    have HW := Lib.hid (And.intro hown (And.intro hnews hone)); clear hown hnews hone hcells hblk
    go_enter Tryz.func134, Tryz.ntmps134
    go_wp2_with (at_builtin; refine wpList_append_own_at _ rfl _ _ 44 rfl w.heap.size 3 i0 (.int .i64 0) 1 8 Tryz.underlying44 hI.out.1 hI.out.2.1 hI.out.2.2.1 hI.out.2.2.2 rfl (by decide) (.slice (some ⟨w.heap.size, 0, none⟩) 0 0) 0 [] rfl HW.out.1 ad xs.length c (xs.map (Value.int .i64 ·)) rfl (by simp) HW.out.2.1 HW.out.2.2 (by have := HN.out; unfold maxLen; omega) (by have := HN.out; omega) (by simp) ?_; intro v' w1 hown1 hgrow _ hat)
    rw [Nat.zero_add, List.nil_append] at hown1
    obtain ⟨A', c', bs', rfl, hr, hbs⟩ := Rep.of_own (xs := xs.map .int) hown1 (by simp) ((reps_ints xs).2 ⟨rfl, rfl, hfit.out⟩)
    go_wp2
    go_ret
    refine ⟨_, _, _, bs', rfl, hr, ?_, ?_, ?_⟩
    · rcases hbs with ⟨_, rfl⟩ | ⟨g, rfl, _, _⟩ <;> simp
    · rcases hbs with ⟨_, rfl⟩ | ⟨g, rfl, hg, _⟩
      · simp
      · simpa using hg
    · refine ((Below.refl _ _).alloc (Nat.le_refl _) _).grown hgrow (by simp) fun k hk => ?_
      have : w.heap.size = k := by simpa [Value.ownBlock] using hk
      omega
end
end Go.Proofs.YtbhniobgaoncaaaGreatDoor

/- Affine expressions: how they read; the law package's functions on them (copy, equality, size, mark, held). -/
namespace Go.Proofs.YtbhniobgaoncaaaGreatDoor
open Go.ChangeShapes Go.WideShapes Go.ChangeAt Go.RowKit Go.Deep

structure Aff where
  coefs : List Int
  const : Int
  deriving DecidableEq
def Aff.d (a : Aff) : D := .st [ints a.coefs, .int a.const]
theorem Rep.aff_iff {w : World} {a : Aff} {cs : List Value} {bs : List Nat} :
    Rep w a.d cs bs ↔ ∃ A n c, cs = [.slice A n c, .int .i64 a.const] ∧ Rep w (ints a.coefs) [.slice A n c] bs ∧ I64 a.const := by
  simp only [Aff.d, Rep, Reps]
  constructor
  · rintro ⟨c1, c2, b1, b2, rfl, rfl, h, c3, c4, b3, b4, rfl, rfl, ⟨rfl, rfl, h1⟩, rfl, rfl⟩
    obtain ⟨A, c, rfl, _⟩ := h.ints_form
    exact ⟨A, _, c, rfl, by simpa using h, h1⟩
  · rintro ⟨A, n, c, rfl, h, h1⟩
    exact ⟨[_], [_], bs, [], rfl, by simp, h, [_], [], [], [], rfl, rfl, ⟨rfl, rfl, h1⟩, rfl, rfl⟩

section
variable {w : World} {a : Aff} {A B : Option Addr} {n m c d : Nat} {k k' : Int} {bs bs' : List Nat}

theorem Rep.aff (h : Rep w a.d [.slice A n c, .int .i64 k] bs) : k = a.const ∧ Rep w (ints a.coefs) [.slice A n c] bs ∧ I64 k := by
  obtain ⟨A', n', c', e, h1, h2⟩ := Rep.aff_iff.1 h
  simp only [List.cons.injEq, Value.slice.injEq, Value.int.injEq] at e
  obtain ⟨⟨rfl, rfl, rfl⟩, ⟨_, rfl⟩, _⟩ := e
  exact ⟨rfl, h1, h2⟩

set_option maxHeartbeats 400000 in
theorem toAffine_c (h : Rep w a.d [.slice A n c, .int .i64 k] bs) (hn : n ≤ 10000000) :
    Calls Tryz.prog 255 #[.agg #[.slice A n c, .int .i64 k]] w fun e w' => ∃ g, e = .returned (.agg #[.slice (some ⟨g, 0, none⟩) n n, .int .i64 k]) ∧ Rep w' a.d [.slice (some ⟨g, 0, none⟩) n n, .int .i64 k] [g] ∧ w.heap.size ≤ g ∧ Below w.heap.size w w' := by
  obtain ⟨hk, h1, h2⟩ := h.aff
  have HK := Lib.hid hk; clear hk
  have HN := Lib.hid hn; clear hn
  have H2 := Lib.hid h2; clear h2
  go_enter Tryz.func255, Tryz.ntmps255
  go_wp2_with fail
  refine (toIntS_c (h1.below (by exact (((Below.refl _ _).alloc (Nat.le_refl _) _).alloc (by simp) _).alloc (by simp; omega) _)) HN.out).mono ?_
  rintro e w1 ⟨g, rfl, r1, hg, b1⟩
  obtain ⟨hc1, hf1⟩ := bcell b1
  have hz1 : w.heap.size + 3 ≤ w1.heap.size := by have := b1.size; simp at this; omega
  have hg1 : w.heap.size + 3 ≤ g := by simp at hg; omega
  clear hg
  go_wp2
  refine bodyPost_ret (v := .agg #[.slice (some ⟨g, 0, none⟩) n n, .int .i64 k]) (by simp [results, Tryz.results255, go_sem, hc1]) rfl ⟨_, rfl, Rep.aff_iff.2 ⟨_, _, _, by rw [HK.out], Rep.keep _ r1 (((((Keeps.refl _ _).setCell ?_ _).setCell ?_ _).setCell ?_ _).setCell ?_ _), by rw [← HK.out]; exact H2.out⟩, by omega, ?_⟩
  case refine_5 => exact (by repeat (first | exact Below.refl _ _ | refine Below.setCell ?_ (by simp; try omega) _ | refine Below.alloc ?_ (by simp; try omega) _ | refine below_drewN ?_ _ | refine Below.drew ?_ | refine below_tr ?_ ‹Below _ _ _›))
  all_goals (simp; omega)

set_option maxHeartbeats 400000 in
theorem eqAffine_c (h : Rep w a.d [.slice A n c, .int .i64 k] bs) (h' : Rep w a.d [.slice B m d, .int .i64 k'] bs') :
    Calls Tryz.prog 106 #[.agg #[.slice A n c, .int .i64 k], .agg #[.slice B m d, .int .i64 k']] w fun e w' => e = .returned (.bool true) ∧ Below w.heap.size w w' := by
  obtain ⟨rfl, h1, h2⟩ := h.aff
  obtain ⟨rfl, h3, h4⟩ := h'.aff
  have hq : (a.const != a.const) = false := by simp
  have HH := Lib.hid (And.intro h1 h3); clear h1 h3 h2 h4 h h'
  go_enter Tryz.func106, Tryz.ntmps106
  go_wp2_with fail
  refine (eqIntS_c (HH.out.1.below (by repeat (first | exact Below.refl _ _ | refine Below.setCell ?_ (by simp; try omega) _ | refine Below.alloc ?_ (by simp; try omega) _ | refine below_drewN ?_ _ | refine Below.drew ?_ | refine below_tr ?_ ‹Below _ _ _›))) (HH.out.2.below (by repeat (first | exact Below.refl _ _ | refine Below.setCell ?_ (by simp; try omega) _ | refine Below.alloc ?_ (by simp; try omega) _ | refine below_drewN ?_ _ | refine Below.drew ?_ | refine below_tr ?_ ‹Below _ _ _›)))).mono ?_
  rintro e w1 ⟨rfl, nq, rfl⟩
  go_wp2
  go_ret
  exact ⟨rfl, (by repeat (first | exact Below.refl _ _ | refine Below.setCell ?_ (by simp; try omega) _ | refine Below.alloc ?_ (by simp; try omega) _ | refine below_drewN ?_ _ | refine Below.drew ?_ | refine below_tr ?_ ‹Below _ _ _›))⟩

end
end Go.Proofs.YtbhniobgaoncaaaGreatDoor

/- Library functions on slices of integers: slices.IndexFunc, ContainsFunc, Equal, Compare; cmp.Compare. -/
namespace Go.Proofs.YtbhniobgaoncaaaGreatDoor
open Go.ChangeShapes Go.WideShapes Go.ChangeAt Go.RowKit Go.Deep

/-- the first index from k on at which p holds, -1 if there is none -/
def idxI {α : Type} (p : α → Bool) : List α → Int → Int
  | [], _ => -1
  | x :: xs, k => if p x then k else idxI p xs (k + 1)
theorem idxI_drop {α : Type} (p : α → Bool) (xs : List α) (k : Nat) (hk : k < xs.length) : idxI p (xs.drop k) k = if p xs[k] then (k : Int) else idxI p (xs.drop (k + 1)) (k + 1 : Nat) := by
  rw [← List.getElem_cons_drop hk, idxI]; simp
theorem idxI_any {α : Type} (p : α → Bool) : (xs : List α) → (k : Int) → 0 ≤ k → (decide (0 ≤ idxI p xs k) = xs.any p)
  | [], k, _ => by simp [idxI]
  | x :: xs, k, h => by
    by_cases hp : p x = true
    · simp [idxI, hp, h]
    · simp only [idxI, if_neg hp, List.any_cons, idxI_any p xs (k + 1) (by omega)]
      simp at hp; simp [hp]

/-- g is a function with a body: a call of the value enters it -/
def Enters (P : Program) (g : FuncId) : Prop := ∀ args W, (callFunc g args).run P W = .ok (.enter g args) W

section
variable {w : World} {xs ys : List Int} {A B : Option Addr} {n m c d : Nat} {bs bs' : List Nat}

set_option maxHeartbeats 400000 in
theorem IndexFunc_int_c {g : FuncId} {cap : Array Value} {p : Int → Bool} (h : Rep w (ints xs) [.slice A n c] bs)
    (hg : Enters Tryz.prog g) (hp : ∀ x W, I64 x → Calls Tryz.prog g (#[.int .i64 x] ++ cap) W fun e w' => e = .returned (.bool (p x)) ∧ W = w') :
    Calls Tryz.prog 229 #[.slice A n c, .func (.func g) #[] cap] w fun e w' => e = .returned (.int .i64 (idxI p xs 0)) ∧ w = w' := by
  obtain ⟨rfl, h2, h3⟩ := h.ints_len
  have hn : xs.length ≤ 9223372036854775807 := Nat.le_trans h2 h3
  clear h2 h3
  have HP := Lib.hid hp; clear hp
  unfold Enters at hg
  go_enter Tryz.func229, Tryz.ntmps229
  go_wp2
  go_loop [8] (fun i => ∃ j : Nat, j ≤ xs.length ∧ i = .int .i64 j ∧ idxI p xs 0 = idxI p (xs.drop j) j) (fun i => xs.length - (intOf i).toNat)
  case atStart => exact ⟨0, Nat.zero_le _, rfl, by simp⟩
  case round =>
    obtain ⟨j, hj, rfl, hi⟩ := hrel
    have HI := Lib.hid hi; clear hi
    by_cases hlt : j < xs.length
    · obtain ⟨b, o, rfl, _, _, hc, _⟩ := h.ints_at hlt
      have hfit := h.gi_fit j
      have hd := Lib.hid (idxI_drop p xs j hlt)
      rw [gi_eq hlt] at hc hfit
      go_wp2_with fail
      refine (HP.out _ _ hfit).mono ?_
      rintro e w' ⟨rfl, rfl⟩
      by_cases hpx : p xs[j] = true
      · have hd2 := Lib.hid (hd.out.trans (if_pos hpx))
        go_wp2
        go_ret
        exact ⟨ret_int (by rw [HI.out, hd2.out]), rfl⟩
      · have hd2 := Lib.hid (hd.out.trans (if_neg hpx))
        simp only [Bool.not_eq_true] at hpx
        go_wp2
        go_round
        case rel => exact ⟨j + 1, by omega, by go_num, by rw [HI.out, hd2.out]⟩
        case measure => simp [intOf]; omega
    · have hjj : j = xs.length := by omega
      subst hjj
      go_wp2
      go_ret
      exact ⟨ret_int (by rw [HI.out]; simp [idxI]), rfl⟩

theorem ContainsFunc_int_c {g : FuncId} {cap : Array Value} {p : Int → Bool} (h : Rep w (ints xs) [.slice A n c] bs)
    (hg : Enters Tryz.prog g) (hp : ∀ x W, I64 x → Calls Tryz.prog g (#[.int .i64 x] ++ cap) W fun e w' => e = .returned (.bool (p x)) ∧ W = w') :
    Calls Tryz.prog 176 #[.slice A n c, .func (.func g) #[] cap] w fun e w' => e = .returned (.bool (xs.any p)) ∧ w = w' := by
  have hx := Lib.hid (idxI_any p xs 0 (Int.le_refl _))
  have HH := Lib.hid h; clear h
  have HP := Lib.hid hp; clear hp
  go_enter Tryz.func176, Tryz.ntmps176
  go_wp2_with fail
  refine (IndexFunc_int_c HH.out hg HP.out).mono ?_
  rintro e w' ⟨rfl, rfl⟩
  go_wp2
  go_ret
  exact ⟨ret_bool hx.out, rfl⟩

end
end Go.Proofs.YtbhniobgaoncaaaGreatDoor

/- Slices of data: one element in place, one element changed; a row of the call's own filled element by element. -/
namespace Go.Proofs.YtbhniobgaoncaaaGreatDoor
open Go.ChangeShapes Go.WideShapes Go.ChangeAt Go.RowKit Go.Deep

theorem Rep.sl_len {w : World} {xs : List D} {A : Option Addr} {n c : Nat} {bs : List Nat} (h : Rep w (.sl xs) [.slice A n c] bs) : n = xs.length ∧ n ≤ c ∧ c ≤ maxLen := by
  obtain ⟨A', c', es, cb, e, h1, h2, _⟩ := h
  simp only [List.cons.injEq, Value.slice.injEq] at e
  obtain ⟨⟨rfl, rfl, rfl⟩, _⟩ := e
  exact ⟨rfl, h1, h2⟩

/-- the k-th element in place, and the slice with another element in its place -/
theorem Rep.focus {w : World} {xs : List D} {A : Option Addr} {n c s : Nat} {bs : List Nat} (h : Rep w (.sl xs) [.slice A n c] bs) (hs : ∀ x ∈ xs, x.size = s) {k : Nat} {x : D} (hk : xs[k]? = some x) :
    ∃ b o e1 l1 l0 l2, A = some ⟨b, o, none⟩ ∧ bs = b :: (l0 ++ l1 ++ l2) ∧ b < w.heap.size ∧ Rep w x e1 l1 ∧ e1.length = s ∧
      (∀ j u, e1[j]? = some u → w.cell? ⟨b, o + k * s + j, none⟩ = some u ∧ w.frozen? ⟨b, o + k * s + j, none⟩ = false) ∧
      (∀ w' x' e1', Rep w' x' e1' l1 → e1'.length = s → w.heap.size ≤ w'.heap.size → (∀ y, y ∈ l0 ∨ y ∈ l2 → w'.heap[y]? = w.heap[y]?) →
        (∀ i, w'.frozen? ⟨b, i, none⟩ = w.frozen? ⟨b, i, none⟩) → (∀ j u, e1'[j]? = some u → w'.cell? ⟨b, o + k * s + j, none⟩ = some u) →
        (∀ i, (i < o + k * s ∨ o + k * s + s ≤ i) → w'.cell? ⟨b, i, none⟩ = w.cell? ⟨b, i, none⟩) → Rep w' (.sl (xs.set k x')) [.slice A n c] bs) := by
  obtain ⟨A', c', es, cb, e, h1, h2, h3, h4⟩ := h
  simp only [List.cons.injEq, Value.slice.injEq] at e
  obtain ⟨⟨rfl, rfl, rfl⟩, _⟩ := e
  have hlt : k < xs.length := by
    rcases Nat.lt_or_ge k xs.length with h | h
    · exact h
    · rw [List.getElem?_eq_none h] at hk; cases hk
  rcases h4 with ⟨rfl, _⟩ | ⟨b, o, rfl, rfl, hbl, hc⟩
  · simp at hlt
  obtain ⟨e0, e1, e2, l0, l1, l2, rfl, rfl, he0, he1, r0, r1, r2⟩ := h3.at_ hs hk
  have hidx : ∀ j u, e1[j]? = some u → (e0 ++ e1 ++ e2)[k * s + j]? = some u := fun j u hu => by
    have hj : j < e1.length := by
      rcases Nat.lt_or_ge j e1.length with h | h
      · exact h
      · rw [List.getElem?_eq_none h] at hu; cases hu
    rw [List.append_assoc, List.getElem?_append_right (by omega), he0, Nat.add_sub_cancel_left, List.getElem?_append_left hj, hu]
  refine ⟨b, o, e1, l1, l0, l2, rfl, rfl, hbl, r1, he1, fun j u hu => ?_, ?_⟩
  · have := hc (k * s + j) u (hidx j u hu)
    rwa [← Nat.add_assoc] at this
  · intro w' x' e1' q1 q2 q3 q4 q5 q6 q7
    have hset : xs.set k x' = xs.take k ++ (x' :: xs.drop (k + 1)) := by
      rw [List.set_eq_take_append_cons_drop, if_pos hlt]
    refine ⟨_, c, e0 ++ e1' ++ e2, l0 ++ l1 ++ l2, by rw [List.length_set], by rw [List.length_set]; exact h1, h2, ?_, .inr ⟨b, o, rfl, rfl, Nat.lt_of_lt_of_le hbl q3, fun j u hu => ?_⟩⟩
    · rw [hset]
      refine (Reps_append _ _).2 ⟨e0, e1' ++ e2, l0, l1 ++ l2, by simp, by simp, Reps.keep _ r0 ⟨q3, fun y hy => q4 y (.inl hy)⟩, e1', e2, l1, l2, rfl, rfl, q1, Reps.keep _ r2 ⟨q3, fun y hy => q4 y (.inr hy)⟩⟩
    · have hfr : w'.frozen? ⟨b, o + j, none⟩ = false := by
        rw [q5]
        have hj : j < (e0 ++ e1 ++ e2).length := by
          have : j < (e0 ++ e1' ++ e2).length := by
            rcases Nat.lt_or_ge j (e0 ++ e1' ++ e2).length with h | h
            · exact h
            · rw [List.getElem?_eq_none h] at hu; cases hu
          simp only [List.length_append] at this ⊢
          omega
        exact (hc j _ (List.getElem?_eq_getElem hj)).2
      refine ⟨?_, hfr⟩
      rcases Nat.lt_or_ge j (k * s) with hj | hj
      · rw [q7 _ (.inl (by omega))]
        refine (hc j u ?_).1
        rw [List.append_assoc, List.getElem?_append_left (by omega)] at hu ⊢
        exact hu
      · rcases Nat.lt_or_ge j (k * s + s) with hj2 | hj2
        · rw [List.append_assoc, List.getElem?_append_right (by omega), he0, List.getElem?_append_left (by omega)] at hu
          have := q6 (j - k * s) u hu
          rwa [show o + k * s + (j - k * s) = o + j by omega] at this
        · rw [q7 _ (.inr (by omega))]
          refine (hc j u ?_).1
          rw [List.getElem?_append_right (by simp only [List.length_append]; omega)] at hu ⊢
          rw [← hu]
          congr 1
          simp only [List.length_append]; omega

/-- a block of the call's own, its cells known -/
def Row (w : World) (g : Nat) (t : TypeId) (cells : List Value) : Prop := w.heap[g]? = some (.cells cells.toArray t (0, 0))
section
variable {w w' : World} {g : Nat} {t : TypeId} {cells : List Value}
theorem Row.lt (h : Row w g t cells) : g < w.heap.size := by
  rcases Nat.lt_or_ge g w.heap.size with hlt | hge
  · exact hlt
  · unfold Row at h; rw [Array.getElem?_eq_none hge] at h; cases h
theorem Row.cell (h : Row w g t cells) (i : Nat) : w.cell? ⟨g, i, none⟩ = cells[i]? := by
  unfold Row at h; simp [World.cell?, h]
theorem Row.frozen (h : Row w g t cells) (i : Nat) : w.frozen? ⟨g, i, none⟩ = false := by
  unfold Row at h; simp [World.frozen?, h]
theorem Row.to (h : Row w g t cells) (hb : Below w.heap.size w w') : Row w' g t cells := (hb.block g h.lt).trans h
theorem Row.set (h : Row w g t cells) (i : Nat) (v : Value) : Row (w.setCell ⟨g, i, none⟩ v) g t (cells.set i v) := by
  unfold Row at h ⊢
  simp [World.setCell, Array.getElem?_modify, h]
theorem Row.made (w : World) (z : Array Value) (n : Nat) (t : TypeId) : Row (w.alloc (.cells (madeCells z n) t)) w.heap.size t (madeCells z n).toList := by
  unfold Row; rw [heap_alloc_new]
theorem Row.rep {xs : List D} {es rest : List Value} {cb : List Nat} (h : Row w g t (es ++ rest)) (hr : Reps w xs es cb) {c : Nat} (hc : xs.length ≤ c) (hm : c ≤ maxLen) : Rep w (.sl xs) [.slice (some ⟨g, 0, none⟩) xs.length c] (g :: cb) := by
  refine ⟨_, c, es, cb, rfl, hc, hm, hr, .inr ⟨g, 0, rfl, rfl, h.lt, fun j u hu => ⟨?_, h.frozen _⟩⟩⟩
  have hj : j < es.length := by
    rcases Nat.lt_or_ge j es.length with h | h
    · exact h
    · rw [List.getElem?_eq_none h] at hu; cases hu
  rw [Nat.zero_add, h.cell, List.getElem?_append_left hj, hu]
end

end Go.Proofs.YtbhniobgaoncaaaGreatDoor

/- Lists of data: forms, elements, sizes, marks; no function of the program is walked here. -/
namespace Go.Proofs.YtbhniobgaoncaaaGreatDoor
open Go.ChangeShapes Go.WideShapes Go.ChangeAt Go.RowKit Go.Deep

section
variable {α : Type} {w w' : World} {bs : List Nat}

/-- a slice of data of one kind -/
def sls (f : α → D) (xs : List α) : D := .sl (xs.map f)
theorem Rep.sls_form {f : α → D} {xs : List α} {cs : List Value} (h : Rep w (sls f xs) cs bs) : ∃ A c, cs = [.slice A xs.length c] ∧ xs.length ≤ c ∧ c ≤ maxLen := by
  obtain ⟨A, c, es, cb, rfl, h1, h2, _⟩ := h
  simp only [List.length_map] at *
  exact ⟨A, c, rfl, h1, h2⟩
theorem Rep.sls_len {f : α → D} {xs : List α} {A : Option Addr} {n c : Nat} (h : Rep w (sls f xs) [.slice A n c] bs) : n = xs.length ∧ n ≤ c ∧ c ≤ maxLen := by
  obtain ⟨A', c', e, h1, h2⟩ := h.sls_form
  simp only [List.cons.injEq, Value.slice.injEq] at e
  obtain ⟨⟨rfl, rfl, rfl⟩, _⟩ := e
  exact ⟨rfl, h1, h2⟩
/-- the k-th element in place -/
theorem Rep.sls_at {f : α → D} {xs : List α} {A : Option Addr} {n c s : Nat} (hs : ∀ x, (f x).size = s) (h : Rep w (sls f xs) [.slice A n c] bs) {k : Nat} (hk : k < xs.length) :
    ∃ b o cs l, A = some ⟨b, o, none⟩ ∧ b < w.heap.size ∧ Rep w (f xs[k]) cs l ∧ b ∈ bs ∧ (∀ y ∈ l, y ∈ bs) ∧
      ∀ j u, cs[j]? = some u → w.cell? ⟨b, o + k * s + j, none⟩ = some u ∧ w.frozen? ⟨b, o + k * s + j, none⟩ = false := by
  obtain ⟨b, o, e1, l1, l0, l2, h1, h2, h3, h4, _, h6, _⟩ := Rep.focus h (s := s) (fun x hx => by obtain ⟨y, _, rfl⟩ := List.mem_map.1 hx; exact hs y) (k := k) (x := f xs[k]) (by simp [hk])
  exact ⟨b, o, e1, l1, h1, h3, h4, by rw [h2]; simp, fun y hy => by rw [h2]; simp [hy], h6⟩

mutual
/-- how large a datum is, as the laws count -/
def szD : D → Nat
  | .int _ => 0
  | .bool _ => 0
  | .str s => s.size
  | .st fs => szDs fs
  | .sl xs => xs.length + szDs xs
def szDs : List D → Nat
  | [] => 0
  | x :: xs => szD x + szDs xs
end
theorem szDs_append : (xs ys : List D) → szDs (xs ++ ys) = szDs xs + szDs ys
  | [], ys => by simp [szDs]
  | x :: xs, ys => by simp only [List.cons_append, szDs, szDs_append xs ys]; omega
theorem szD_ints (xs : List Int) : szD (ints xs) = xs.length := by
  have : ∀ ys : List Int, szDs (ys.map .int) = 0 := fun ys => by
    induction ys with
    | nil => rfl
    | cons y ys ih => simp [szDs, szD, ih]
  simp [ints, szD, this]
theorem szDs_take {f : α → D} {xs : List α} {k : Nat} (h : k < xs.length) : szDs ((xs.take (k + 1)).map f) = szDs ((xs.take k).map f) + szD (f xs[k]) := by
  rw [List.take_succ_eq_append_getElem h, List.map_append, szDs_append]; simp [szDs]
theorem szDs_split {f : α → D} {xs : List α} (k : Nat) : szDs (xs.map f) = szDs ((xs.take k).map f) + szDs ((xs.drop k).map f) := by
  rw [← szDs_append, ← List.map_append, List.take_append_drop]
theorem szD_sls (f : α → D) (xs : List α) : szD (sls f xs) = xs.length + szDs (xs.map f) := by simp [sls, szD]

/-- the size of the first j elements -/
def szTo (f : α → D) (xs : List α) (j : Nat) : Nat := szDs ((xs.take j).map f)
theorem szTo_zero (f : α → D) (xs : List α) : szTo f xs 0 = 0 := by simp [szTo, szDs]
theorem szTo_all (f : α → D) (xs : List α) : szTo f xs xs.length = szDs (xs.map f) := by simp [szTo]
theorem szTo_succ (f : α → D) {xs : List α} {j : Nat} (h : j < xs.length) : szTo f xs (j + 1) = szTo f xs j + szD (f xs[j]) := szDs_take h
theorem szTo_le (f : α → D) {xs : List α} (j : Nat) : szTo f xs j ≤ szDs (xs.map f) := by rw [szDs_split (f := f) (xs := xs) j]; unfold szTo; omega

def cntL (cnt : α → Nat) : List α → Nat
  | [] => 0
  | x :: xs => cnt x + cntL cnt xs
theorem cntL_append (cnt : α → Nat) : (xs ys : List α) → cntL cnt (xs ++ ys) = cntL cnt xs + cntL cnt ys
  | [], ys => by simp [cntL]
  | x :: xs, ys => by simp only [List.cons_append, cntL, cntL_append cnt xs ys]; omega
theorem cntL_take {cnt : α → Nat} {xs : List α} {k : Nat} (h : k < xs.length) : cntL cnt (xs.take (k + 1)) = cntL cnt (xs.take k) + cnt xs[k] := by
  rw [List.take_succ_eq_append_getElem h, cntL_append]; simp [cntL]
theorem cntL_le {cnt : α → Nat} {xs : List α} (k : Nat) : cntL cnt (xs.take k) ≤ cntL cnt xs := by
  have h : cntL cnt (xs.take k) + cntL cnt (xs.drop k) = cntL cnt xs := by rw [← cntL_append, List.take_append_drop]
  omega
end

theorem int_eq {a b : Int} (h : a = b) : Value.int .i64 a = .int .i64 b := by rw [h]
abbrev Box1 (w : World) (g : Nat) (u : Value) : Prop := w.cell? ⟨g, 0, none⟩ = some u
theorem Box1.to {w w' : World} {g : Nat} {u : Value} (h : Box1 w g u) (hb : Below w.heap.size w w') : Box1 w' g u := by rw [Box1, hb.cell (lt_of_cell h)]; exact h
/-- blocks of three, seven and nine cells -/
abbrev Box3 (w : World) (g : Nat) (u v x : Value) : Prop := w.cell? ⟨g, 0, none⟩ = some u ∧ w.cell? ⟨g, 1, none⟩ = some v ∧ w.cell? ⟨g, 2, none⟩ = some x
theorem Box3.to {w w' : World} {g : Nat} {u v x : Value} (h : Box3 w g u v x) (hb : Below w.heap.size w w') : Box3 w' g u v x := by
  have hg := lt_of_cell h.1
  exact ⟨by rw [hb.cell hg]; exact h.1, by rw [hb.cell hg]; exact h.2.1, by rw [hb.cell hg]; exact h.2.2⟩

abbrev Box7 (w : World) (g : Nat) (u0 u1 u2 u3 u4 u5 u6 : Value) : Prop := w.cell? ⟨g, 0, none⟩ = some u0 ∧ w.cell? ⟨g, 1, none⟩ = some u1 ∧ w.cell? ⟨g, 2, none⟩ = some u2 ∧ w.cell? ⟨g, 3, none⟩ = some u3 ∧ w.cell? ⟨g, 4, none⟩ = some u4 ∧ w.cell? ⟨g, 5, none⟩ = some u5 ∧ w.cell? ⟨g, 6, none⟩ = some u6
theorem Box7.to {w w' : World} {g : Nat} {u0 u1 u2 u3 u4 u5 u6 : Value} (h : Box7 w g u0 u1 u2 u3 u4 u5 u6) (hb : Below w.heap.size w w') : Box7 w' g u0 u1 u2 u3 u4 u5 u6 := by
  have hg := lt_of_cell h.1
  exact ⟨by rw [hb.cell hg]; exact h.1, by rw [hb.cell hg]; exact h.2.1, by rw [hb.cell hg]; exact h.2.2.1, by rw [hb.cell hg]; exact h.2.2.2.1, by rw [hb.cell hg]; exact h.2.2.2.2.1, by rw [hb.cell hg]; exact h.2.2.2.2.2.1, by rw [hb.cell hg]; exact h.2.2.2.2.2.2⟩
abbrev Box9 (w : World) (g : Nat) (u0 u1 u2 u3 u4 u5 u6 u7 u8 : Value) : Prop := w.cell? ⟨g, 0, none⟩ = some u0 ∧ w.cell? ⟨g, 1, none⟩ = some u1 ∧ w.cell? ⟨g, 2, none⟩ = some u2 ∧ w.cell? ⟨g, 3, none⟩ = some u3 ∧ w.cell? ⟨g, 4, none⟩ = some u4 ∧ w.cell? ⟨g, 5, none⟩ = some u5 ∧ w.cell? ⟨g, 6, none⟩ = some u6 ∧ w.cell? ⟨g, 7, none⟩ = some u7 ∧ w.cell? ⟨g, 8, none⟩ = some u8
theorem Box9.to {w w' : World} {g : Nat} {u0 u1 u2 u3 u4 u5 u6 u7 u8 : Value} (h : Box9 w g u0 u1 u2 u3 u4 u5 u6 u7 u8) (hb : Below w.heap.size w w') : Box9 w' g u0 u1 u2 u3 u4 u5 u6 u7 u8 := by
  have hg := lt_of_cell h.1
  exact ⟨by rw [hb.cell hg]; exact h.1, by rw [hb.cell hg]; exact h.2.1, by rw [hb.cell hg]; exact h.2.2.1, by rw [hb.cell hg]; exact h.2.2.2.1, by rw [hb.cell hg]; exact h.2.2.2.2.1, by rw [hb.cell hg]; exact h.2.2.2.2.2.1, by rw [hb.cell hg]; exact h.2.2.2.2.2.2.1, by rw [hb.cell hg]; exact h.2.2.2.2.2.2.2.1, by rw [hb.cell hg]; exact h.2.2.2.2.2.2.2.2⟩
theorem Box7.touch {w w' : World} {g : Nat} {bs : List Nat} {u0 u1 u2 u3 u4 u5 u6 : Value} (h : Box7 w g u0 u1 u2 u3 u4 u5 u6) (t : Touch bs w w') (hn : g ∉ bs) : Box7 w' g u0 u1 u2 u3 u4 u5 u6 :=
  ⟨(t.cell (lt_of_cell h.1) hn).trans h.1, (t.cell (lt_of_cell h.1) hn).trans h.2.1, (t.cell (lt_of_cell h.1) hn).trans h.2.2.1, (t.cell (lt_of_cell h.1) hn).trans h.2.2.2.1, (t.cell (lt_of_cell h.1) hn).trans h.2.2.2.2.1, (t.cell (lt_of_cell h.1) hn).trans h.2.2.2.2.2.1, (t.cell (lt_of_cell h.1) hn).trans h.2.2.2.2.2.2⟩
theorem Box9.touch {w w' : World} {g : Nat} {bs : List Nat} {u0 u1 u2 u3 u4 u5 u6 u7 u8 : Value} (h : Box9 w g u0 u1 u2 u3 u4 u5 u6 u7 u8) (t : Touch bs w w') (hn : g ∉ bs) : Box9 w' g u0 u1 u2 u3 u4 u5 u6 u7 u8 :=
  ⟨(t.cell (lt_of_cell h.1) hn).trans h.1, (t.cell (lt_of_cell h.1) hn).trans h.2.1, (t.cell (lt_of_cell h.1) hn).trans h.2.2.1, (t.cell (lt_of_cell h.1) hn).trans h.2.2.2.1, (t.cell (lt_of_cell h.1) hn).trans h.2.2.2.2.1, (t.cell (lt_of_cell h.1) hn).trans h.2.2.2.2.2.1, (t.cell (lt_of_cell h.1) hn).trans h.2.2.2.2.2.2.1, (t.cell (lt_of_cell h.1) hn).trans h.2.2.2.2.2.2.2.1, (t.cell (lt_of_cell h.1) hn).trans h.2.2.2.2.2.2.2.2⟩
/-- make of n structs -/
theorem run_make_rows {P : Program} (t e : TypeId) (z : Value) (size bytes : Nat) (ht : P.underlying t = some (.slice e)) (hinfo : (P.info? e).map (fun i => (i.zero, i.size, i.bytes)) = some (some z, size, bytes))
    (kl kc : IntKind) (n : Nat) (hbytes : bytes * n ≤ 281474976710656) (h63 : n ≤ 9223372036854775807) (w : World) :
    (Instr.makeSlice t (.int kl (n : Int)) (.int kc (n : Int))).run P w = .ok (.slice (some ⟨w.heap.size, 0, none⟩) n n) (w.alloc (.cells (madeCells z.cells (n * size)) e)) := by
  obtain ⟨i, hi, hzz⟩ := Option.map_eq_some_iff.1 hinfo
  simp only [Prod.mk.injEq] at hzz
  obtain ⟨hz, hs, hb⟩ := hzz
  have hb' : (i.bytes : Int) * (n : Int) ≤ 281474976710656 := by
    have h : ((i.bytes * n : Nat) : Int) ≤ 281474976710656 := by rw [hb]; omega
    rwa [Int.natCast_mul] at h
  have hr := run_make (P := P) w t e i z ht hi hz kl kc n n (by omega) (Int.le_refl _) hb' (by omega)
  simp only [Int.toNat_natCast, hs] at hr
  exact hr
theorem reps_snoc {w : World} {xs : List D} {d : D} {es c : List Value} {cb b : List Nat} (h1 : Reps w xs es cb) (h2 : Rep w d c b) : Reps w (xs ++ [d]) (es ++ c) (cb ++ b) :=
  (Reps_append xs [d]).2 ⟨es, c, cb, b, rfl, rfl, h1, c, [], b, [], by simp, by simp, h2, rfl, rfl⟩
/-- a call answers a new struct; a new slice -/
def MadeT (w : World) (d : D) (e : Ending) (w' : World) : Prop :=
  ∃ cs bs, e = .returned (.agg (List.toArray cs)) ∧ Rep w' d cs bs ∧ bs.Nodup ∧ (∀ b ∈ bs, w.heap.size ≤ b) ∧ Below w.heap.size w w'
def MadeS (w : World) (d : D) (e : Ending) (w' : World) : Prop :=
  ∃ A n c bs, e = .returned (.slice A n c) ∧ Rep w' d [.slice A n c] bs ∧ bs.Nodup ∧ (∀ b ∈ bs, w.heap.size ≤ b) ∧ Below w.heap.size w w'
theorem Row.set_in {w : World} {g : Nat} {t : TypeId} {es rest : List Value} {u : Value} (h : Row w g t (es ++ u :: rest)) (v : Value) : Row (w.setCell ⟨g, es.length, none⟩ v) g t ((es ++ [v]) ++ rest) := by
  have := h.set es.length v
  rwa [List.set_append_right _ _ (Nat.le_refl _), Nat.sub_self, List.set_cons_zero, show es ++ v :: rest = (es ++ [v]) ++ rest by simp] at this
end Go.Proofs.YtbhniobgaoncaaaGreatDoor

/- A region that draws its order, by one obligation an operation: whatever the order, each operation finds what its predecessors have left. -/
namespace Go.Proofs.YtbhniobgaoncaaaGreatDoor
open Go.RowKit

theorem countP_less {α : Type} {p q : α → Bool} : (l : List α) → (∀ x ∈ l, q x = true → p x = true) → (∃ x ∈ l, p x = true ∧ q x = false) → l.countP q < l.countP p
  | [], _, h => by obtain ⟨_, h, _⟩ := h; cases h
  | x :: l, h1, h2 => by
    have hle : l.countP q ≤ l.countP p := List.countP_mono_left fun y hy hq => h1 y (List.mem_cons_of_mem _ hy) hq
    simp only [List.countP_cons]
    rcases h2 with ⟨y, hy, hp, hq⟩
    rcases List.mem_cons.1 hy with rfl | hy
    · simp only [hp, hq, if_true, Bool.false_eq_true, if_false]; omega
    · have := countP_less l (fun y hy => h1 y (List.mem_cons_of_mem _ hy)) ⟨y, hy, hp, hq⟩
      have h3 := h1 x List.mem_cons_self
      cases hqx : q x with
      | true => simp only [h3 hqx, if_true]; omega
      | false => simp only [Bool.false_eq_true, if_false]; split <;> omega

section
variable {P : Program} {ops : Array Oper} {Q : Exit → Act → World → Prop}

def leftOps (ops : Array Oper) (listed : Array Bool) : Nat := (List.range ops.size).countP fun j => !listed.getD j true

theorem wpAny_inv {I : Array Bool → Act → World → Prop}
    (hst : ∀ listed a w, I listed a w → ∀ i ∈ Region.ready .any ops listed, wpOp P ops Q i (I (listed.setIfInBounds i true)) a w)
    (hend : ∀ listed a w, I listed a w → Region.ready .any ops listed = [] → Q .normal a w) :
    ∀ (fuel : Nat) (listed : Array Bool) (a : Act) (w : World), leftOps ops listed ≤ fuel → I listed a w → wpAny P .any ops Q fuel listed a w
  | 0, listed, a, w, hf, hI => by
    have hr : Region.ready .any ops listed = [] := by
      rw [List.eq_nil_iff_forall_not_mem]
      intro j hj
      obtain ⟨h0, o, ho, _⟩ := mem_ready.1 hj
      have hlt : j < ops.size := (Array.getElem?_eq_some_iff.1 ho).1
      have h1 : 0 < leftOps ops listed := List.countP_pos_iff.2 ⟨j, List.mem_range.2 hlt, by simp [h0]⟩
      omega
    exact ⟨hr, hend _ _ _ hI hr⟩
  | fuel + 1, listed, a, w, hf, hI => by
    refine ⟨fun hr => hend _ _ _ hI hr, fun i hi => ?_⟩
    refine wpOp_mono (fun a' w' hI' => wpAny_inv hst hend fuel _ a' w' ?_ hI') (hst _ _ _ hI i hi)
    obtain ⟨h0, o, ho, _⟩ := mem_ready.1 hi
    have hlt : i < ops.size := (Array.getElem?_eq_some_iff.1 ho).1
    have hsz : i < listed.size := by
      rcases Nat.lt_or_ge i listed.size with h | h
      · exact h
      · simp [Array.getElem?_eq_none h] at h0
    have : leftOps ops (listed.setIfInBounds i true) < leftOps ops listed := by
      refine countP_less _ (fun j _ hj => ?_) ⟨i, List.mem_range.2 hlt, by simp [h0], by simp [hsz]⟩
      by_cases e : i = j
      · subst e; simp [hsz] at hj
      · rw [getD_set_ne true e] at hj; exact hj
    omega

/-- which operations are done -/
abbrev dn (listed : Array Bool) : Nat → Bool := fun i => listed.getD i false

/-- no guards; each slot written once, inside the frame; each waits for earlier ones alone -/
def regB (ops : Array Oper) (n : Nat) : Bool :=
  (ops.toList.all fun o => o.guard.isNone && (match o.dst with | some t => decide (t < n) | none => true)) &&
  decide (ops.toList.filterMap (·.dst)).Nodup &&
  ((List.range ops.size).all fun i => match ops[i]? with | some o => o.after.toList.all fun e => decide (e.on < i) | none => true)

structure RInv (ops : Array Oper) (a0 : Act) (F : Nat → Value → World → Prop) (J : (Nat → Bool) → World → Prop) (d : Nat → Bool) (a : Act) (w : World) : Prop where
  defers : a.defers = a0.defers
  size : a.tmps.size = a0.tmps.size
  old : ∀ s, (∀ i o, ops[i]? = some o → d i = true → o.dst ≠ some s) → a.tmps.getD s undef = a0.tmps.getD s undef
  val : ∀ i o t, ops[i]? = some o → o.dst = some t → d i = true → F i (a.tmps.getD t undef) w
  inv : J d w
  closed : ∀ i o, ops[i]? = some o → d i = true → ∀ e ∈ o.after, Region.binds .any e = true → d e.on = true

/-- what one operation is to leave -/
def Leaves (F : Nat → Value → World → Prop) (J : (Nat → Bool) → World → Prop) (i : Nat) (o : Oper) (d : Nat → Bool) (a : Act) (w : World) (a' : Act) (w' : World) : Prop :=
  ∃ v, a' = a.put o.dst v ∧ (o.dst ≠ none → F i v w') ∧ J (fun j => d j || j == i) w' ∧ ∀ k u, d k = true → F k u w → F k u w'

theorem filterMap_inj {β γ : Type} {f : β → Option γ} : (l : List β) → (l.filterMap f).Nodup → ∀ (i j : Nat) (x y : β) (t : γ), l[i]? = some x → l[j]? = some y → f x = some t → f y = some t → i = j
  | [], _, i, _, _, _, _, h, _, _, _ => by simp at h
  | z :: l, hn, i, j, x, y, t, hi, hj, hx, hy => by
    have htail : (l.filterMap f).Nodup := by
      simp only [List.filterMap_cons] at hn
      split at hn
      · exact hn
      · exact (List.nodup_cons.1 hn).2
    have hhead : ∀ k u, l[k]? = some u → f u = some t → f z = some t → False := fun k u hk hu hz => by
      simp only [List.filterMap_cons, hz] at hn
      exact (List.nodup_cons.1 hn).1 (List.mem_filterMap.2 ⟨u, List.mem_of_getElem? hk, hu⟩)
    rcases i with _ | i <;> rcases j with _ | j
    · rfl
    · simp at hi hj; subst hi; exact (hhead j y hj hy hx).elim
    · simp at hi hj; subst hj; exact (hhead i x hi hx hy).elim
    · simp at hi hj
      rw [filterMap_inj l htail i j x y t hi hj hx hy]

theorem region_by_ops {id : Nat} {a0 : Act} {w : World} (hm : P.follows .mixedOrders = true) (hB : regB ops a0.tmps.size = true)
    (F : Nat → Value → World → Prop) (J : (Nat → Bool) → World → Prop) (h0 : J (fun _ => false) w.drew)
    (hstep : ∀ i o, ops[i]? = some o → ∀ d a w, RInv ops a0 F J d a w → d i = false → (∀ e ∈ o.after, Region.binds .any e = true → d e.on = true) → o.wp P a w (Leaves F J i o d a w) Q)
    (hend : ∀ d a w, RInv ops a0 F J d a w → (∀ i, i < ops.size → d i = true) → Q .normal a w) :
    (Code.region id ops true).wp P Q a0 w := by
  simp only [regB, Bool.and_eq_true, decide_eq_true_iff, List.all_eq_true] at hB
  obtain ⟨⟨hg, hnd⟩, haft⟩ := hB
  refine wp_region_any hm (wpAny_inv (I := fun listed a w => listed.size = ops.size ∧ RInv ops a0 F J (dn listed) a w) ?_ ?_ _ _ _ _ ?_ ⟨by simp, ?_⟩)
  · rintro listed a w ⟨hsz, hI⟩ i hi
    obtain ⟨hl, o, ho, hdeps⟩ := mem_ready.1 hi
    have hlt : i < listed.size := by rw [hsz]; exact (Array.getElem?_eq_some_iff.1 ho).1
    have hdi : dn listed i = false := by
      simp only [dn]
      simp [hlt] at hl ⊢
      exact hl
    have hset : dn (listed.setIfInBounds i true) = fun j => dn listed j || j == i := by
      funext j
      simp only [dn]
      by_cases e : i = j
      · subst e; simp [hlt]
      · rw [getD_set_ne false e]
        have : (j == i) = false := by simpa using fun h => e h.symm
        rw [this, Bool.or_false]
    obtain ⟨hguard, hdst⟩ := hg o (List.mem_of_getElem? (i := i) (by rw [← ho]; simp))
    have hstep' := hstep i o ho _ a w hI hdi hdeps
    unfold wpOp
    simp only [ho]
    rw [if_pos (by simp only [Region.wanted]; rw [Option.isNone_iff_eq_none.1 hguard])]
    refine .inl (Oper.wp_mono ?_ hstep')
    rintro a' w' ⟨v, rfl, hv, hJ, hmono⟩
    refine ⟨by simpa using hsz, ?_⟩
    rw [hset]
    have hput : ∀ s, o.dst ≠ some s → (a.put o.dst v).tmps.getD s undef = a.tmps.getD s undef := fun s hs => by
      unfold Act.put
      split
      · next t ht =>
        have hts : t ≠ s := fun e => hs (by rw [ht, e])
        simp [Array.getElem?_setIfInBounds_ne hts]
      · rfl
    refine ⟨?_, ?_, ?_, ?_, hJ, ?_⟩
    · rw [← hI.defers]; unfold Act.put; split <;> rfl
    · rw [← hI.size]; unfold Act.put; split <;> simp
    · intro s hs
      rw [hput s (hs i o ho (by simp)), hI.old s fun k p hk hd => hs k p hk (by simp [hd])]
    · intro k p t hk ht hd
      by_cases e : k = i
      · subst e
        rw [ho] at hk; cases hk
        have htl : t < a.tmps.size := by
          rw [hI.size]
          rw [ht] at hdst
          simpa using hdst
        have : (a.put o.dst v).tmps.getD t undef = v := by
          unfold Act.put
          rw [ht]
          simp [htl]
        rw [this]
        exact hv (by rw [ht]; simp)
      · have hdk : dn listed k = true := by simpa [e] using hd
        rw [hput t fun h => e (filterMap_inj ops.toList hnd k i p o t (by rw [← hk]; simp) (by rw [← ho]; simp) ht h)]
        exact hmono k _ hdk (hI.val k p t hk ht hdk)
    · intro k p hk hd e he hb
      by_cases e' : k = i
      · subst e'
        rw [ho] at hk; cases hk
        simp [hdeps e he hb]
      · have hdk : dn listed k = true := by simpa [e'] using hd
        simp [hI.closed k p hk hdk e he hb]
  · rintro listed a w ⟨hsz, hI⟩ hr
    refine hend _ a w hI ?_
    intro i
    induction i using Nat.strongRecOn with
    | _ i ih =>
      intro hi
      obtain ⟨o, ho⟩ : ∃ o, ops[i]? = some o := ⟨_, Array.getElem?_eq_getElem hi⟩
      cases hd : dn listed i with
      | true => rfl
      | false =>
        have hmem : i ∈ Region.ready .any ops listed := by
          refine mem_ready.2 ⟨?_, o, ho, fun e he _ => ?_⟩
          · simp only [dn] at hd
            have : i < listed.size := by omega
            simp [this] at hd ⊢
            exact hd
          · have h1 := haft i (List.mem_range.2 hi)
            rw [ho] at h1
            have h2 := List.all_eq_true.1 h1 e (by simpa using he)
            have h3 : e.on < i := by simpa using h2
            exact ih e.on h3 (by omega)
        rw [hr] at hmem
        cases hmem
  · unfold leftOps
    exact Nat.le_trans List.countP_le_length (by simp)
  · have hz : dn (Array.replicate ops.size false) = fun _ => false := by
      funext i
      simp only [dn, Array.getD_eq_getD_getElem?, Array.getElem?_replicate]
      split <;> rfl
    rw [hz]
    refine ⟨rfl, rfl, fun _ _ => rfl, ?_, h0, ?_⟩
    · intro i o t _ _ hd; cases hd
    · intro i o _ hd; cases hd

/-- the frame behind such a region: the slots that it writes by their own names, the others as they were -/
theorem act_done {a0 a : Act} {F : Nat → Value → World → Prop} {J : (Nat → Bool) → World → Prop} {d : Nat → Bool} {w : World} (h : RInv ops a0 F J d a w) (l : List Nat) (hl : ops.toList.filterMap (·.dst) = l) :
    a = ⟨((List.range a0.tmps.size).map fun s => if l.contains s then a.tmps.getD s undef else a0.tmps.getD s undef).toArray, a0.defers⟩ := by
  obtain ⟨t, df⟩ := a
  have h1 := h.defers
  have h2 := h.size
  simp only at h1 h2
  subst h1
  congr 1
  apply Array.ext
  · simp [h2]
  · intro s hs1 hs2
    simp only [List.getElem_toArray, List.getElem_map, List.getElem_range]
    have e1 : t[s] = t.getD s undef := by simp [hs1]
    by_cases hn : l.contains s = true
    · rw [if_pos hn]; exact e1
    · rw [if_neg hn, e1]
      refine h.old s fun i o ho _ hdst => hn ?_
      rw [← hl]
      simp only [List.contains_iff_mem, List.mem_filterMap]
      exact ⟨o, List.mem_of_getElem? (l := ops.toList) (i := i) (by rw [← ho]; simp), hdst⟩

end

section
variable {P : Program} {l : List Oper} {Q : Exit → Act → World → Prop} {S : World → Prop} {md : Region.Mode}
/-- an operation that may come up and yields its value wherever S holds is taken first -/
theorem takeR {i : Nat} {oi : Oper} {v : Value} {fuel : Nat} {listed : Array Bool} {a : Act} {w : World} (hi : l[i]? = some oi) (hg : oi.guard = none)
    (hs : Region.noSelect l.toArray = true) (hf : Region.free md l.toArray listed i = true) (hr : (Region.ready md l.toArray listed).contains i = true)
    (hQ : ∀ c a w, Q (.panic c) (a.put oi.dst v) w → Q (.panic c) a w) (hy : ∀ w, S w → (execOp a.eval oi).run P w = .ok (.value v) w) (hS : S w)
    (h : wpAnyH P md l.toArray Q S fuel (listed.setIfInBounds i true) (a.put oi.dst v) w) : wpAnyH P md l.toArray Q S (fuel + 1) listed a w :=
  wpAnyH_take (oi := oi) (by simpa using hi) hs hf hr hQ (.inl ⟨by simp [Region.wanted, hg], hy⟩) hS h
/-- the same under a guard that lets it -/
theorem takeG {i : Nat} {oi : Oper} {v : Value} {fuel : Nat} {listed : Array Bool} {a : Act} {w : World} (hi : l[i]? = some oi) (hg : Region.wanted oi (yielded l.toArray a.tmps) = true)
    (hs : Region.noSelect l.toArray = true) (hf : Region.free md l.toArray listed i = true) (hr : (Region.ready md l.toArray listed).contains i = true)
    (hQ : ∀ c a w, Q (.panic c) (a.put oi.dst v) w → Q (.panic c) a w) (hy : ∀ w, S w → (execOp a.eval oi).run P w = .ok (.value v) w) (hS : S w)
    (h : wpAnyH P md l.toArray Q S fuel (listed.setIfInBounds i true) (a.put oi.dst v) w) : wpAnyH P md l.toArray Q S (fuel + 1) listed a w :=
  wpAnyH_take (oi := oi) (by simpa using hi) hs hf hr hQ (.inl ⟨hg, hy⟩) hS h
/-- an operation whose guard says no is passed over -/
theorem takeS {i : Nat} {oi : Oper} {fuel : Nat} {listed : Array Bool} {a : Act} {w : World} (hi : l[i]? = some oi) (hg : Region.wanted oi (yielded l.toArray a.tmps) = false)
    (hs : Region.noSelect l.toArray = true) (hf : Region.free md l.toArray listed i = true) (hr : (Region.ready md l.toArray listed).contains i = true)
    (hQ : ∀ c a w, Q (.panic c) (a.put oi.dst undef) w → Q (.panic c) a w) (hS : S w)
    (h : wpAnyH P md l.toArray Q S fuel (listed.setIfInBounds i true) (a.put oi.dst undef) w) : wpAnyH P md l.toArray Q S (fuel + 1) listed a w :=
  wpAnyH_take (oi := oi) (by simpa using hi) hs hf hr hQ (.inr ⟨hg, rfl⟩) hS h
/-- the one operation that may come up, whatever it does -/
theorem stepR {i : Nat} {o : Oper} {fuel : Nat} {listed : Array Bool} {a : Act} {w : World} (ho : l[i]? = some o) (hr : Region.ready md l.toArray listed = [i]) (hg : Region.wanted o (yielded l.toArray a.tmps) = true)
    (h : ∀ K' : Act → World → Prop, Shut (∀ a w, S w → (S w → wpAnyH P md l.toArray Q S fuel (listed.setIfInBounds i true) a w) → K' a w) → Oper.wp P o a w K' Q) :
    wpAnyH P md l.toArray Q S (fuel + 1) listed a w :=
  wpAnyH_ready hr (by simp) (AllReadyH.cons (o := o) (by simpa using ho) (fun K hK => by rw [if_pos hg]; exact h K hK) AllReadyH.nil)
theorem wanted_none {o : Oper} {f : Nat → Option Bool} (h : o.guard = none) : Region.wanted o f = true := by simp [Region.wanted, h]
end
section
variable {P : Program} {l : List Oper} {Q : Exit → Act → World → Prop} {S : World → Prop} {md : Region.Mode}
theorem goR (i : Nat) {oi : Oper} {v : Value} {fuel : Nat} {listed : Array Bool} {a a' : Act} {w : World} (hS : S w)
    (h : wpAnyH P md l.toArray Q S fuel (listed.setIfInBounds i true) a' w)
    (hi : l[i]? = some oi := by rfl) (hg : oi.guard = none := by rfl) (hs : Region.noSelect l.toArray = true := by kernel_rfl)
    (hf : Region.free md l.toArray listed i = true := by kernel_rfl) (hr : (Region.ready md l.toArray listed).contains i = true := by kernel_rfl)
    (hy : ∀ w, S w → (execOp a.eval oi).run P w = .ok (.value v) w := by (intro w hSw; (try dsimp only at hSw); go_simp; try with_reducible rfl))
    (hA : a.put oi.dst v = a' := by (simp only [Act.put, aq0, aq1, aq2]; try rfl))
    (hQ : ∀ c a w, Q (.panic c) (a.put oi.dst v) w → Q (.panic c) a w := by exact fun _ _ _ h => h) : wpAnyH P md l.toArray Q S (fuel + 1) listed a w :=
  takeR hi hg hs hf hr hQ hy hS (by rw [hA]; exact h)
theorem goG (i : Nat) {oi : Oper} {v : Value} {fuel : Nat} {listed : Array Bool} {a a' : Act} {w : World} (hS : S w)
    (h : wpAnyH P md l.toArray Q S fuel (listed.setIfInBounds i true) a' w)
    (hi : l[i]? = some oi := by rfl) (hg : Region.wanted oi (yielded l.toArray a.tmps) = true := by kernel_rfl) (hs : Region.noSelect l.toArray = true := by kernel_rfl)
    (hf : Region.free md l.toArray listed i = true := by kernel_rfl) (hr : (Region.ready md l.toArray listed).contains i = true := by kernel_rfl)
    (hy : ∀ w, S w → (execOp a.eval oi).run P w = .ok (.value v) w := by (intro w hSw; (try dsimp only at hSw); go_simp; try with_reducible rfl))
    (hA : a.put oi.dst v = a' := by (simp only [Act.put, aq0, aq1, aq2]; try rfl))
    (hQ : ∀ c a w, Q (.panic c) (a.put oi.dst v) w → Q (.panic c) a w := by exact fun _ _ _ h => h) : wpAnyH P md l.toArray Q S (fuel + 1) listed a w :=
  takeG hi hg hs hf hr hQ hy hS (by rw [hA]; exact h)
theorem goS (i : Nat) {oi : Oper} {fuel : Nat} {listed : Array Bool} {a a' : Act} {w : World} (hS : S w)
    (h : wpAnyH P md l.toArray Q S fuel (listed.setIfInBounds i true) a' w)
    (hi : l[i]? = some oi := by rfl) (hg : Region.wanted oi (yielded l.toArray a.tmps) = false := by kernel_rfl) (hs : Region.noSelect l.toArray = true := by kernel_rfl)
    (hf : Region.free md l.toArray listed i = true := by kernel_rfl) (hr : (Region.ready md l.toArray listed).contains i = true := by kernel_rfl)
    (hA : a.put oi.dst undef = a' := by (simp only [Act.put, aq0, aq1, aq2]; try rfl))
    (hQ : ∀ c a w, Q (.panic c) (a.put oi.dst undef) w → Q (.panic c) a w := by exact fun _ _ _ h => h) : wpAnyH P md l.toArray Q S (fuel + 1) listed a w :=
  takeS hi hg hs hf hr hQ hS (by rw [hA]; exact h)
end
end Go.Proofs.YtbhniobgaoncaaaGreatDoor

/- From the form's reading of arguments ('trod') to the words of Base: whatever can be read at a type of numbers, strings, slices and structs stands in memory as a datum. -/
namespace Go.Proofs.YtbhniobgaoncaaaGreatDoor
open Go.ChangeShapes Go.WideShapes Go.ChangeAt Go.RowKit Go.Deep

def laidB (P : Program) (off : Nat) : List Field → Nat → Bool
  | [], tot => off == tot
  | f :: fs, tot => f.offset == off && laidB P (off + P.cellsOf f.type) fs tot

/-- the types L are numbers (int), strings, slices of L's types, structs of L's types, laid without gaps -/
def layB (P : Program) (L : List TypeId) : Bool := L.all fun t =>
  match P.underlying t with
  | some (.int .i64) => P.cellsOf t == 1
  | some .string => P.cellsOf t == 1
  | some (.slice e) => L.contains e && (P.cellsOf t == 1 && decide (0 < P.cellsOf e))
  | some (.struct fs) => (fs.toList.all fun f => L.contains f.type) && laidB P 0 fs.toList (P.cellsOf t)
  | _ => false

mutual
/-- the datum is of the type -/
def HasTy (P : Program) : TypeId → D → Prop
  | t, .int _ => P.underlying t = some (.int .i64)
  | _, .bool _ => False
  | t, .str _ => P.underlying t = some .string
  | t, .st fs => ∃ fds, P.underlying t = some (.struct fds) ∧ HasTys P (fds.toList.map (·.type)) fs
  | t, .sl xs => ∃ e, P.underlying t = some (.slice e) ∧ HasTyE P e xs
def HasTys (P : Program) : List TypeId → List D → Prop
  | ts, [] => ts = []
  | ts, x :: xs => ∃ t r, ts = t :: r ∧ HasTy P t x ∧ HasTys P r xs
def HasTyE (P : Program) : TypeId → List D → Prop
  | _, [] => True
  | t, x :: xs => HasTy P t x ∧ HasTyE P t xs
end

theorem Reps_snoc {w : World} {xs : List D} {d : D} {es c : List Value} {cb b : List Nat} (h1 : Reps w xs es cb) (h2 : Rep w d c b) : Reps w (xs ++ [d]) (es ++ c) (cb ++ b) :=
  (Reps_append xs [d]).2 ⟨es, c, cb, b, rfl, rfl, h1, c, [], b, [], by simp, by simp, h2, rfl, rfl⟩

theorem cells?_at {w : World} {base : Nat} {a : Addr} {n : Nat} {cs : List Value} (h : w.cells? base a n = some cs) : cs.length = n ∧ ∀ j u, cs[j]? = some u → w.cell? (a.add j) = some u := by
  unfold World.cells? at h
  split at h
  · have hl := mapM_some_length h
    rw [List.length_range] at hl
    refine ⟨hl, fun j u hu => ?_⟩
    have hj : j < n := by
      rcases Nat.lt_or_ge j cs.length with hj | hj
      · omega
      · rw [List.getElem?_eq_none hj] at hu; cases hu
    rw [← hu]
    exact mapM_some_get h j j (by simp [hj])
  · cases h

section
variable {H : Type} {enc : TypeId × Value → H} {P : Program} {w : World} {base : Nat} {spare : Nat → Bool} {held : Bool} {L : List TypeId}

/-- a row of data, one behind the other from address a on -/
theorem reps_range {Q : D → Prop} {s : Nat} {a : Addr} (n : Nat)
    (h : ∀ i, i < n → ∃ d c b, Rep w d c b ∧ Q d ∧ c.length = s ∧ ∀ j u, c[j]? = some u → w.cell? ((a.add (i * s)).add j) = some u) :
    ∃ ds es cb, Reps w ds es cb ∧ ds.length = n ∧ (∀ d ∈ ds, Q d) ∧ es.length = n * s ∧ ∀ j u, es[j]? = some u → w.cell? (a.add j) = some u := by
  induction n with
  | zero => exact ⟨[], [], [], ⟨rfl, rfl⟩, rfl, by simp, by simp, by simp⟩
  | succ n ih =>
    obtain ⟨ds, es, cb, h1, h2, h3, h4, h5⟩ := ih fun i hi => h i (by omega)
    obtain ⟨d, c, b, g1, g2, g3, g4⟩ := h n (by omega)
    refine ⟨ds ++ [d], es ++ c, cb ++ b, Reps_snoc h1 g1, by simp [h2], ?_, ?_, fun j u hu => ?_⟩
    · intro x hx
      rcases List.mem_append.1 hx with hx | hx
      · exact h3 x hx
      · rw [List.mem_singleton.1 hx]; exact g2
    · rw [List.length_append, h4, g3, Nat.add_mul]; omega
    · rcases Nat.lt_or_ge j es.length with hj | hj
      · rw [List.getElem?_append_left hj] at hu
        exact h5 j u hu
      · rw [List.getElem?_append_right hj] at hu
        have := g4 _ u hu
        rw [add_add, h4] at this
        rw [h4] at hj
        rwa [show n * s + (j - n * s) = j by omega] at this

theorem hasTyE_all {t : TypeId} : (xs : List D) → (∀ d ∈ xs, HasTy P t d) → HasTyE P t xs
  | [], _ => trivial
  | _ :: xs, h => ⟨h _ List.mem_cons_self, hasTyE_all xs fun y hy => h y (List.mem_cons_of_mem _ hy)⟩

theorem fields_rep {tot : Nat} {cs : List Value} (hcs : cs.length = tot) : (fl : List Field) → (off : Nat) → laidB P off fl tot = true →
    (∀ f ∈ fl, ∃ d b, Rep w d ((cs.drop f.offset).take (P.cellsOf f.type)) b ∧ HasTy P f.type d ∧ d.size = P.cellsOf f.type) →
    ∃ ds bs, Reps w ds (cs.drop off) bs ∧ HasTys P (fl.map (·.type)) ds ∧ D.sizes ds + off = tot
  | [], off, hl, _ => by
    simp only [laidB, beq_iff_eq] at hl
    subst hl
    exact ⟨[], [], ⟨by simp [← hcs], rfl⟩, rfl, by simp [D.sizes]⟩
  | f :: fl, off, hl, h => by
    simp only [laidB, Bool.and_eq_true, beq_iff_eq] at hl
    obtain ⟨rfl, hl⟩ := hl
    obtain ⟨d, b, h1, h2, h3⟩ := h f List.mem_cons_self
    obtain ⟨ds, bs, g1, g2, g3⟩ := fields_rep hcs fl _ hl fun f hf => h f (List.mem_cons_of_mem _ hf)
    refine ⟨d :: ds, b ++ bs, ⟨_, _, b, bs, ?_, rfl, h1, g1⟩, ⟨_, _, rfl, h2, g2⟩, ?_⟩
    · rw [← List.drop_drop, List.take_append_drop]
    · simp only [D.sizes, h3]; omega

theorem trod_rep (hL : layB P L = true) : ∀ (fuel : Nat) (t : TypeId), t ∈ L → ∀ (cs : List Value) (x : DataW H × List MemPlace),
    DataW.trod enc P w base spare held fuel t cs = some x → w.noneFrozen x.2 → ∃ d bs, Rep w d cs bs ∧ HasTy P t d ∧ d.size = P.cellsOf t := by
  intro fuel
  induction fuel with
  | zero => intro t _ cs x h; simp [DataW.trod] at h
  | succ fuel ih =>
    intro t ht cs x h hz
    have hlt := List.all_eq_true.1 hL t ht
    split at hlt
    · next hu =>
      obtain ⟨n, rfl, _, hw⟩ := DataW.trod_int hu h
      simp only [beq_iff_eq] at hlt
      exact ⟨.int n, [], ⟨rfl, rfl, bounds_i64 hw⟩, hu, hlt.symm⟩
    · next hu =>
      obtain ⟨s, rfl, _, hw⟩ := DataW.trod_string hu h
      simp only [beq_iff_eq] at hlt
      exact ⟨.str s, [], ⟨rfl, rfl, hw⟩, hu, hlt.symm⟩
    · next e hu =>
      simp only [Bool.and_eq_true, beq_iff_eq, decide_eq_true_iff, List.contains_iff_mem] at hlt
      obtain ⟨he, h1, hpos⟩ := hlt
      rcases DataW.trod_slice hu h with ⟨rfl, rfl⟩ | ⟨a, len, cap, elems, rest, n, hn, rfl, rfl, hb, hl, hm, hlen, hel, _, _⟩
      · exact ⟨.sl [], [], ⟨none, 0, [], [], rfl, Nat.le_refl _, Nat.zero_le _, ⟨rfl, rfl⟩, .inl ⟨rfl, rfl⟩⟩, ⟨e, hu, trivial⟩, h1.symm⟩
      · obtain rfl : n = fuel := by omega
        obtain ⟨ds, es, cb, k1, k2, k3, k4, k5⟩ := reps_range (w := w) (Q := fun d => HasTy P e d) (s := P.cellsOf e) (a := a) len (fun i hi => by
          have hi' : i < elems.length := by omega
          have hel1 := hel i hi
          rw [List.getElem?_eq_getElem hi'] at hel1
          obtain ⟨cs', g1, g2⟩ := Option.bind_eq_some_iff.1 hel1
          obtain ⟨d, b, q1, q2, q3⟩ := ih e he cs' _ g2 (fun bb oo hmm => hz bb oo (List.mem_append_right _ (List.mem_flatMap.2 ⟨_, List.mem_append_left _ (List.getElem_mem hi'), hmm⟩)))
          obtain ⟨g3, g4⟩ := cells?_at g1
          exact ⟨d, cs', b, q1, q2, g3, g4⟩)
        have hf : ∀ j, j < len * P.cellsOf e → w.frozen? ⟨a.block, a.off + j, none⟩ = false := fun j hj => hz _ _ (List.mem_append_left _ (by
          unfold MemPlace.row
          exact List.mem_map.2 ⟨j, List.mem_range.2 (Nat.lt_of_lt_of_le hj (Nat.mul_le_mul_right _ (by omega))), rfl⟩))
        subst k2
        rcases Nat.eq_zero_or_pos ds.length with h0 | h0
        · have := List.eq_nil_of_length_eq_zero h0
          subst this
          obtain ⟨rfl, rfl⟩ := k1
          exact ⟨.sl [], [], ⟨some a, cap, [], [], rfl, hl, hm, ⟨rfl, rfl⟩, .inl ⟨rfl, rfl⟩⟩, ⟨e, hu, trivial⟩, h1.symm⟩
        · have hes : 0 < es.length := by rw [k4]; exact Nat.mul_pos h0 hpos
          have hc0 := k5 0 es[0] (List.getElem?_eq_getElem hes)
          obtain ⟨b, o, sp⟩ := a
          have hsp : sp = none := by
            simp only [Addr.add, if_true, World.cell?] at hc0
            split at hc0
            · cases sp with
              | none => rfl
              | some _ => simp at hc0
            · cases hc0
          subst hsp
          have hadd : ∀ j, (⟨b, o, none⟩ : Addr).add j = ⟨b, o + j, none⟩ := fun j => by
            unfold Addr.add; split
            · simp_all
            · rfl
          refine ⟨.sl ds, b :: cb, ⟨_, cap, es, cb, rfl, hl, hm, k1, .inr ⟨b, o, rfl, rfl, ?_, fun j u hu => ?_⟩⟩, ⟨e, hu, hasTyE_all ds k3⟩, h1.symm⟩
          · rw [hadd] at hc0
            unfold World.cell? at hc0
            rcases Nat.lt_or_ge b w.heap.size with hlt | hge
            · exact hlt
            · simp [Array.getElem?_eq_none hge] at hc0
          · have hj : j < es.length := by
              rcases Nat.lt_or_ge j es.length with hj | hj
              · exact hj
              · rw [List.getElem?_eq_none hj] at hu; cases hu
            exact ⟨by rw [← hadd]; exact k5 j u hu, hf j (by rw [← k4]; exact hj)⟩
    · next fs hu =>
      simp only [Bool.and_eq_true, List.all_eq_true, List.contains_iff_mem] at hlt
      obtain ⟨hf, hlaid⟩ := hlt
      obtain ⟨xs, n, hn, rfl, hcs, hxl, hx⟩ := DataW.trod_struct hu h
      obtain rfl : n = fuel := by omega
      have := fields_rep (P := P) (w := w) hcs fs.toList 0 hlaid (fun f hff => by
        obtain ⟨i, hi, hfi⟩ := List.getElem_of_mem hff
        have hi' : i < xs.length := by rw [hxl]; simpa using hi
        have hfx := hx i f (by rw [← hfi]; simp at hi; simp [hi])
        rw [List.getElem?_eq_getElem hi'] at hfx
        obtain ⟨d, b, k1, k2, k3⟩ := ih f.type (hf f hff) _ _ hfx (fun bb oo hm => hz bb oo (List.mem_flatMap.2 ⟨_, List.getElem_mem hi', hm⟩))
        exact ⟨d, b, k1, k2, k3⟩)
      obtain ⟨ds, bs, k1, k2, k3⟩ := this
      exact ⟨.st ds, bs, by rw [List.drop_zero] at k1; exact k1, ⟨fs, hu, k2⟩, by simpa [D.size] using k3⟩
    · cases hlt
end
end Go.Proofs.YtbhniobgaoncaaaGreatDoor
