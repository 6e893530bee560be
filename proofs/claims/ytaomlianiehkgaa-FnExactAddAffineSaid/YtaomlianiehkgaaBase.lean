/- Words and laws on Go data in memory: what a value, with all that it leads to, reads as; no function of the program is walked here. -/
import Derived.Test.YtaomlianiehkgaaProg
import Derived.WalkKit
import Derived.ProofKit
import Derived.OpenShut
import Derived.Outline
import Derived.BigQuiet
import Derived.Deep.QuietTactic
import Derived.WalkSpells
import Derived.WalkLawsBesides
import Derived.Lib.Hide
import Derived.Deep.OwnRows
import Derived.Deep.LoopGhost
import Derived.Deep.DeepFit
import Derived.Laws.MakeOwn
import Derived.IntWalk
import Derived.Deep.RegionHeld3
import Derived.Deep.DeepMust
import Derived.Deep.DeepCutAuto
set_option linter.all false
set_option linter.unusedSimpArgs false
set_option linter.unusedVariables false
namespace Go.Proofs.Ytaomlianiehkgaa
open Go.ChangeShapes Go.WideShapes Go.ChangeAt Go.RowKit

/-- What Go data read as: numbers, truth values, strings, structs, slices. -/
inductive D where
  | int (n : Int)
  | bool (b : Bool)
  | str (s : ByteArray)
  | st (fs : List D)
  | sl (xs : List D)

/-- the number fits an int -/
def I64 (n : Int) : Prop := -9223372036854775808 ≤ n ∧ n ≤ 9223372036854775807

mutual
/-- how many cells a datum takes in place -/
def D.size : D → Nat
  | .int _ => 1
  | .bool _ => 1
  | .str _ => 1
  | .st fs => D.sizes fs
  | .sl _ => 1
def D.sizes : List D → Nat
  | [] => 0
  | x :: xs => x.size + D.sizes xs
end

mutual
/-- In world w the cells cs read as the datum; bs: the blocks that its slices lie in, each as often as it is met. -/
def Rep (w : World) : D → List Value → List Nat → Prop
  | .int n, cs, bs => cs = [.int .i64 n] ∧ bs = [] ∧ I64 n
  | .bool b, cs, bs => cs = [.bool b] ∧ bs = []
  | .str s, cs, bs => cs = [.string s] ∧ bs = [] ∧ s.size ≤ maxLen
  | .st fs, cs, bs => Reps w fs cs bs
  | .sl xs, cs, bs => ∃ A c es cb, cs = [.slice A xs.length c] ∧ xs.length ≤ c ∧ c ≤ maxLen ∧ Reps w xs es cb ∧
      ((xs = [] ∧ bs = []) ∨ ∃ b o, A = some ⟨b, o, none⟩ ∧ bs = b :: cb ∧ b < w.heap.size ∧
        ∀ j u, es[j]? = some u → w.cell? ⟨b, o + j, none⟩ = some u ∧ w.frozen? ⟨b, o + j, none⟩ = false)
def Reps (w : World) : List D → List Value → List Nat → Prop
  | [], cs, bs => cs = [] ∧ bs = []
  | x :: xs, cs, bs => ∃ c1 c2 b1 b2, cs = c1 ++ c2 ∧ bs = b1 ++ b2 ∧ Rep w x c1 b1 ∧ Reps w xs c2 b2
end

/-- w' holds in the blocks bs what w held -/
def Keeps (w w' : World) (bs : List Nat) : Prop := w.heap.size ≤ w'.heap.size ∧ ∀ b ∈ bs, w'.heap[b]? = w.heap[b]?

theorem Keeps.left {w w' : World} {b1 b2 : List Nat} (h : Keeps w w' (b1 ++ b2)) : Keeps w w' b1 := ⟨h.1, fun b hb => h.2 b (List.mem_append_left _ hb)⟩
theorem Keeps.right {w w' : World} {b1 b2 : List Nat} (h : Keeps w w' (b1 ++ b2)) : Keeps w w' b2 := ⟨h.1, fun b hb => h.2 b (List.mem_append_right _ hb)⟩

mutual
theorem Rep.keep {w w' : World} : (d : D) → {cs : List Value} → {bs : List Nat} → Rep w d cs bs → Keeps w w' bs → Rep w' d cs bs
  | .int _, _, _, h, _ => h
  | .bool _, _, _, h, _ => h
  | .str _, _, _, h, _ => h
  | .st fs, _, _, h, k => Reps.keep fs h k
  | .sl xs, _, _, h, k => by
    obtain ⟨A, c, es, cb, hcs, hc, hm, hr, h0⟩ := h
    rcases h0 with ⟨hx, hb⟩ | ⟨b, o, hA, hb, hlt, hcell⟩
    · subst hx
      exact ⟨A, c, es, cb, hcs, hc, hm, hr, .inl ⟨rfl, hb⟩⟩
    · subst hb
      have hcb : Keeps w w' cb := ⟨k.1, fun x hx => k.2 x (List.mem_cons_of_mem _ hx)⟩
      have hbb := k.2 b List.mem_cons_self
      refine ⟨A, c, es, cb, hcs, hc, hm, Reps.keep xs hr hcb, .inr ⟨b, o, hA, rfl, Nat.lt_of_lt_of_le hlt k.1, fun j u hu => ?_⟩⟩
      obtain ⟨e1, e2⟩ := hcell j u hu
      exact ⟨by rw [← e1]; exact World.cell?_of_block (w := w) hbb, by rw [← e2]; exact World.frozen?_of_block (w := w) hbb⟩
theorem Reps.keep {w w' : World} : (xs : List D) → {cs : List Value} → {bs : List Nat} → Reps w xs cs bs → Keeps w w' bs → Reps w' xs cs bs
  | [], _, _, h, _ => h
  | x :: xs, _, _, h, k => by
    obtain ⟨c1, c2, b1, b2, hc, hb, h1, h2⟩ := h
    subst hb
    exact ⟨c1, c2, b1, b2, hc, rfl, Rep.keep x h1 k.left, Reps.keep xs h2 k.right⟩
end

mutual
theorem Rep.lt {w : World} : (d : D) → {cs : List Value} → {bs : List Nat} → Rep w d cs bs → ∀ b ∈ bs, b < w.heap.size
  | .int _, _, _, h => by obtain ⟨_, rfl, _⟩ := h; simp
  | .bool _, _, _, h => by obtain ⟨_, rfl⟩ := h; simp
  | .str _, _, _, h => by obtain ⟨_, rfl, _⟩ := h; simp
  | .st fs, _, _, h => Reps.lt fs h
  | .sl xs, _, _, h => by
    obtain ⟨A, c, es, cb, hcs, hc, hm, hr, h0⟩ := h
    rcases h0 with ⟨hx, rfl⟩ | ⟨b, o, hA, rfl, hlt, hcell⟩
    · simp
    · intro x hx
      rcases List.mem_cons.1 hx with rfl | hx
      · exact hlt
      · exact Reps.lt xs hr x hx
theorem Reps.lt {w : World} : (xs : List D) → {cs : List Value} → {bs : List Nat} → Reps w xs cs bs → ∀ b ∈ bs, b < w.heap.size
  | [], _, _, h => by obtain ⟨_, rfl⟩ := h; simp
  | x :: xs, _, _, h => by
    obtain ⟨c1, c2, b1, b2, hc, rfl, h1, h2⟩ := h
    intro b hb
    rcases List.mem_append.1 hb with hb | hb
    · exact Rep.lt x h1 b hb
    · exact Reps.lt xs h2 b hb
end

mutual
theorem Rep.length {w : World} : (d : D) → {cs : List Value} → {bs : List Nat} → Rep w d cs bs → cs.length = d.size
  | .int _, _, _, h => by obtain ⟨rfl, _, _⟩ := h; rfl
  | .bool _, _, _, h => by obtain ⟨rfl, _⟩ := h; rfl
  | .str _, _, _, h => by obtain ⟨rfl, _, _⟩ := h; rfl
  | .st fs, _, _, h => Reps.length fs h
  | .sl xs, _, _, h => by obtain ⟨A, c, es, cb, rfl, _⟩ := h; rfl
theorem Reps.length {w : World} : (xs : List D) → {cs : List Value} → {bs : List Nat} → Reps w xs cs bs → cs.length = D.sizes xs
  | [], _, _, h => by obtain ⟨rfl, _⟩ := h; rfl
  | x :: xs, _, _, h => by
    obtain ⟨c1, c2, b1, b2, rfl, _, h1, h2⟩ := h
    simp only [List.length_append, D.sizes, Rep.length x h1, Reps.length xs h2]
end

theorem Keeps.refl (w : World) (bs : List Nat) : Keeps w w bs := ⟨Nat.le_refl _, fun _ _ => rfl⟩
theorem Keeps.trans {a b c : World} {bs : List Nat} (h : Keeps a b bs) (k : Keeps b c bs) : Keeps a c bs := ⟨Nat.le_trans h.1 k.1, fun x hx => (k.2 x hx).trans (h.2 x hx)⟩
theorem Keeps.setCell {w w' : World} {bs : List Nat} (h : Keeps w w' bs) {p : Addr} (hp : p.block ∉ bs) (u : Value) : Keeps w (w'.setCell p u) bs :=
  ⟨by simpa [World.setCell] using h.1, fun b hb => (Below.heap_setCell _ _ _ _ (fun e => hp (e ▸ hb))).trans (h.2 b hb)⟩
theorem Keeps.alloc {w w' : World} {bs : List Nat} (h : Keeps w w' bs) (hb : ∀ b ∈ bs, b < w'.heap.size) (o : Obj) : Keeps w (w'.alloc o) bs :=
  ⟨Nat.le_trans h.1 (by simp), fun b hm => (Below.heap_alloc _ _ _ (hb b hm)).trans (h.2 b hm)⟩
theorem Keeps.of_below {w w' : World} {B : Nat} {bs : List Nat} (h : Below B w w') (hb : ∀ b ∈ bs, b < B) : Keeps w w' bs := ⟨h.size, fun b hm => h.block b (hb b hm)⟩
theorem below_tr {w a b : World} (h : Below w.heap.size w a) (k : Below a.heap.size a b) : Below w.heap.size w b := h.trans (k.mono h.size)
theorem below_al {w a : World} (h : Below w.heap.size w a) (o : Obj) : Below w.heap.size w (a.alloc o) := h.alloc h.size o
theorem below_drewN {B : Nat} {a w : World} (h : Below B a w) (n : Nat) : Below B a (w.drewN n) := ⟨h.os, h.tape, h.output, h.size, h.block⟩
theorem bcell {W w1 : World} (hb : Below W.heap.size W w1) : (∀ b o, b < W.heap.size → w1.cell? ⟨b, o, none⟩ = W.cell? ⟨b, o, none⟩) ∧ (∀ b o, b < W.heap.size → w1.frozen? ⟨b, o, none⟩ = W.frozen? ⟨b, o, none⟩) :=
  ⟨fun b o h => hb.cell (p := ⟨b, o, none⟩) h, fun b o h => hb.frozen (p := ⟨b, o, none⟩) h⟩
theorem Rep.below {w w' : World} {d : D} {cs : List Value} {bs : List Nat} (h : Rep w d cs bs) (hb : Below w.heap.size w w') : Rep w' d cs bs :=
  Rep.keep d h (.of_below hb (Rep.lt d h))
theorem Rep.drewN {w : World} {d : D} {cs : List Value} {bs : List Nat} (h : Rep w d cs bs) (n : Nat) : Rep (w.drewN n) d cs bs :=
  Rep.keep d h ⟨Nat.le_refl _, fun _ _ => rfl⟩

theorem Reps_append {w : World} : (xs ys : List D) → {cs : List Value} → {bs : List Nat} →
    (Reps w (xs ++ ys) cs bs ↔ ∃ c1 c2 b1 b2, cs = c1 ++ c2 ∧ bs = b1 ++ b2 ∧ Reps w xs c1 b1 ∧ Reps w ys c2 b2)
  | [], ys, cs, bs => by
    constructor
    · exact fun h => ⟨[], cs, [], bs, rfl, rfl, ⟨rfl, rfl⟩, h⟩
    · rintro ⟨c1, c2, b1, b2, rfl, rfl, ⟨rfl, rfl⟩, h⟩
      exact h
  | x :: xs, ys, cs, bs => by
    constructor
    · rintro ⟨c1, c2, b1, b2, rfl, rfl, h1, h2⟩
      obtain ⟨d1, d2, e1, e2, rfl, rfl, g1, g2⟩ := (Reps_append xs ys).1 h2
      exact ⟨c1 ++ d1, d2, b1 ++ e1, e2, by simp, by simp, ⟨c1, d1, b1, e1, rfl, rfl, h1, g1⟩, g2⟩
    · rintro ⟨_, d2, _, e2, rfl, rfl, ⟨c1, d1, b1, e1, rfl, rfl, h1, g1⟩, g2⟩
      exact ⟨c1, d1 ++ d2, b1, e1 ++ e2, by simp, by simp, h1, (Reps_append xs ys).2 ⟨d1, d2, e1, e2, rfl, rfl, g1, g2⟩⟩

theorem sizes_eq {s : Nat} : (xs : List D) → (∀ x ∈ xs, x.size = s) → D.sizes xs = xs.length * s
  | [], _ => by simp [D.sizes]
  | x :: xs, h => by
    simp only [D.sizes, List.length_cons, h x List.mem_cons_self, sizes_eq xs (fun y hy => h y (List.mem_cons_of_mem _ hy)), Nat.add_mul, Nat.one_mul, Nat.add_comm]

/-- the k-th element's own cells, and what stands ahead and behind -/
theorem Reps.at_ {w : World} {xs : List D} {es : List Value} {cb : List Nat} {s : Nat} (h : Reps w xs es cb) (hs : ∀ x ∈ xs, x.size = s) {k : Nat} {x : D} (hk : xs[k]? = some x) :
    ∃ e0 e1 e2 l0 l1 l2, es = e0 ++ e1 ++ e2 ∧ cb = l0 ++ l1 ++ l2 ∧ e0.length = k * s ∧ e1.length = s ∧
      Reps w (xs.take k) e0 l0 ∧ Rep w x e1 l1 ∧ Reps w (xs.drop (k + 1)) e2 l2 := by
  have hlt : k < xs.length := by
    rcases Nat.lt_or_ge k xs.length with h | h
    · exact h
    · rw [List.getElem?_eq_none h] at hk; cases hk
  have hx : xs[k] = x := by rw [List.getElem?_eq_getElem hlt] at hk; exact Option.some.inj hk
  have e : xs = xs.take k ++ (x :: xs.drop (k + 1)) := by
    rw [← hx, List.getElem_cons_drop, List.take_append_drop]
  rw [e] at h
  obtain ⟨e0, er, l0, lr, rfl, rfl, h0, e1, e2, l1, l2, rfl, rfl, h1, h2⟩ := (Reps_append _ _).1 h
  refine ⟨e0, e1, e2, l0, l1, l2, by simp, by simp, ?_, ?_, h0, h1, h2⟩
  · rw [Reps.length _ h0, sizes_eq (s := s) _ (fun y hy => hs y (List.mem_of_mem_take hy)), List.length_take, Nat.min_eq_left (by omega)]
  · rw [Rep.length _ h1]
    exact hs x (by rw [← hx]; exact List.getElem_mem _)

theorem of_drew {w w' : World} (h : Below w.drew.heap.size w.drew w') : Below w.heap.size w w' := ⟨h.os, h.tape, h.output, h.size, h.block⟩
theorem sameB {P : Program} {f : FuncId} {args : Array Value} {w : World} {r : Ending} (h : Calls P f args w fun e w' => e = r ∧ w = w') : Calls P f args w fun e w' => e = r ∧ Below w.heap.size w w' :=
  h.mono fun _ _ ⟨h1, h2⟩ => ⟨h1, h2 ▸ Below.refl _ _⟩
theorem drewB {P : Program} {f : FuncId} {args : Array Value} {w : World} {r : Ending} (h : Calls P f args w fun e w' => e = r ∧ ∃ nq, w' = w.drewN nq) : Calls P f args w fun e w' => e = r ∧ Below w.heap.size w w' :=
  h.mono fun _ _ ⟨h1, n, h2⟩ => ⟨h1, by rw [h2]; exact below_drewN (Below.refl _ _) n⟩
/-- a block of the call's own that holds a struct of two cells -/
abbrev Box2 (w : World) (g : Nat) (u v : Value) : Prop := w.cell? ⟨g, 0, none⟩ = some u ∧ w.cell? ⟨g, 1, none⟩ = some v
theorem lt_of_cell {w : World} {g o : Nat} {u : Value} (h : w.cell? ⟨g, o, none⟩ = some u) : g < w.heap.size := by
  unfold World.cell? at h
  rcases Nat.lt_or_ge g w.heap.size with hlt | hge
  · exact hlt
  · simp [Array.getElem?_eq_none hge] at h
theorem Box2.to {w w' : World} {g : Nat} {u v : Value} (h : Box2 w g u v) (hb : Below w.heap.size w w') : Box2 w' g u v := by
  have hg := lt_of_cell h.1
  exact ⟨by rw [hb.cell hg]; exact h.1, by rw [hb.cell hg]; exact h.2⟩
theorem Box2.set {w : World} {g : Nat} {u v : Value} (h : Box2 w g u v) {p : Addr} (hp : p.block ≠ g) (x : Value) : Box2 (w.setCell p x) g u v :=
  ⟨by rw [World.cell?_setCell_other _ _ _ _ (fun e => hp (by rw [e]))]; exact h.1, by rw [World.cell?_setCell_other _ _ _ _ (fun e => hp (by rw [e]))]; exact h.2⟩
/-- .. and may be written -/
abbrev BoxW (w : World) (g : Nat) (u v : Value) : Prop := (w.cell? ⟨g, 0, none⟩ = some u ∧ w.cell? ⟨g, 1, none⟩ = some v) ∧ w.frozen? ⟨g, 0, none⟩ = false ∧ w.frozen? ⟨g, 1, none⟩ = false
theorem BoxW.to {w w' : World} {g : Nat} {u v : Value} (h : BoxW w g u v) (hb : Below w.heap.size w w') : BoxW w' g u v := by
  have hg := lt_of_cell h.1.1
  exact ⟨⟨by rw [hb.cell hg]; exact h.1.1, by rw [hb.cell hg]; exact h.1.2⟩, by rw [hb.frozen hg]; exact h.2.1, by rw [hb.frozen hg]; exact h.2.2⟩
theorem BoxW.new (w : World) (u v : Value) (t : TypeId) : BoxW (w.alloc (.cells #[u, v] t)) w.heap.size u v := ⟨⟨by go_simp, by go_simp⟩, by go_simp, by go_simp⟩
theorem Box2.new (w : World) (u v : Value) (t : TypeId) : Box2 (w.alloc (.cells #[u, v] t)) w.heap.size u v := by simp [Box2]

theorem ieq_t {a b : Int} (h : a = b) : (a == b) = true := by simp [h]
theorem ieq_f {a b : Int} (h : ¬ a = b) : (a == b) = false := by simp [h]
theorem ine_t {a b : Int} (h : ¬ a = b) : (a != b) = true := by simp [h]
theorem ine_f {a b : Int} (h : a = b) : (a != b) = false := by simp [h]

end Go.Proofs.Ytaomlianiehkgaa
