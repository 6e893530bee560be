/- Slices of integers: how they read; the law package's functions on them (copy, equality, size, mark, held). -/
import Derived.Test.YtaomlianiehkgaaBase
set_option linter.all false
set_option linter.unusedSimpArgs false
set_option linter.unusedVariables false
namespace Go.Proofs.Ytaomlianiehkgaa
open Go.ChangeShapes Go.WideShapes Go.ChangeAt Go.RowKit Go.Deep

theorem i64z : I64 0 := by unfold I64; omega
/-- the k-th number (0 past the end), closed to simp -/
def gi (xs : List Int) (k : Nat) : Int := xs.getD k 0
theorem gi_eq {xs : List Int} {k : Nat} (h : k < xs.length) : gi xs k = xs[k] := by simp [gi, List.getD_eq_getElem?_getD, h]
theorem gi_ext {xs ys : List Int} (hl : xs.length = ys.length) (h : ∀ k, k < xs.length → gi xs k = gi ys k) : xs = ys :=
  List.ext_getElem hl fun k h1 h2 => by rw [← gi_eq h1, ← gi_eq h2]; exact h k h1

def ints (xs : List Int) : D := .sl (xs.map .int)

theorem reps_ints {w : World} : (xs : List Int) → {es : List Value} → {cb : List Nat} → (Reps w (xs.map .int) es cb ↔ es = xs.map (.int .i64 ·) ∧ cb = [] ∧ ∀ x ∈ xs, I64 x)
  | [], es, cb => by simp [Reps]
  | x :: xs, es, cb => by
    simp only [List.map_cons, Reps, Rep]
    constructor
    · rintro ⟨c1, c2, b1, b2, rfl, rfl, ⟨rfl, rfl, hx⟩, h⟩
      obtain ⟨rfl, rfl, hxs⟩ := (reps_ints xs).1 h
      exact ⟨rfl, rfl, by simpa using ⟨hx, hxs⟩⟩
    · rintro ⟨rfl, rfl, h⟩
      exact ⟨[_], _, [], [], rfl, rfl, ⟨rfl, rfl, h x List.mem_cons_self⟩, (reps_ints xs).2 ⟨rfl, rfl, fun y hy => h y (List.mem_cons_of_mem _ hy)⟩⟩

/-- what a slice of integers tells -/
theorem Rep.ints_form {w : World} {xs : List Int} {cs : List Value} {bs : List Nat} (h : Rep w (ints xs) cs bs) :
    ∃ A c, cs = [.slice A xs.length c] ∧ xs.length ≤ c ∧ c ≤ maxLen ∧ (∀ x ∈ xs, I64 x) := by
  obtain ⟨A, c, es, cb, rfl, h1, h2, h3, h4⟩ := h
  obtain ⟨rfl, rfl, hx⟩ := (reps_ints xs).1 h3
  simp only [List.length_map] at *
  exact ⟨A, c, rfl, h1, h2, hx⟩
theorem Rep.ints_len {w : World} {xs : List Int} {A : Option Addr} {n c : Nat} {bs : List Nat} (h : Rep w (ints xs) [.slice A n c] bs) : n = xs.length ∧ n ≤ c ∧ c ≤ maxLen := by
  obtain ⟨A', c', e, h1, h2, _⟩ := h.ints_form
  simp only [List.cons.injEq, Value.slice.injEq] at e
  obtain ⟨⟨rfl, rfl, rfl⟩, _⟩ := e
  exact ⟨rfl, h1, h2⟩
theorem Rep.ints_fit {w : World} {xs : List Int} {cs : List Value} {bs : List Nat} (h : Rep w (ints xs) cs bs) : ∀ x ∈ xs, I64 x := by
  obtain ⟨_, _, _, _, _, h⟩ := h.ints_form; exact h
theorem Rep.gi_fit {w : World} {xs : List Int} {cs : List Value} {bs : List Nat} (h : Rep w (ints xs) cs bs) (k : Nat) : I64 (gi xs k) := by
  rcases Nat.lt_or_ge k xs.length with hk | hk
  · rw [gi_eq hk]; exact h.ints_fit _ (List.getElem_mem _)
  · simp [gi, List.getD_eq_getElem?_getD, hk, I64]
theorem Rep.ints_at {w : World} {xs : List Int} {A : Option Addr} {n c : Nat} {bs : List Nat} (h : Rep w (ints xs) [.slice A n c] bs) {k : Nat} (hk : k < xs.length) :
    ∃ b o, A = some ⟨b, o, none⟩ ∧ bs = [b] ∧ b < w.heap.size ∧ w.cell? ⟨b, o + k, none⟩ = some (.int .i64 (gi xs k)) ∧ w.frozen? ⟨b, o + k, none⟩ = false := by
  obtain ⟨A', c', es, cb, e, h1, h2, h3, h4⟩ := h
  simp only [List.cons.injEq, Value.slice.injEq] at e
  obtain ⟨⟨rfl, rfl, rfl⟩, _⟩ := e
  obtain ⟨rfl, rfl, hx⟩ := (reps_ints xs).1 h3
  rcases h4 with ⟨e, _⟩ | ⟨b, o, rfl, rfl, hlt, hc⟩
  · simp at e; subst e; simp at hk
  · have := hc k (.int .i64 xs[k]) (by simp [hk])
    rw [gi_eq hk]
    exact ⟨b, o, rfl, rfl, hlt, this.1, this.2⟩
theorem Rep.ints_mk {w : World} {xs : List Int} {b o c : Nat} (h1 : xs.length ≤ c) (h2 : c ≤ maxLen) (h3 : ∀ x ∈ xs, I64 x) (h4 : b < w.heap.size)
    (h5 : ∀ k, k < xs.length → w.cell? ⟨b, o + k, none⟩ = some (.int .i64 (gi xs k)) ∧ w.frozen? ⟨b, o + k, none⟩ = false) :
    Rep w (ints xs) [.slice (some ⟨b, o, none⟩) xs.length c] [b] := by
  refine ⟨_, c, _, [], by simp, by simpa using h1, h2, (reps_ints xs).2 ⟨rfl, rfl, h3⟩, .inr ⟨b, o, rfl, rfl, h4, fun j u hu => ?_⟩⟩
  rw [List.getElem?_map] at hu
  rcases Nat.lt_or_ge j xs.length with hj | hj
  · rw [List.getElem?_eq_getElem hj] at hu
    have := h5 j hj
    rw [gi_eq hj] at this
    simp at hu; subst hu; exact this
  · rw [List.getElem?_eq_none hj] at hu; simp at hu
theorem Rep.ints_nil {w : World} {A : Option Addr} {c : Nat} (h2 : c ≤ maxLen) : Rep w (ints []) [.slice A 0 c] [] :=
  ⟨A, c, [], [], rfl, Nat.zero_le _, h2, ⟨rfl, rfl⟩, .inl ⟨rfl, rfl⟩⟩

theorem ret_bool {a b : Bool} (h : a = b) : Ending.returned (.bool a) = .returned (.bool b) := by rw [h]
theorem ret_int {k : IntKind} {a b : Int} (h : a = b) : Ending.returned (.int k a) = .returned (.int k b) := by rw [h]

theorem take_eq_succ {xs ys : List Int} {k : Nat} (h : xs.take k = ys.take k) (hx : k < xs.length) (hy : k < ys.length) :
    xs.take (k + 1) = ys.take (k + 1) ↔ gi xs k = gi ys k := by
  rw [List.take_succ_eq_append_getElem hx, List.take_succ_eq_append_getElem hy, h, gi_eq hx, gi_eq hy]
  constructor
  · intro e
    have := List.append_cancel_left e
    simpa using this
  · intro e
    rw [e]

theorem Try.int3 : (Try.prog.info? 3).map (fun i => (i.zero, i.size, i.bytes)) = some (some (.int .i64 0), 1, 8) := by kernel_rfl

/-- w' is w but for new blocks and the blocks bs -/
structure Touch (bs : List Nat) (w w' : World) : Prop where
  os : w'.os = w.os
  tape : w'.tape = w.tape
  output : w'.output = w.output
  size : w.heap.size ≤ w'.heap.size
  block : ∀ b, b < w.heap.size → b ∉ bs → w'.heap[b]? = w.heap[b]?
theorem Touch.refl (bs : List Nat) (w : World) : Touch bs w w := ⟨rfl, rfl, rfl, Nat.le_refl _, fun _ _ _ => rfl⟩
theorem Touch.trans {bs : List Nat} {a b c : World} (h : Touch bs a b) (k : Touch bs b c) : Touch bs a c :=
  ⟨k.os.trans h.os, k.tape.trans h.tape, k.output.trans h.output, Nat.le_trans h.size k.size, fun x hx hn => (k.block x (Nat.lt_of_lt_of_le hx h.size) hn).trans (h.block x hx hn)⟩
theorem Touch.mono {bs bs' : List Nat} {a b : World} (h : Touch bs a b) (k : ∀ x ∈ bs, x ∈ bs') : Touch bs' a b :=
  ⟨h.os, h.tape, h.output, h.size, fun x hx hn => h.block x hx fun e => hn (k x e)⟩
theorem Touch.of_below {bs : List Nat} {a b : World} (h : Below a.heap.size a b) : Touch bs a b := ⟨h.os, h.tape, h.output, h.size, fun x hx _ => h.block x hx⟩
theorem Touch.below {bs : List Nat} {a b : World} {B : Nat} (h : Touch bs a b) (hB : B ≤ a.heap.size) (k : ∀ x ∈ bs, B ≤ x) : Below B a b :=
  ⟨h.os, h.tape, h.output, h.size, fun x hx => h.block x (by omega) fun e => by have := k x e; omega⟩
theorem Touch.setCell {bs : List Nat} {a w : World} (h : Touch bs a w) {p : Addr} (hp : p.block ∈ bs) (u : Value) : Touch bs a (w.setCell p u) :=
  h.trans ⟨rfl, rfl, rfl, by simp [World.setCell], fun x _ hn => Below.heap_setCell _ _ _ _ (fun e => hn (e ▸ hp))⟩
theorem Touch.keeps {bs l : List Nat} {a b : World} (h : Touch bs a b) (k : ∀ x ∈ l, x < a.heap.size ∧ x ∉ bs) : Keeps a b l := ⟨h.size, fun x hx => h.block x (k x hx).1 (k x hx).2⟩

theorem Touch.cell {bs : List Nat} {a b : World} (h : Touch bs a b) {g o : Nat} (hl : g < a.heap.size) (hn : g ∉ bs) : b.cell? ⟨g, o, none⟩ = a.cell? ⟨g, o, none⟩ := World.cell?_of_block (w := a) (a := ⟨g, o, none⟩) (h.block g hl hn)
theorem Touch.frozen {bs : List Nat} {a b : World} (h : Touch bs a b) {g o : Nat} (hl : g < a.heap.size) (hn : g ∉ bs) : b.frozen? ⟨g, o, none⟩ = a.frozen? ⟨g, o, none⟩ := World.frozen?_of_block (w := a) (a := ⟨g, o, none⟩) (h.block g hl hn)
theorem Touch.box2 {bs : List Nat} {a b : World} (h : Touch bs a b) {g : Nat} {u v : Value} (k : Box2 a g u v) (hn : g ∉ bs) : Box2 b g u v := by
  have hl := lt_of_cell k.1
  exact ⟨by rw [h.cell hl hn]; exact k.1, by rw [h.cell hl hn]; exact k.2⟩

/-- k, k+1, .. -/
def seqI (k : Int) (n : Nat) : List Int := (List.range n).map fun (i : Nat) => k + (i : Int)
theorem seqI_len (k : Int) (n : Nat) : (seqI k n).length = n := by simp [seqI]
theorem gi_seqI {k : Int} {n j : Nat} (h : j < n) : gi (seqI k n) j = k + j := by rw [gi_eq (by rw [seqI_len]; exact h)]; simp [seqI]
/-- the first j numbers marked from k on -/
def markI (xs : List Int) (k : Int) (j : Nat) : List Int := seqI k j ++ xs.drop j
theorem markI_len (xs : List Int) (k : Int) {j : Nat} (h : j ≤ xs.length) : (markI xs k j).length = xs.length := by simp [markI, seqI_len]; omega
theorem markI_all (xs : List Int) (k : Int) : markI xs k xs.length = seqI k xs.length := by simp [markI]
theorem markI_set (xs : List Int) (k : Int) {j : Nat} (h : j < xs.length) : (markI xs k j).set j (k + j) = markI xs k (j + 1) := by
  unfold markI
  rw [List.set_append_right _ _ (by rw [seqI_len]; exact Nat.le_refl _), seqI_len, Nat.sub_self, ← List.getElem_cons_drop h, List.set_cons_zero]
  simp [seqI, List.range_succ]

theorem Rep.ints_set {w : World} {xs : List Int} {b o n c j : Nat} {bs : List Nat} (h : Rep w (ints xs) [.slice (some ⟨b, o, none⟩) n c] bs) (hj : j < xs.length) {v : Int} (hv : I64 v) :
    Rep (w.setCell ⟨b, o + j, none⟩ (.int .i64 v)) (ints (xs.set j v)) [.slice (some ⟨b, o, none⟩) n c] bs := by
  obtain ⟨rfl, h1, h2⟩ := h.ints_len
  have hb : bs = [b] := by
    obtain ⟨b', o', e, hb, _⟩ := h.ints_at hj
    simp only [Option.some.injEq, Addr.mk.injEq] at e
    rw [hb, e.1]
  subst hb
  have := Rep.ints_mk (w := w.setCell ⟨b, o + j, none⟩ (.int .i64 v)) (xs := xs.set j v) (b := b) (o := o) (c := c) (by simpa using h1) h2
    (fun x hx => by
      rcases List.mem_or_eq_of_mem_set hx with hx | hx
      · exact h.ints_fit x hx
      · rw [hx]; exact hv)
    (by
      obtain ⟨b', o', e, _, hlt, _⟩ := h.ints_at hj
      simp only [Option.some.injEq, Addr.mk.injEq] at e
      simp only [World.setCell, Array.size_modify, e.1]; exact hlt)
    (fun k hk => by
      rw [List.length_set] at hk
      obtain ⟨b', o', e, _, hlt, hc, hf⟩ := h.ints_at hk
      simp only [Option.some.injEq, Addr.mk.injEq] at e
      obtain ⟨rfl, rfl, _⟩ := e
      refine ⟨?_, ?_⟩
      · by_cases e : k = j
        · subst e
          rw [World.cell?_setCell_same _ _ _ hc, gi_eq (by rw [List.length_set]; exact hk)]; simp
        · rw [World.cell?_setCell_other _ _ _ _ (by simp), hc, gi_eq hk, gi_eq (by rw [List.length_set]; exact hk), List.getElem_set_ne (fun h => e h.symm)]
      · rw [World.frozen?_setCell]; exact hf)
  rwa [List.length_set] at this

/-- what a size function leaves of 'left' -/
def szR (left : Int) (tot : Nat) : Int := if left - tot < 0 then -1 else left - tot
theorem szR_neg {left : Int} {tot : Nat} (h : left - tot < 0) : szR left tot = -1 := if_pos h
theorem szR_pos {left : Int} {tot : Nat} (h : 0 ≤ left - tot) : szR left tot = left - tot := if_neg (by omega)
theorem szR_add {left : Int} {a b : Nat} (h : 0 ≤ szR left a) : szR (szR left a) b = szR left (a + b) := by
  unfold szR at *
  by_cases h1 : left - a < 0
  · rw [if_pos h1] at h; omega
  · rw [if_neg h1]
    have : left - a - b = left - (a + b : Nat) := by omega
    rw [this]
theorem szR_more {left : Int} {a b : Nat} (h : szR left a < 0) : szR left (a + b) = -1 := by
  unfold szR at *
  by_cases h1 : left - a < 0
  · rw [if_pos (by omega)]
  · rw [if_neg h1] at h; omega

section
variable {w : World} {xs ys : List Int} {A B : Option Addr} {n m c d : Nat} {bs bs' : List Nat}

set_option maxHeartbeats 400000 in
theorem toIntS_c (h : Rep w (ints xs) [.slice A n c] bs) (hn : n ≤ 10000000) :
    Calls Try.prog 15 #[.slice A n c] w fun e w' => ∃ g, e = .returned (.slice (some ⟨g, 0, none⟩) n n) ∧ Rep w' (ints xs) [.slice (some ⟨g, 0, none⟩) n n] [g] ∧ w.heap.size ≤ g ∧ Below w.heap.size w w' := by
  obtain ⟨rfl, _, _⟩ := h.ints_len
  have hfit := h.ints_fit
  have hmk := fun W => run_make_row' (P := Try.prog) 22 3 (.int .i64 0) 8 Try.underlying22 Try.int3 rfl .i64 .i64 xs.length (by omega) (by omega) W
  have hle : xs.length ≤ maxLen := by unfold maxLen; omega
  have HN := Lib.hid hn; clear hn
  have HF := Lib.hid hfit; clear hfit
  have hn : xs.length ≤ 9223372036854775807 := hle
  go_enter Try.func15, Try.ntmps15
  go_wp2
  clear hmk
  go_loopw [4] (fun i wr => ∃ (k : Nat) (f : Nat → Value), k ≤ xs.length ∧ i = .int .i64 k ∧ (∀ j, j < k → f j = .int .i64 (gi xs j)) ∧ wr.rowIs w.heap.size 3 xs.length f ∧ Below w.heap.size w wr) (fun i _ => xs.length - (intOf i).toNat)
  case atStart =>
    exact ⟨0, _, Nat.zero_le _, rfl, fun j hj => absurd hj (by omega), World.rowIs_made _ _ _ _, (Below.refl _ _).alloc (Nat.le_refl _) _⟩
  case round =>
    obtain ⟨k, f, hk, rfl, hf, hrow, hb⟩ := hrel
    have HF2 := Lib.hid hf; clear hf
    by_cases hlt : k < xs.length
    · obtain ⟨b, o, rfl, _, hbl, hc, _⟩ := h.ints_at hlt
      have hc1 : wr.cell? ⟨b, o + k, none⟩ = some (.int .i64 (gi xs k)) := by rw [hb.cell (p := ⟨b, o + k, none⟩) hbl]; exact hc
      have hc2 := hrow.cell hlt
      have hc3 := hrow.frozen k
      clear hc
      go_wp2
      go_roundw
      case rel =>
        refine ⟨k + 1, _, by omega, by go_num, fun j hj => ?_, hrow.set k _, hb.setCell (Nat.le_refl _) _⟩
        rcases Nat.lt_or_ge j k with hjk | hjk
        · simp only [if_neg (show ¬ j = k by omega)]
          exact HF2.out j hjk
        · have : j = k := by omega
          subst this; simp
      case measure => simp [intOf]; omega
    · go_wp2
      go_ret
      have hkk : k = xs.length := by omega
      subst hkk
      refine ⟨_, rfl, Rep.ints_mk (Nat.le_refl _) hle HF.out hrow.lt (fun j hj => ⟨?_, ?_⟩), Nat.le_refl _, hb⟩
      · rw [Nat.zero_add, hrow.cell hj, HF2.out j hj]
      · exact hrow.frozen _

set_option maxHeartbeats 400000 in
theorem eqIntS_c (hA : Rep w (ints xs) [.slice A n c] bs) (hB : Rep w (ints xs) [.slice B m d] bs') :
    Calls Try.prog 18 #[.slice A n c, .slice B m d] w fun e w' => e = .returned (.bool true) ∧ ∃ nq, w' = w.drewN nq := by
  obtain ⟨rfl, h1, h2⟩ := hA.ints_len
  obtain ⟨rfl, _, _⟩ := hB.ints_len
  have hn : xs.length ≤ 9223372036854775807 := Nat.le_trans h1 h2
  clear h1 h2
  have hl1 : ((xs.length : Int) != (xs.length : Int)) = false := by simp
  go_enter Try.func18, Try.ntmps18
  go_wp2
  go_loopw [5] (fun i w' => ∃ k : Nat, k ≤ xs.length ∧ i = .int .i64 k ∧ ∃ nq, w' = w.drewN nq) (fun i _ => xs.length - (intOf i).toNat)
  case atStart => exact ⟨0, Nat.zero_le _, rfl, 0, rfl⟩
  case round =>
    obtain ⟨k, hk, rfl, nq, rfl⟩ := hrel
    by_cases hlt : k < xs.length
    · obtain ⟨b, off, rfl, _, _, hc1, _⟩ := hA.ints_at hlt
      obtain ⟨b', off', rfl, _, _, hc2, _⟩ := hB.ints_at hlt
      have hq1 : (gi xs k != gi xs k) = false := by simp
      go_wp2
      go_quiet (fail)
      go_wp2
      go_roundw
      case rel => exact ⟨k + 1, by omega, by go_num, _, rfl⟩
      case measure => simp [intOf]; omega
    · go_wp2
      go_ret
      exact ⟨rfl, _, rfl⟩

theorem szIntS_c {left : Int} (h : Rep w (ints xs) [.slice A n c] bs) (h0 : 0 ≤ left) (h1 : left ≤ 1048576) :
    Calls Try.prog 34 #[.slice A n c, .int .i64 left] w fun e w' => e = .returned (.int .i64 (szR left n)) ∧ w = w' := by
  obtain ⟨rfl, h2, h3⟩ := h.ints_len
  have hn : xs.length ≤ 9223372036854775807 := Nat.le_trans h2 h3
  clear h2 h3
  by_cases hs : left - xs.length < 0
  · have hr := Lib.hid (szR_neg hs)
    go_enter Try.func34, Try.ntmps34
    go_wp2
    go_ret
    exact ⟨ret_int hr.out.symm, rfl⟩
  · have hr := Lib.hid (szR_pos (show 0 ≤ left - xs.length by omega))
    go_enter Try.func34, Try.ntmps34
    go_wp2
    go_ret
    exact ⟨ret_int hr.out.symm, rfl⟩

set_option maxHeartbeats 400000 in
theorem markIntS_c {k : Int} (h : Rep w (ints xs) [.slice A n c] bs) (h0 : 0 ≤ k) (h1 : k + n ≤ 4611686018427387904) :
    Calls Try.prog 19 #[.slice A n c, .int .i64 k] w fun e w' => e = .returned (.int .i64 (k + n)) ∧ Rep w' (ints (seqI k n)) [.slice A n c] bs ∧ Touch bs w w' := by
  obtain ⟨rfl, h2, h3⟩ := h.ints_len
  have hn : xs.length ≤ 9223372036854775807 := Nat.le_trans h2 h3
  clear h2 h3
  go_enter Try.func19, Try.ntmps19
  go_wp2
  go_loopw [1, 5] (fun q i wr => ∃ j : Nat, j ≤ xs.length ∧ i = .int .i64 j ∧ q = .int .i64 (k + j) ∧ Rep wr (ints (markI xs k j)) [.slice A xs.length c] bs ∧ Touch bs w wr) (fun _ i _ => xs.length - (intOf i).toNat)
  case atStart => exact ⟨0, Nat.zero_le _, rfl, by simp, by simpa [markI, seqI] using h, Touch.refl _ _⟩
  case round =>
    obtain ⟨j, hj, rfl, rfl, hr, ht⟩ := hrel
    by_cases hlt : j < xs.length
    · have hlen := markI_len xs k hj
      obtain ⟨b, o, rfl, hbs, hbl, hc, hf⟩ := hr.ints_at (k := j) (by rw [hlen]; exact hlt)
      have HL := Lib.hid hlen; clear hlen
      have HB := Lib.hid hbs; clear hbs
      go_wp2
      go_roundw
      case rel =>
        refine ⟨j + 1, by omega, by go_num, by go_num, ?_, ht.setCell (by rw [HB.out]; exact List.mem_singleton.2 rfl) _⟩
        have := hr.ints_set (j := j) (v := k + j) (by rw [HL.out]; exact hlt) ⟨by omega, by omega⟩
        rwa [markI_set xs k hlt] at this
      case measure => simp [intOf]; omega
    · have hjj : j = xs.length := by omega
      subst hjj
      go_wp2
      go_ret
      exact ⟨rfl, by rw [← markI_all]; exact hr, ht⟩

set_option maxHeartbeats 400000 in
theorem heldIntS_c {k : Int} (h : Rep w (ints (seqI k n)) [.slice A n c] bs) (h0 : 0 ≤ k) (h1 : k + n ≤ 4611686018427387904) :
    Calls Try.prog 41 #[.slice A n c, .int .i64 k] w fun e w' => e = .returned (.int .i64 (k + n)) ∧ w = w' := by
  have h2 := h.ints_len.2.1
  have h3 := h.ints_len.2.2
  have hn : n ≤ 9223372036854775807 := Nat.le_trans h2 h3
  clear h2 h3
  go_enter Try.func41, Try.ntmps41
  go_wp2
  go_loop [1, 5] (fun q i => ∃ j : Nat, j ≤ n ∧ i = .int .i64 j ∧ q = .int .i64 (k + j)) (fun _ i => n - (intOf i).toNat)
  case atStart => exact ⟨0, Nat.zero_le _, rfl, by simp⟩
  case round =>
    obtain ⟨j, hj, rfl, rfl⟩ := hrel
    by_cases hlt : j < n
    · obtain ⟨b, o, rfl, _, _, hc, _⟩ := h.ints_at (k := j) (by rw [seqI_len]; exact hlt)
      rw [gi_seqI hlt] at hc
      go_wp2
      go_round
      case rel => exact ⟨j + 1, by omega, by go_num, by go_num⟩
      case measure => simp [intOf]; omega
    · have hjj : j = n := by omega
      subst hjj
      go_wp2
      go_ret
      exact ⟨rfl, rfl⟩
end

end Go.Proofs.Ytaomlianiehkgaa
