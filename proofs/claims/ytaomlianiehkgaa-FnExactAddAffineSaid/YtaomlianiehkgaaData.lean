/- Lists of data: forms, elements, sizes, marks; no function of the program is walked here. -/
import Derived.Test.YtaomlianiehkgaaSlices
set_option linter.all false
set_option linter.unusedSimpArgs false
set_option linter.unusedVariables false
namespace Go.Proofs.Ytaomlianiehkgaa
open Go.ChangeShapes Go.WideShapes Go.ChangeAt Go.RowKit Go.Deep

section
variable {α : Type} {w w' : World} {bs : List Nat}

/-- a slice of data of one kind -/
def sls (f : α → D) (xs : List α) : D := .sl (xs.map f)
theorem sls_int (xs : List Int) : sls D.int xs = ints xs := rfl

theorem Rep.sls_form {f : α → D} {xs : List α} {cs : List Value} (h : Rep w (sls f xs) cs bs) : ∃ A c, cs = [.slice A xs.length c] ∧ xs.length ≤ c ∧ c ≤ maxLen := by
  obtain ⟨A, c, es, cb, rfl, h1, h2, _⟩ := h
  simp only [List.length_map] at *
  exact ⟨A, c, rfl, h1, h2⟩
theorem Rep.sls_len {f : α → D} {xs : List α} {A : Option Addr} {n c : Nat} (h : Rep w (sls f xs) [.slice A n c] bs) : n = xs.length ∧ n ≤ c ∧ c ≤ maxLen := by
  obtain ⟨A', c', e, h1, h2⟩ := h.sls_form
  simp only [List.cons.injEq, Value.slice.injEq] at e
  obtain ⟨⟨rfl, rfl, rfl⟩, _⟩ := e
  exact ⟨rfl, h1, h2⟩
theorem Rep.sls_nil {f : α → D} {A : Option Addr} {c : Nat} (h2 : c ≤ maxLen) : Rep w (sls f []) [.slice A 0 c] [] :=
  ⟨A, c, [], [], rfl, Nat.zero_le _, h2, ⟨rfl, rfl⟩, .inl ⟨rfl, rfl⟩⟩

/-- the k-th element in place -/
theorem Rep.sls_at {f : α → D} {xs : List α} {A : Option Addr} {n c s : Nat} (hs : ∀ x, (f x).size = s) (h : Rep w (sls f xs) [.slice A n c] bs) {k : Nat} (hk : k < xs.length) :
    ∃ b o cs l, A = some ⟨b, o, none⟩ ∧ b < w.heap.size ∧ Rep w (f xs[k]) cs l ∧ b ∈ bs ∧ (∀ y ∈ l, y ∈ bs) ∧
      ∀ j u, cs[j]? = some u → w.cell? ⟨b, o + k * s + j, none⟩ = some u ∧ w.frozen? ⟨b, o + k * s + j, none⟩ = false := by
  obtain ⟨b, o, e1, l1, l0, l2, h1, h2, h3, h4, _, h6, _⟩ := Rep.focus h (s := s) (fun x hx => by obtain ⟨y, _, rfl⟩ := List.mem_map.1 hx; exact hs y) (k := k) (x := f xs[k]) (by simp [hk])
  exact ⟨b, o, e1, l1, h1, h3, h4, by rw [h2]; simp, fun y hy => by rw [h2]; simp [hy], h6⟩

/-- the k-th element in place, and the slice with another one there -/
theorem Rep.sls_focus {f : α → D} {xs : List α} {A : Option Addr} {n c s : Nat} (hs : ∀ x, (f x).size = s) (h : Rep w (sls f xs) [.slice A n c] bs) (hn : bs.Nodup) {k : Nat} (hk : k < xs.length) :
    ∃ b o cs l, A = some ⟨b, o, none⟩ ∧ b < w.heap.size ∧ Rep w (f xs[k]) cs l ∧ b ∈ bs ∧ (∀ y ∈ l, y ∈ bs) ∧ l.Nodup ∧ b ∉ l ∧
      (∀ j u, cs[j]? = some u → w.cell? ⟨b, o + k * s + j, none⟩ = some u ∧ w.frozen? ⟨b, o + k * s + j, none⟩ = false) ∧
      ∀ w' x' cs', Rep w' (f x') cs' l → Touch (b :: l) w w' → (∀ i, w'.frozen? ⟨b, i, none⟩ = w.frozen? ⟨b, i, none⟩) → (∀ j u, cs'[j]? = some u → w'.cell? ⟨b, o + k * s + j, none⟩ = some u) →
        (∀ i, (i < o + k * s ∨ o + k * s + s ≤ i) → w'.cell? ⟨b, i, none⟩ = w.cell? ⟨b, i, none⟩) → Rep w' (sls f (xs.set k x')) [.slice A n c] bs := by
  obtain ⟨b, o, e1, l1, l0, l2, h1, h2, h3, h4, h5, h6, h7⟩ := Rep.focus h (s := s) (fun x hx => by obtain ⟨y, _, rfl⟩ := List.mem_map.1 hx; exact hs y) (k := k) (x := f xs[k]) (by simp [hk])
  rw [h2] at hn
  obtain ⟨n1, n2⟩ := List.nodup_cons.1 hn
  obtain ⟨n3, n4, n5⟩ := List.nodup_append.1 n2
  obtain ⟨n6, n7, n8⟩ := List.nodup_append.1 n3
  have hlt := Rep.lt _ h
  rw [h2] at hlt
  refine ⟨b, o, e1, l1, h1, h3, h4, by rw [h2]; simp, fun y hy => by rw [h2]; simp [hy], n7, fun hb => n1 (by simp [hb]), h6, fun w' x' cs' q1 q2 q3 q4 q5 => ?_⟩
  have := h7 w' (f x') cs' q1 (by rw [Rep.length _ q1]; exact hs x') q2.size (fun y hy => q2.block y (hlt y (by rcases hy with hy | hy <;> simp [hy])) (fun hm => by
    rcases List.mem_cons.1 hm with rfl | hm
    · exact n1 (by rcases hy with hy | hy <;> simp [hy])
    · rcases hy with hy | hy
      · exact n8 y hy y hm rfl
      · exact n5 y (by simp [hm]) y hy rfl)) q3 q4 q5
  rwa [← List.map_set] at this

mutual
/-- how large a datum is, as the laws count -/
def szD : D → Nat
  | .int _ => 0
  | .bool _ => 0
  | .str s => s.size
  | .st fs => szDs fs
  | .sl xs => xs.length + szDs xs
def szDs : List D → Nat
  | [] => 0
  | x :: xs => szD x + szDs xs
end
theorem szDs_append : (xs ys : List D) → szDs (xs ++ ys) = szDs xs + szDs ys
  | [], ys => by simp [szDs]
  | x :: xs, ys => by simp only [List.cons_append, szDs, szDs_append xs ys]; omega
theorem szD_ints (xs : List Int) : szD (ints xs) = xs.length := by
  have : ∀ ys : List Int, szDs (ys.map .int) = 0 := fun ys => by
    induction ys with
    | nil => rfl
    | cons y ys ih => simp [szDs, szD, ih]
  simp [ints, szD, this]
theorem szDs_take {f : α → D} {xs : List α} {k : Nat} (h : k < xs.length) : szDs ((xs.take (k + 1)).map f) = szDs ((xs.take k).map f) + szD (f xs[k]) := by
  rw [List.take_succ_eq_append_getElem h, List.map_append, szDs_append]; simp [szDs]
theorem szDs_split {f : α → D} {xs : List α} (k : Nat) : szDs (xs.map f) = szDs ((xs.take k).map f) + szDs ((xs.drop k).map f) := by
  rw [← szDs_append, ← List.map_append, List.take_append_drop]
theorem szD_sls (f : α → D) (xs : List α) : szD (sls f xs) = xs.length + szDs (xs.map f) := by simp [sls, szD]

/-- the size of the first j elements -/
def szTo (f : α → D) (xs : List α) (j : Nat) : Nat := szDs ((xs.take j).map f)
theorem szTo_zero (f : α → D) (xs : List α) : szTo f xs 0 = 0 := by simp [szTo, szDs]
theorem szTo_all (f : α → D) (xs : List α) : szTo f xs xs.length = szDs (xs.map f) := by simp [szTo]
theorem szTo_succ (f : α → D) {xs : List α} {j : Nat} (h : j < xs.length) : szTo f xs (j + 1) = szTo f xs j + szD (f xs[j]) := szDs_take h
theorem szTo_le (f : α → D) {xs : List α} (j : Nat) : szTo f xs j ≤ szDs (xs.map f) := by rw [szDs_split (f := f) (xs := xs) j]; unfold szTo; omega

/-- a list marked, element by element, from q on; how many marks it takes -/
def mkL (mk : Int → α → α) (cnt : α → Nat) : Int → List α → List α
  | _, [] => []
  | q, x :: xs => mk q x :: mkL mk cnt (q + cnt x) xs
def cntL (cnt : α → Nat) : List α → Nat
  | [] => 0
  | x :: xs => cnt x + cntL cnt xs
theorem mkL_len (mk : Int → α → α) (cnt : α → Nat) : (q : Int) → (xs : List α) → (mkL mk cnt q xs).length = xs.length
  | _, [] => rfl
  | q, x :: xs => by simp [mkL, mkL_len mk cnt _ xs]
theorem cntL_append (cnt : α → Nat) : (xs ys : List α) → cntL cnt (xs ++ ys) = cntL cnt xs + cntL cnt ys
  | [], ys => by simp [cntL]
  | x :: xs, ys => by simp only [List.cons_append, cntL, cntL_append cnt xs ys]; omega
theorem cntL_take {cnt : α → Nat} {xs : List α} {k : Nat} (h : k < xs.length) : cntL cnt (xs.take (k + 1)) = cntL cnt (xs.take k) + cnt xs[k] := by
  rw [List.take_succ_eq_append_getElem h, cntL_append]; simp [cntL]
theorem cntL_le {cnt : α → Nat} {xs : List α} (k : Nat) : cntL cnt (xs.take k) ≤ cntL cnt xs := by
  have h : cntL cnt (xs.take k) + cntL cnt (xs.drop k) = cntL cnt xs := by rw [← cntL_append, List.take_append_drop]
  omega
theorem mkL_append (mk : Int → α → α) (cnt : α → Nat) : (q : Int) → (xs ys : List α) → mkL mk cnt q (xs ++ ys) = mkL mk cnt q xs ++ mkL mk cnt (q + cntL cnt xs) ys
  | q, [], ys => by simp [mkL, cntL]
  | q, x :: xs, ys => by
    simp only [List.cons_append, mkL, mkL_append mk cnt _ xs ys, cntL]
    rw [show q + ↑(cnt x) + ↑(cntL cnt xs) = q + ↑(cnt x + cntL cnt xs) by omega]
theorem mkL_get {mk : Int → α → α} {cnt : α → Nat} {q : Int} {xs : List α} {k : Nat} (h : k < xs.length) :
    (mkL mk cnt q xs)[k]'(by rw [mkL_len]; exact h) = mk (q + cntL cnt (xs.take k)) xs[k] := by
  induction xs generalizing q k with
  | nil => simp at h
  | cons x xs ih =>
    rcases k with _ | k
    · simp [mkL, cntL]
    · simp only [mkL, List.getElem_cons_succ, List.take_succ_cons, cntL]
      rw [ih (by simpa using h)]
      congr 1; omega
/-- the first j elements marked, the others as they were -/
def mkTo (mk : Int → α → α) (cnt : α → Nat) (q : Int) (xs : List α) (j : Nat) : List α := mkL mk cnt q (xs.take j) ++ xs.drop j
theorem mkTo_len (mk : Int → α → α) (cnt : α → Nat) (q : Int) (xs : List α) {j : Nat} (h : j ≤ xs.length) : (mkTo mk cnt q xs j).length = xs.length := by
  simp [mkTo, mkL_len]; omega
theorem mkTo_zero (mk : Int → α → α) (cnt : α → Nat) (q : Int) (xs : List α) : mkTo mk cnt q xs 0 = xs := by simp [mkTo, mkL]
theorem mkTo_all (mk : Int → α → α) (cnt : α → Nat) (q : Int) (xs : List α) : mkTo mk cnt q xs xs.length = mkL mk cnt q xs := by simp [mkTo]
theorem mkTo_get {mk : Int → α → α} {cnt : α → Nat} {q : Int} {xs : List α} {j : Nat} (h : j < xs.length) : (mkTo mk cnt q xs j)[j]'(by rw [mkTo_len _ _ _ _ (by omega)]; exact h) = xs[j] := by
  simp only [mkTo]
  rw [List.getElem_append_right (by simp [mkL_len]; omega)]
  simp [mkL_len, Nat.min_eq_left (Nat.le_of_lt h)]
theorem mkTo_set {mk : Int → α → α} {cnt : α → Nat} {q : Int} {xs : List α} {j : Nat} (h : j < xs.length) :
    (mkTo mk cnt q xs j).set j (mk (q + cntL cnt (xs.take j)) xs[j]) = mkTo mk cnt q xs (j + 1) := by
  unfold mkTo
  have hl : (mkL mk cnt q (xs.take j)).length = j := by simp [mkL_len]; omega
  rw [List.set_append_right _ _ (by omega), hl, Nat.sub_self, ← List.getElem_cons_drop h, List.set_cons_zero, List.take_succ_eq_append_getElem h, mkL_append]
  simp [mkL]
end

/-- what a round of marking leaves of the block b of the list's own: outside of the element's cells [lo, hi) all is as it was -/
structure Mk (wr W : World) (b lo hi : Nat) (l : List Nat) : Prop where
  touch : Touch (b :: l) wr W
  frozen : ∀ i, W.frozen? ⟨b, i, none⟩ = wr.frozen? ⟨b, i, none⟩
  other : ∀ i, (i < lo ∨ hi ≤ i) → W.cell? ⟨b, i, none⟩ = wr.cell? ⟨b, i, none⟩
theorem Mk.refl (w : World) (b lo hi : Nat) (l : List Nat) : Mk w w b lo hi l := ⟨Touch.refl _ _, fun _ => rfl, fun _ _ => rfl⟩
theorem Mk.call {wr W W' : World} {b lo hi : Nat} {l d : List Nat} (h : Mk wr W b lo hi l) (t : Touch d W W') (hd : ∀ y ∈ d, y ∈ l) (hb : b ∉ l) (hl : b < W.heap.size) : Mk wr W' b lo hi l :=
  ⟨h.touch.trans (t.mono fun y hy => List.mem_cons_of_mem _ (hd y hy)), fun i => (t.frozen hl fun hm => hb (hd b hm)).trans (h.frozen i), fun i hi => (t.cell hl fun hm => hb (hd b hm)).trans (h.other i hi)⟩
theorem Mk.below {wr W W' : World} {b lo hi : Nat} {l : List Nat} (h : Mk wr W b lo hi l) (t : Below W.heap.size W W') (hl : b < W.heap.size) : Mk wr W' b lo hi l :=
  ⟨h.touch.trans (Touch.of_below t), fun i => (t.frozen (p := ⟨b, i, none⟩) hl).trans (h.frozen i), fun i hi => (t.cell (p := ⟨b, i, none⟩) hl).trans (h.other i hi)⟩
theorem Mk.store {wr W : World} {b lo hi i : Nat} {l : List Nat} (h : Mk wr W b lo hi l) (h1 : lo ≤ i) (h2 : i < hi) (v : Value) : Mk wr (W.setCell ⟨b, i, none⟩ v) b lo hi l :=
  ⟨h.touch.setCell (by simp) v, fun k => by rw [World.frozen?_setCell]; exact h.frozen k, fun k hk => by rw [World.cell?_setCell_other _ _ _ _ (fun e => by cases e; omega)]; exact h.other k hk⟩
theorem int_eq {a b : Int} (h : a = b) : Value.int .i64 a = .int .i64 b := by rw [h]
theorem nd_app {a b : List Nat} (h : (a ++ b).Nodup) : a.Nodup ∧ b.Nodup ∧ ∀ y, y ∈ a → y ∉ b := ⟨(List.nodup_append.1 h).1, (List.nodup_append.1 h).2.1, fun y h1 h2 => (List.nodup_append.1 h).2.2 y h1 y h2 rfl⟩
abbrev Box1 (w : World) (g : Nat) (u : Value) : Prop := w.cell? ⟨g, 0, none⟩ = some u
theorem Box1.to {w w' : World} {g : Nat} {u : Value} (h : Box1 w g u) (hb : Below w.heap.size w w') : Box1 w' g u := by rw [Box1, hb.cell (lt_of_cell h)]; exact h
theorem Box1.touch {w w' : World} {g : Nat} {bs : List Nat} {u : Value} (h : Box1 w g u) (t : Touch bs w w') (hn : g ∉ bs) : Box1 w' g u := (t.cell (lt_of_cell h) hn).trans h
/-- blocks of three, seven and nine cells -/
abbrev Box3 (w : World) (g : Nat) (u v x : Value) : Prop := w.cell? ⟨g, 0, none⟩ = some u ∧ w.cell? ⟨g, 1, none⟩ = some v ∧ w.cell? ⟨g, 2, none⟩ = some x
theorem Box3.to {w w' : World} {g : Nat} {u v x : Value} (h : Box3 w g u v x) (hb : Below w.heap.size w w') : Box3 w' g u v x := by
  have hg := lt_of_cell h.1
  exact ⟨by rw [hb.cell hg]; exact h.1, by rw [hb.cell hg]; exact h.2.1, by rw [hb.cell hg]; exact h.2.2⟩

abbrev Box4 (w : World) (g : Nat) (u0 u1 u2 u3 : Value) : Prop := w.cell? ⟨g, 0, none⟩ = some u0 ∧ w.cell? ⟨g, 1, none⟩ = some u1 ∧ w.cell? ⟨g, 2, none⟩ = some u2 ∧ w.cell? ⟨g, 3, none⟩ = some u3
theorem Box4.to {w w' : World} {g : Nat} {u0 u1 u2 u3 : Value} (h : Box4 w g u0 u1 u2 u3) (hb : Below w.heap.size w w') : Box4 w' g u0 u1 u2 u3 := by
  have hg := lt_of_cell h.1
  exact ⟨by rw [hb.cell hg]; exact h.1, by rw [hb.cell hg]; exact h.2.1, by rw [hb.cell hg]; exact h.2.2.1, by rw [hb.cell hg]; exact h.2.2.2⟩
abbrev Box5 (w : World) (g : Nat) (u0 u1 u2 u3 u4 : Value) : Prop := w.cell? ⟨g, 0, none⟩ = some u0 ∧ w.cell? ⟨g, 1, none⟩ = some u1 ∧ w.cell? ⟨g, 2, none⟩ = some u2 ∧ w.cell? ⟨g, 3, none⟩ = some u3 ∧ w.cell? ⟨g, 4, none⟩ = some u4
theorem Box5.to {w w' : World} {g : Nat} {u0 u1 u2 u3 u4 : Value} (h : Box5 w g u0 u1 u2 u3 u4) (hb : Below w.heap.size w w') : Box5 w' g u0 u1 u2 u3 u4 := by
  have hg := lt_of_cell h.1
  exact ⟨by rw [hb.cell hg]; exact h.1, by rw [hb.cell hg]; exact h.2.1, by rw [hb.cell hg]; exact h.2.2.1, by rw [hb.cell hg]; exact h.2.2.2.1, by rw [hb.cell hg]; exact h.2.2.2.2⟩
abbrev Box6 (w : World) (g : Nat) (u0 u1 u2 u3 u4 u5 : Value) : Prop := w.cell? ⟨g, 0, none⟩ = some u0 ∧ w.cell? ⟨g, 1, none⟩ = some u1 ∧ w.cell? ⟨g, 2, none⟩ = some u2 ∧ w.cell? ⟨g, 3, none⟩ = some u3 ∧ w.cell? ⟨g, 4, none⟩ = some u4 ∧ w.cell? ⟨g, 5, none⟩ = some u5
theorem Box6.to {w w' : World} {g : Nat} {u0 u1 u2 u3 u4 u5 : Value} (h : Box6 w g u0 u1 u2 u3 u4 u5) (hb : Below w.heap.size w w') : Box6 w' g u0 u1 u2 u3 u4 u5 := by
  have hg := lt_of_cell h.1
  exact ⟨by rw [hb.cell hg]; exact h.1, by rw [hb.cell hg]; exact h.2.1, by rw [hb.cell hg]; exact h.2.2.1, by rw [hb.cell hg]; exact h.2.2.2.1, by rw [hb.cell hg]; exact h.2.2.2.2.1, by rw [hb.cell hg]; exact h.2.2.2.2.2⟩
abbrev Box7 (w : World) (g : Nat) (u0 u1 u2 u3 u4 u5 u6 : Value) : Prop := w.cell? ⟨g, 0, none⟩ = some u0 ∧ w.cell? ⟨g, 1, none⟩ = some u1 ∧ w.cell? ⟨g, 2, none⟩ = some u2 ∧ w.cell? ⟨g, 3, none⟩ = some u3 ∧ w.cell? ⟨g, 4, none⟩ = some u4 ∧ w.cell? ⟨g, 5, none⟩ = some u5 ∧ w.cell? ⟨g, 6, none⟩ = some u6
theorem Box7.to {w w' : World} {g : Nat} {u0 u1 u2 u3 u4 u5 u6 : Value} (h : Box7 w g u0 u1 u2 u3 u4 u5 u6) (hb : Below w.heap.size w w') : Box7 w' g u0 u1 u2 u3 u4 u5 u6 := by
  have hg := lt_of_cell h.1
  exact ⟨by rw [hb.cell hg]; exact h.1, by rw [hb.cell hg]; exact h.2.1, by rw [hb.cell hg]; exact h.2.2.1, by rw [hb.cell hg]; exact h.2.2.2.1, by rw [hb.cell hg]; exact h.2.2.2.2.1, by rw [hb.cell hg]; exact h.2.2.2.2.2.1, by rw [hb.cell hg]; exact h.2.2.2.2.2.2⟩
abbrev Box8 (w : World) (g : Nat) (u0 u1 u2 u3 u4 u5 u6 u7 : Value) : Prop := w.cell? ⟨g, 0, none⟩ = some u0 ∧ w.cell? ⟨g, 1, none⟩ = some u1 ∧ w.cell? ⟨g, 2, none⟩ = some u2 ∧ w.cell? ⟨g, 3, none⟩ = some u3 ∧ w.cell? ⟨g, 4, none⟩ = some u4 ∧ w.cell? ⟨g, 5, none⟩ = some u5 ∧ w.cell? ⟨g, 6, none⟩ = some u6 ∧ w.cell? ⟨g, 7, none⟩ = some u7
theorem Box8.to {w w' : World} {g : Nat} {u0 u1 u2 u3 u4 u5 u6 u7 : Value} (h : Box8 w g u0 u1 u2 u3 u4 u5 u6 u7) (hb : Below w.heap.size w w') : Box8 w' g u0 u1 u2 u3 u4 u5 u6 u7 := by
  have hg := lt_of_cell h.1
  exact ⟨by rw [hb.cell hg]; exact h.1, by rw [hb.cell hg]; exact h.2.1, by rw [hb.cell hg]; exact h.2.2.1, by rw [hb.cell hg]; exact h.2.2.2.1, by rw [hb.cell hg]; exact h.2.2.2.2.1, by rw [hb.cell hg]; exact h.2.2.2.2.2.1, by rw [hb.cell hg]; exact h.2.2.2.2.2.2.1, by rw [hb.cell hg]; exact h.2.2.2.2.2.2.2⟩
abbrev Box9 (w : World) (g : Nat) (u0 u1 u2 u3 u4 u5 u6 u7 u8 : Value) : Prop := w.cell? ⟨g, 0, none⟩ = some u0 ∧ w.cell? ⟨g, 1, none⟩ = some u1 ∧ w.cell? ⟨g, 2, none⟩ = some u2 ∧ w.cell? ⟨g, 3, none⟩ = some u3 ∧ w.cell? ⟨g, 4, none⟩ = some u4 ∧ w.cell? ⟨g, 5, none⟩ = some u5 ∧ w.cell? ⟨g, 6, none⟩ = some u6 ∧ w.cell? ⟨g, 7, none⟩ = some u7 ∧ w.cell? ⟨g, 8, none⟩ = some u8
theorem Box9.to {w w' : World} {g : Nat} {u0 u1 u2 u3 u4 u5 u6 u7 u8 : Value} (h : Box9 w g u0 u1 u2 u3 u4 u5 u6 u7 u8) (hb : Below w.heap.size w w') : Box9 w' g u0 u1 u2 u3 u4 u5 u6 u7 u8 := by
  have hg := lt_of_cell h.1
  exact ⟨by rw [hb.cell hg]; exact h.1, by rw [hb.cell hg]; exact h.2.1, by rw [hb.cell hg]; exact h.2.2.1, by rw [hb.cell hg]; exact h.2.2.2.1, by rw [hb.cell hg]; exact h.2.2.2.2.1, by rw [hb.cell hg]; exact h.2.2.2.2.2.1, by rw [hb.cell hg]; exact h.2.2.2.2.2.2.1, by rw [hb.cell hg]; exact h.2.2.2.2.2.2.2.1, by rw [hb.cell hg]; exact h.2.2.2.2.2.2.2.2⟩
theorem Box3.touch {w w' : World} {g : Nat} {bs : List Nat} {u0 u1 u2 : Value} (h : Box3 w g u0 u1 u2) (t : Touch bs w w') (hn : g ∉ bs) : Box3 w' g u0 u1 u2 :=
  ⟨(t.cell (lt_of_cell h.1) hn).trans h.1, (t.cell (lt_of_cell h.1) hn).trans h.2.1, (t.cell (lt_of_cell h.1) hn).trans h.2.2⟩
theorem Box4.touch {w w' : World} {g : Nat} {bs : List Nat} {u0 u1 u2 u3 : Value} (h : Box4 w g u0 u1 u2 u3) (t : Touch bs w w') (hn : g ∉ bs) : Box4 w' g u0 u1 u2 u3 :=
  ⟨(t.cell (lt_of_cell h.1) hn).trans h.1, (t.cell (lt_of_cell h.1) hn).trans h.2.1, (t.cell (lt_of_cell h.1) hn).trans h.2.2.1, (t.cell (lt_of_cell h.1) hn).trans h.2.2.2⟩
theorem Box5.touch {w w' : World} {g : Nat} {bs : List Nat} {u0 u1 u2 u3 u4 : Value} (h : Box5 w g u0 u1 u2 u3 u4) (t : Touch bs w w') (hn : g ∉ bs) : Box5 w' g u0 u1 u2 u3 u4 :=
  ⟨(t.cell (lt_of_cell h.1) hn).trans h.1, (t.cell (lt_of_cell h.1) hn).trans h.2.1, (t.cell (lt_of_cell h.1) hn).trans h.2.2.1, (t.cell (lt_of_cell h.1) hn).trans h.2.2.2.1, (t.cell (lt_of_cell h.1) hn).trans h.2.2.2.2⟩
theorem Box6.touch {w w' : World} {g : Nat} {bs : List Nat} {u0 u1 u2 u3 u4 u5 : Value} (h : Box6 w g u0 u1 u2 u3 u4 u5) (t : Touch bs w w') (hn : g ∉ bs) : Box6 w' g u0 u1 u2 u3 u4 u5 :=
  ⟨(t.cell (lt_of_cell h.1) hn).trans h.1, (t.cell (lt_of_cell h.1) hn).trans h.2.1, (t.cell (lt_of_cell h.1) hn).trans h.2.2.1, (t.cell (lt_of_cell h.1) hn).trans h.2.2.2.1, (t.cell (lt_of_cell h.1) hn).trans h.2.2.2.2.1, (t.cell (lt_of_cell h.1) hn).trans h.2.2.2.2.2⟩
theorem Box7.touch {w w' : World} {g : Nat} {bs : List Nat} {u0 u1 u2 u3 u4 u5 u6 : Value} (h : Box7 w g u0 u1 u2 u3 u4 u5 u6) (t : Touch bs w w') (hn : g ∉ bs) : Box7 w' g u0 u1 u2 u3 u4 u5 u6 :=
  ⟨(t.cell (lt_of_cell h.1) hn).trans h.1, (t.cell (lt_of_cell h.1) hn).trans h.2.1, (t.cell (lt_of_cell h.1) hn).trans h.2.2.1, (t.cell (lt_of_cell h.1) hn).trans h.2.2.2.1, (t.cell (lt_of_cell h.1) hn).trans h.2.2.2.2.1, (t.cell (lt_of_cell h.1) hn).trans h.2.2.2.2.2.1, (t.cell (lt_of_cell h.1) hn).trans h.2.2.2.2.2.2⟩
theorem Box8.touch {w w' : World} {g : Nat} {bs : List Nat} {u0 u1 u2 u3 u4 u5 u6 u7 : Value} (h : Box8 w g u0 u1 u2 u3 u4 u5 u6 u7) (t : Touch bs w w') (hn : g ∉ bs) : Box8 w' g u0 u1 u2 u3 u4 u5 u6 u7 :=
  ⟨(t.cell (lt_of_cell h.1) hn).trans h.1, (t.cell (lt_of_cell h.1) hn).trans h.2.1, (t.cell (lt_of_cell h.1) hn).trans h.2.2.1, (t.cell (lt_of_cell h.1) hn).trans h.2.2.2.1, (t.cell (lt_of_cell h.1) hn).trans h.2.2.2.2.1, (t.cell (lt_of_cell h.1) hn).trans h.2.2.2.2.2.1, (t.cell (lt_of_cell h.1) hn).trans h.2.2.2.2.2.2.1, (t.cell (lt_of_cell h.1) hn).trans h.2.2.2.2.2.2.2⟩
theorem Box9.touch {w w' : World} {g : Nat} {bs : List Nat} {u0 u1 u2 u3 u4 u5 u6 u7 u8 : Value} (h : Box9 w g u0 u1 u2 u3 u4 u5 u6 u7 u8) (t : Touch bs w w') (hn : g ∉ bs) : Box9 w' g u0 u1 u2 u3 u4 u5 u6 u7 u8 :=
  ⟨(t.cell (lt_of_cell h.1) hn).trans h.1, (t.cell (lt_of_cell h.1) hn).trans h.2.1, (t.cell (lt_of_cell h.1) hn).trans h.2.2.1, (t.cell (lt_of_cell h.1) hn).trans h.2.2.2.1, (t.cell (lt_of_cell h.1) hn).trans h.2.2.2.2.1, (t.cell (lt_of_cell h.1) hn).trans h.2.2.2.2.2.1, (t.cell (lt_of_cell h.1) hn).trans h.2.2.2.2.2.2.1, (t.cell (lt_of_cell h.1) hn).trans h.2.2.2.2.2.2.2.1, (t.cell (lt_of_cell h.1) hn).trans h.2.2.2.2.2.2.2.2⟩
theorem cntL_le8 {α : Type} {f : α → D} {cnt : α → Nat} : (xs : List α) → (∀ x ∈ xs, cnt x ≤ 8 * (szD (f x) + 1)) → cntL cnt xs ≤ 8 * szD (sls f xs)
  | [], _ => by simp [cntL]
  | x :: xs, h => by
    have h1 := h x List.mem_cons_self
    have h2 := cntL_le8 xs fun y hy => h y (List.mem_cons_of_mem _ hy)
    rw [szD_sls] at h2 ⊢
    simp only [cntL, List.length_cons, List.map_cons, szDs]
    omega
/-- make of n structs -/
theorem run_make_rows {P : Program} (t e : TypeId) (z : Value) (size bytes : Nat) (ht : P.underlying t = some (.slice e)) (hinfo : (P.info? e).map (fun i => (i.zero, i.size, i.bytes)) = some (some z, size, bytes))
    (kl kc : IntKind) (n : Nat) (hbytes : bytes * n ≤ 281474976710656) (h63 : n ≤ 9223372036854775807) (w : World) :
    (Instr.makeSlice t (.int kl (n : Int)) (.int kc (n : Int))).run P w = .ok (.slice (some ⟨w.heap.size, 0, none⟩) n n) (w.alloc (.cells (madeCells z.cells (n * size)) e)) := by
  obtain ⟨i, hi, hzz⟩ := Option.map_eq_some_iff.1 hinfo
  simp only [Prod.mk.injEq] at hzz
  obtain ⟨hz, hs, hb⟩ := hzz
  have hb' : (i.bytes : Int) * (n : Int) ≤ 281474976710656 := by
    have h : ((i.bytes * n : Nat) : Int) ≤ 281474976710656 := by rw [hb]; omega
    rwa [Int.natCast_mul] at h
  have hr := run_make (P := P) w t e i z ht hi hz kl kc n n (by omega) (Int.le_refl _) hb' (by omega)
  simp only [Int.toNat_natCast, hs] at hr
  exact hr
theorem reps_snoc {w : World} {xs : List D} {d : D} {es c : List Value} {cb b : List Nat} (h1 : Reps w xs es cb) (h2 : Rep w d c b) : Reps w (xs ++ [d]) (es ++ c) (cb ++ b) :=
  (Reps_append xs [d]).2 ⟨es, c, cb, b, rfl, rfl, h1, c, [], b, [], by simp, by simp, h2, rfl, rfl⟩
/-- a call answers a new struct; a new slice -/
def MadeT (w : World) (d : D) (e : Ending) (w' : World) : Prop :=
  ∃ cs bs, e = .returned (.agg (List.toArray cs)) ∧ Rep w' d cs bs ∧ bs.Nodup ∧ (∀ b ∈ bs, w.heap.size ≤ b) ∧ Below w.heap.size w w'
def MadeS (w : World) (d : D) (e : Ending) (w' : World) : Prop :=
  ∃ A n c bs, e = .returned (.slice A n c) ∧ Rep w' d [.slice A n c] bs ∧ bs.Nodup ∧ (∀ b ∈ bs, w.heap.size ≤ b) ∧ Below w.heap.size w w'
theorem Row.set_in {w : World} {g : Nat} {t : TypeId} {es rest : List Value} {u : Value} (h : Row w g t (es ++ u :: rest)) (v : Value) : Row (w.setCell ⟨g, es.length, none⟩ v) g t ((es ++ [v]) ++ rest) := by
  have := h.set es.length v
  rwa [List.set_append_right _ _ (Nat.le_refl _), Nat.sub_self, List.set_cons_zero, show es ++ v :: rest = (es ++ [v]) ++ rest by simp] at this
theorem Row.in_cell {w : World} {g : Nat} {t : TypeId} {es rest : List Value} {u : Value} (h : Row w g t (es ++ u :: rest)) : w.cell? ⟨g, es.length, none⟩ = some u := by
  rw [h.cell]; simp

end Go.Proofs.Ytaomlianiehkgaa
