/- A stable sort in plain Lean: what the steps of slices.SortStableFunc keep, told by properties of the row of numbers. -/
import Derived.Test.YtpmgmekbnbligaaGreatZlCore
set_option linter.all false
set_option linter.unusedSimpArgs false
set_option linter.unusedVariables false
namespace Go.Proofs.YtpmgmekbnbligaaGreat
open Go.ChangeShapes Go.WideShapes Go.ChangeAt Go.RowKit Go.Deep

/-- the strict order by key, then by value -/
def ltK (key : Int → Int) (x y : Int) : Prop := key x < key y ∨ (key x = key y ∧ x < y)
theorem ltK.trans {key : Int → Int} {x y z : Int} (h : ltK key x y) (k : ltK key y z) : ltK key x z := by
  unfold ltK at *; omega
theorem ltK.irrefl {key : Int → Int} {x : Int} (h : ltK key x x) : False := by
  unfold ltK at h; omega
/-- the lesser value's key is no greater: it stands ahead -/
theorem ltK.of_le {key : Int → Int} {x y : Int} (h : ¬ key y < key x) (hv : x < y) : ltK key x y := by
  unfold ltK; omega
def Srt (key : Int → Int) (a b : Nat) (xs : List Int) : Prop := ∀ i j, a ≤ i → i < j → j < b → ltK key (gi xs i) (gi xs j)
/-- the values rise -/
def Up (a b : Nat) (xs : List Int) : Prop := ∀ i j, a ≤ i → i < j → j < b → gi xs i < gi xs j
/-- each value ahead of m is less than each from m on -/
def Cut (a m b : Nat) (xs : List Int) : Prop := ∀ i j, a ≤ i → i < m → m ≤ j → j < b → gi xs i < gi xs j
/-- only the places from a to b are changed, and what stands there stood there -/
structure Tr (a b : Nat) (xs ys : List Int) : Prop where
  len : ys.length = xs.length
  perm : ys.Perm xs
  out : ∀ i, i < a ∨ b ≤ i → gi ys i = gi xs i
  ins : ∀ i, a ≤ i → i < b → ∃ j, a ≤ j ∧ j < b ∧ gi ys i = gi xs j
theorem Tr.refl (a b : Nat) (xs : List Int) : Tr a b xs xs := ⟨rfl, .refl _, fun _ _ => rfl, fun i h k => ⟨i, h, k, rfl⟩⟩
theorem Tr.trans {a b : Nat} {xs ys zs : List Int} (h : Tr a b xs ys) (k : Tr a b ys zs) : Tr a b xs zs :=
  ⟨k.len.trans h.len, k.perm.trans h.perm, fun i hi => (k.out i hi).trans (h.out i hi), fun i h1 h2 => by
    obtain ⟨j, h3, h4, h5⟩ := k.ins i h1 h2
    obtain ⟨l, h6, h7, h8⟩ := h.ins j h3 h4
    exact ⟨l, h6, h7, h5.trans h8⟩⟩
theorem Tr.mono {a b a' b' : Nat} {xs ys : List Int} (h : Tr a b xs ys) (ha : a' ≤ a) (hb : b ≤ b') : Tr a' b' xs ys :=
  ⟨h.len, h.perm, fun i hi => h.out i (by omega), fun i h1 h2 => by
    by_cases hin : a ≤ i ∧ i < b
    · obtain ⟨j, h3, h4, h5⟩ := h.ins i hin.1 hin.2
      exact ⟨j, by omega, by omega, h5⟩
    · exact ⟨i, h1, h2, h.out i (by omega)⟩⟩
/-- two places exchanged -/
def swp (xs : List Int) (i j : Nat) : List Int := (xs.set i (gi xs j)).set j (gi xs i)
theorem swp_len (xs : List Int) (i j : Nat) : (swp xs i j).length = xs.length := by simp [swp]
theorem gi_set {xs : List Int} {i j : Nat} {v : Int} (h : i < xs.length) : gi (xs.set i v) j = if i = j then v else gi xs j := by
  unfold gi
  rw [List.getD_eq_getElem?_getD, List.getD_eq_getElem?_getD, List.getElem?_set]
  split
  · rename_i e; subst e; simp [h]
  · rfl
theorem gi_swp {xs : List Int} {i j k : Nat} (hi : i < xs.length) (hj : j < xs.length) : gi (swp xs i j) k = if k = j then gi xs i else if k = i then gi xs j else gi xs k := by
  unfold swp
  rw [gi_set (by simpa using hj), gi_set hi]
  by_cases h : k = j
  · subst h; simp
  · rw [if_neg (Ne.symm h), if_neg h]
    by_cases h2 : k = i
    · subst h2; simp
    · rw [if_neg (Ne.symm h2), if_neg h2]
theorem set_getElem_perm {xs : List Int} {i j : Nat} (hi : i < xs.length) (hj : j < xs.length) : (swp xs i j).Perm xs := by
  have h1 : gi xs i = xs[i] := by simp [gi, List.getD_eq_getElem?_getD, hi]
  have h2 : gi xs j = xs[j] := by simp [gi, List.getD_eq_getElem?_getD, hj]
  unfold swp
  rw [h1, h2]
  exact List.set_set_perm hi hj
theorem Tr.swp {a b i j : Nat} {xs : List Int} (hi : i < xs.length) (hj : j < xs.length) (h1 : a ≤ i) (h2 : i < b) (h3 : a ≤ j) (h4 : j < b) : Tr a b xs (swp xs i j) :=
  ⟨swp_len _ _ _, set_getElem_perm hi hj, fun k hk => by rw [gi_swp hi hj, if_neg (by omega), if_neg (by omega)], fun k h5 h6 => by
    rw [gi_swp hi hj]
    split
    · exact ⟨i, h1, h2, rfl⟩
    · split
      · exact ⟨j, h3, h4, rfl⟩
      · exact ⟨k, h5, h6, rfl⟩⟩
theorem Srt.mono {key : Int → Int} {a b a' b' : Nat} {xs : List Int} (h : Srt key a b xs) (ha : a ≤ a') (hb : b' ≤ b) : Srt key a' b' xs := fun i j h1 h2 h3 => h i j (by omega) h2 (by omega)
theorem Srt.same {key : Int → Int} {a b : Nat} {xs ys : List Int} (h : Srt key a b xs) (e : ∀ i, a ≤ i → i < b → gi ys i = gi xs i) : Srt key a b ys := fun i j h1 h2 h3 => by
  rw [e i h1 (by omega), e j (by omega) h3]; exact h i j h1 h2 h3
theorem Srt.nil {key : Int → Int} {a b : Nat} {xs : List Int} (h : b ≤ a + 1) : Srt key a b xs := fun i j h1 h2 h3 => by omega
theorem Up.cut {a m b : Nat} {xs : List Int} (h : Up a b xs) : Cut a m b xs := fun i j h1 h2 h3 h4 => h i j h1 (by omega) h4
/-- two sorted halves, each of the first ahead of each of the second -/
theorem Srt.join {key : Int → Int} {a m b : Nat} {xs : List Int} (h : Srt key a m xs) (k : Srt key m b xs) (hx : ∀ i j, a ≤ i → i < m → m ≤ j → j < b → ltK key (gi xs i) (gi xs j)) : Srt key a b xs := fun i j h1 h2 h3 => by
  by_cases hj : j < m
  · exact h i j h1 h2 hj
  · by_cases hi : i < m
    · exact hx i j h1 hi (by omega) h3
    · exact k i j (by omega) h2 h3

/-- insertion: v stands at j on its way down; all else from a to i is sorted, and what stands behind j is greater -/
structure InsI (key : Int → Int) (a i j : Nat) (v : Int) (ys : List Int) : Prop where
  at_ : gi ys j = v
  srt : ∀ p q, a ≤ p → p < q → q ≤ i → p ≠ j → q ≠ j → ltK key (gi ys p) (gi ys q)
  gt : ∀ q, j < q → q ≤ i → ltK key v (gi ys q)
  less : ∀ p, a ≤ p → p ≤ i → p ≠ j → gi ys p < v
theorem InsI.start {key : Int → Int} {a i : Nat} {ys : List Int} (h : Srt key a i ys) (hc : Cut a i (i + 1) ys) : InsI key a i i (gi ys i) ys :=
  ⟨rfl, fun p q h1 h2 h3 h4 h5 => h p q h1 h2 (by omega), fun q h1 h2 => by omega, fun p h1 h2 h3 => hc p i h1 (by omega) (Nat.le_refl _) (by omega)⟩
theorem InsI.step {key : Int → Int} {a i j : Nat} {v : Int} {ys : List Int} (h : InsI key a i (j + 1) v ys) (hj : a ≤ j) (hi : j + 1 ≤ i) (hl : i < ys.length) (hk : key v < key (gi ys j)) : InsI key a i j v (swp ys (j + 1) j) := by
  have e : ∀ k, gi (swp ys (j + 1) j) k = if k = j then v else if k = j + 1 then gi ys j else gi ys k := fun k => by
    rw [gi_swp (by omega) (by omega), h.at_]
  refine ⟨by rw [e, if_pos rfl], fun p q h1 h2 h3 h4 h5 => ?_, fun q h1 h2 => ?_, fun p h1 h2 h3 => ?_⟩
  · rw [e, e, if_neg h4, if_neg h5]
    by_cases hp : p = j + 1
    · subst hp
      rw [if_pos rfl, if_neg (by omega)]
      exact h.srt j q hj (by omega) h3 (by omega) (by omega)
    · rw [if_neg hp]
      by_cases hq : q = j + 1
      · subst hq
        rw [if_pos rfl]
        exact h.srt p j h1 (by omega) (by omega) hp (by omega)
      · rw [if_neg hq]
        exact h.srt p q h1 h2 h3 hp hq
  · rw [e, if_neg (by omega)]
    by_cases hq : q = j + 1
    · subst hq; rw [if_pos rfl]; exact .inl hk
    · rw [if_neg hq]; exact h.gt q (by omega) h2
  · rw [e, if_neg h3]
    by_cases hp : p = j + 1
    · subst hp; rw [if_pos rfl]; exact h.less j hj (by omega) (by omega)
    · rw [if_neg hp]; exact h.less p h1 h2 hp
theorem InsI.done {key : Int → Int} {a i j : Nat} {v : Int} {ys : List Int} (h : InsI key a i j v ys) (hs : j = a ∨ (a < j ∧ j ≤ i ∧ ¬ key v < key (gi ys (j - 1)))) : Srt key a (i + 1) ys := fun p q h1 h2 h3 => by
  by_cases hp : p = j
  · subst hp; rw [h.at_]; exact h.gt q h2 (by omega)
  · by_cases hq : q = j
    · subst hq
      rw [h.at_]
      rcases hs with rfl | ⟨h4, h5, h6⟩
      · omega
      · have h7 : ltK key (gi ys (q - 1)) v := ltK.of_le h6 (h.less (q - 1) (by omega) (by omega) (by omega))
        by_cases hp2 : p = q - 1
        · subst hp2; exact h7
        · exact (h.srt p (q - 1) h1 (by omega) (by omega) hp (by omega)).trans h7
    · exact h.srt p q h1 h2 (by omega) hp hq

/-- two neighbouring stretches exchanged -/
structure Rot (lo m hi : Nat) (xs ys : List Int) : Prop where
  tr : Tr lo hi xs ys
  fst : ∀ t, t < hi - m → gi ys (lo + t) = gi xs (m + t)
  snd : ∀ t, t < m - lo → gi ys (lo + (hi - m) + t) = gi xs (lo + t)
theorem Rot.left {lo m : Nat} {xs : List Int} {hi : Nat} (h : hi ≤ m) : Rot lo m hi xs xs := ⟨Tr.refl _ _ _, fun t ht => by omega, fun t ht => by rw [show hi - m = 0 by omega, Nat.add_zero]⟩
theorem Rot.right {lo m hi : Nat} {xs : List Int} (h : m = lo) : Rot lo m hi xs xs := ⟨Tr.refl _ _ _, fun t ht => by rw [h], fun t ht => by omega⟩
/-- equal stretches a step of n exchanged, one by one: k of them done -/
structure Xch (p q n : Nat) (xs ys : List Int) : Prop where
  len : ys.length = xs.length
  perm : ys.Perm xs
  fst : ∀ t, t < n → gi ys (p + t) = gi xs (q + t)
  snd : ∀ t, t < n → gi ys (q + t) = gi xs (p + t)
  out : ∀ i, (i < p ∨ p + n ≤ i) → (i < q ∨ q + n ≤ i) → gi ys i = gi xs i
theorem Xch.zero (p q : Nat) (xs : List Int) : Xch p q 0 xs xs := ⟨rfl, .refl _, fun t ht => by omega, fun t ht => by omega, fun _ _ _ => rfl⟩
theorem Xch.step {p q n : Nat} {xs ys : List Int} (h : Xch p q n xs ys) (hd : p + n < q) (hl : q + n < xs.length) : Xch p q (n + 1) xs (swp ys (p + n) (q + n)) := by
  have hl2 := h.len
  have e : ∀ k, gi (swp ys (p + n) (q + n)) k = if k = q + n then gi ys (p + n) else if k = p + n then gi ys (q + n) else gi ys k := fun k => gi_swp (by omega) (by omega)
  have e1 : gi ys (p + n) = gi xs (p + n) := h.out _ (by omega) (by omega)
  have e2 : gi ys (q + n) = gi xs (q + n) := h.out _ (by omega) (by omega)
  refine ⟨(swp_len _ _ _).trans h.len, (set_getElem_perm (by omega) (by omega)).trans h.perm, fun t ht => ?_, fun t ht => ?_, fun i h1 h2 => ?_⟩
  · rw [e]
    by_cases hn : t = n
    · subst hn; rw [if_neg (by omega), if_pos rfl, e2]
    · rw [if_neg (by omega), if_neg (by omega)]; exact h.fst t (by omega)
  · rw [e]
    by_cases hn : t = n
    · subst hn; rw [if_pos rfl, e1]
    · rw [if_neg (by omega), if_neg (by omega)]; exact h.snd t (by omega)
  · rw [e, if_neg (by omega), if_neg (by omega)]; exact h.out i (by omega) (by omega)
end Go.Proofs.YtpmgmekbnbligaaGreat
