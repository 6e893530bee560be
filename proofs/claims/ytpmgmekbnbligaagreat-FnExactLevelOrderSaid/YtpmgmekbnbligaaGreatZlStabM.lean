/- A stable sort in plain Lean: rotation, and the merge by rotation. -/
import Derived.Test.YtpmgmekbnbligaaGreatZlStabV
set_option linter.all false
set_option linter.unusedSimpArgs false
set_option linter.unusedVariables false
namespace Go.Proofs.YtpmgmekbnbligaaGreat
open Go.ChangeShapes Go.WideShapes Go.ChangeAt Go.RowKit Go.Deep

theorem Xch.tr {p q n lo hi : Nat} {xs ys : List Int} (h : Xch p q n xs ys) (hp : lo ≤ p) (hpq : p + n ≤ q) (hq : q + n ≤ hi) : Tr lo hi xs ys :=
  ⟨h.len, h.perm, fun i hi => h.out i (by omega) (by omega), fun i h1 h2 => by
    by_cases h3 : p ≤ i ∧ i < p + n
    · refine ⟨q + (i - p), by omega, by omega, ?_⟩
      have := h.fst (i - p) (by omega)
      rwa [show p + (i - p) = i by omega] at this
    · by_cases h4 : q ≤ i ∧ i < q + n
      · refine ⟨p + (i - q), by omega, by omega, ?_⟩
        have := h.snd (i - q) (by omega)
        rwa [show q + (i - q) = i by omega] at this
      · exact ⟨i, h1, h2, h.out i (by omega) (by omega)⟩⟩
theorem rotA {lo m i j : Nat} {ys ys' zs : List Int} (hm : lo + i = m) (hij : j < i) (h : Xch lo m j ys ys') (k : Rot (lo + j) m (m + j) ys' zs) : Rot lo m (m + j) ys zs := by
  refine ⟨(h.tr (Nat.le_refl _) (by omega) (Nat.le_refl _)).trans (k.tr.mono (by omega) (Nat.le_refl _)), fun t ht => ?_, fun t ht => ?_⟩
  · rw [k.tr.out _ (by omega)]; exact h.fst t (by omega)
  · by_cases h2 : t < j
    · have := k.fst t (by omega)
      rw [show lo + (m + j - m) + t = lo + j + t by omega, this]; exact h.snd t h2
    · have := k.snd (t - j) (by omega)
      rw [show lo + j + (m + j - m) + (t - j) = lo + (m + j - m) + t by omega] at this
      rw [this, show lo + j + (t - j) = lo + t by omega]
      exact h.out _ (by omega) (by omega)
theorem rotB {lo m i j : Nat} {ys ys' zs : List Int} (hm : lo + i = m) (hij : i < j) (h : Xch lo (m + j - i) i ys ys') (k : Rot lo m (m + j - i) ys' zs) : Rot lo m (m + j) ys zs := by
  refine ⟨(h.tr (Nat.le_refl _) (by omega) (by omega)).trans (k.tr.mono (Nat.le_refl _) (by omega)), fun t ht => ?_, fun t ht => ?_⟩
  · by_cases h2 : t < j - i
    · rw [k.fst t (by omega)]; exact h.out _ (by omega) (by omega)
    · have := k.snd (t - (j - i)) (by omega)
      rw [show lo + (m + j - i - m) + (t - (j - i)) = lo + t by omega] at this
      rw [this]
      have h3 := h.fst (t - (j - i)) (by omega)
      rw [h3, show m + j - i + (t - (j - i)) = m + t by omega]
  · rw [k.tr.out _ (by omega)]
    have := h.snd t (by omega)
    rwa [show m + j - i + t = lo + (m + j - m) + t by omega] at this
theorem rotE {lo m i : Nat} {ys ys' : List Int} (hm : lo + i = m) (h : Xch lo m i ys ys') : Rot lo m (m + i) ys ys' :=
  ⟨h.tr (Nat.le_refl _) (by omega) (Nat.le_refl _), fun t ht => h.fst t (by omega), fun t ht => by
    have := h.snd t (by omega)
    rwa [show m + t = lo + (m + i - m) + t by omega] at this⟩
/-- what the rotation's loop keeps: the window's rotation is what is left to do -/
structure RotI (a m b i j : Nat) (xs ys : List Int) : Prop where
  tr : Tr a b xs ys
  left : ∀ zs, Rot (m - i) m (m + j) ys zs → Rot a m b xs zs
theorem RotI.start {a m b : Nat} {xs : List Int} (ha : a ≤ m) (hb : m ≤ b) : RotI a m b (m - a) (b - m) xs xs :=
  ⟨Tr.refl _ _ _, fun zs h => by rwa [show m - (m - a) = a by omega, show m + (b - m) = b by omega] at h⟩
theorem RotI.stepA {a m b i j : Nat} {xs ys ys' : List Int} (h : RotI a m b i j xs ys) (hi : i ≤ m - a) (hj : j ≤ b - m) (hij : j < i) (hm : m ≤ b) (k : Xch (m - i) m j ys ys') : RotI a m b (i - j) j xs ys' :=
  ⟨h.tr.trans (k.tr (by omega) (by omega) (by omega)), fun zs hz => h.left zs (rotA (by omega) hij k (by rwa [show m - (i - j) = m - i + j by omega] at hz))⟩
theorem RotI.stepB {a m b i j : Nat} {xs ys ys' : List Int} (h : RotI a m b i j xs ys) (hi : i ≤ m - a) (hj : j ≤ b - m) (hij : i < j) (ha : a ≤ m) (k : Xch (m - i) (m + j - i) i ys ys') : RotI a m b i (j - i) xs ys' :=
  ⟨h.tr.trans (k.tr (by omega) (by omega) (by omega)), fun zs hz => h.left zs (rotB (by omega) hij k (by rwa [show m + (j - i) = m + j - i by omega] at hz))⟩
theorem RotI.done {a m b i : Nat} {xs ys ys' : List Int} (h : RotI a m b i i xs ys) (hi : i ≤ m) (k : Xch (m - i) m i ys ys') : Rot a m b xs ys' := h.left ys' (rotE (by omega) k)
/-- where a rotated row's numbers stood -/
theorem Rot.lo {lo m hi p : Nat} {xs ys : List Int} (h : Rot lo m hi xs ys) (h1 : lo ≤ p) (h2 : p < lo + (hi - m)) : gi ys p = gi xs (m + (p - lo)) := by
  have := h.fst (p - lo) (by omega)
  rwa [show lo + (p - lo) = p by omega] at this
theorem Rot.hi {lo m hi p : Nat} {xs ys : List Int} (h : Rot lo m hi xs ys) (h1 : lo + (hi - m) ≤ p) (h2 : p < hi) (hm : lo ≤ m) (hh : m ≤ hi) : gi ys p = gi xs (lo + (p - (lo + (hi - m)))) := by
  have := h.snd (p - (lo + (hi - m))) (by omega)
  rwa [show lo + (hi - m) + (p - (lo + (hi - m))) = p by omega] at this
/-- one number goes up to its place -/
theorem Rot.up {a k : Nat} {xs ys : List Int} (h : Rot a (a + 1) (k + 1) xs ys) (ha : a ≤ k) (hk : k + 1 < xs.length) : Rot a (a + 1) (k + 2) xs (swp ys k (k + 1)) := by
  have hl := h.tr.len
  have e : ∀ p, gi (swp ys k (k + 1)) p = if p = k + 1 then gi ys k else if p = k then gi ys (k + 1) else gi ys p := fun p => gi_swp (by omega) (by omega)
  have e1 : gi ys (k + 1) = gi xs (k + 1) := h.tr.out _ (by omega)
  have e2 : gi ys k = gi xs a := by
    have := h.snd 0 (by omega)
    rwa [show a + (k + 1 - (a + 1)) + 0 = k by omega, Nat.add_zero] at this
  refine ⟨(h.tr.mono (Nat.le_refl _) (by omega)).trans (Tr.swp (by omega) (by omega) ha (by omega) (by omega) (by omega)), fun t ht => ?_, fun t ht => ?_⟩
  · rw [e, if_neg (by omega)]
    by_cases hk2 : a + t = k
    · rw [if_pos hk2, e1, show a + 1 + t = k + 1 by omega]
    · rw [if_neg hk2]; exact h.fst t (by omega)
  · rw [e, if_pos (by omega), e2, show t = 0 by omega, Nat.add_zero]
/-- .. down -/
theorem Rot.down {m k : Nat} {xs ys : List Int} (h : Rot (k + 1) m (m + 1) xs ys) (hk : k + 1 ≤ m) (hm : m < xs.length) : Rot k m (m + 1) xs (swp ys (k + 1) k) := by
  have hl := h.tr.len
  have e : ∀ p, gi (swp ys (k + 1) k) p = if p = k then gi ys (k + 1) else if p = k + 1 then gi ys k else gi ys p := fun p => gi_swp (by omega) (by omega)
  have e1 : gi ys k = gi xs k := h.tr.out _ (by omega)
  have e2 : gi ys (k + 1) = gi xs m := by
    have := h.fst 0 (by omega)
    simpa using this
  refine ⟨(h.tr.mono (by omega) (Nat.le_refl _)).trans (Tr.swp (by omega) (by omega) (by omega) (by omega) (by omega) (by omega)), fun t ht => ?_, fun t ht => ?_⟩
  · rw [e, if_pos (by omega), e2, show t = 0 by omega, Nat.add_zero]
  · rw [e, if_neg (by omega)]
    by_cases hk2 : t = 0
    · subst hk2; rw [if_pos (by omega), e1, Nat.add_zero]
    · rw [if_neg (by omega)]
      have := h.snd (t - 1) (by omega)
      rwa [show k + 1 + (m + 1 - m) + (t - 1) = k + (m + 1 - m) + t by omega, show k + 1 + (t - 1) = k + t by omega] at this
/-- one number to the left of a sorted stretch -/
theorem one_left {key : Int → Int} {a b i : Nat} {xs ys : List Int} (hs : Srt key (a + 1) b xs) (hi : a + 1 ≤ i) (hb : i ≤ b) (h1 : ∀ p, a + 1 ≤ p → p < i → ltK key (gi xs p) (gi xs a)) (h2 : ∀ p, i ≤ p → p < b → ltK key (gi xs a) (gi xs p)) (h : Rot a (a + 1) i xs ys) : Srt key a b ys := fun p q hp hpq hq => by
  have el : ∀ p, a ≤ p → p < i - 1 → gi ys p = gi xs (p + 1) := fun p h3 h4 => by
    rw [h.lo h3 (by omega)]; congr 1; omega
  have em : gi ys (i - 1) = gi xs a := by
    rw [h.hi (by omega) (by omega) (by omega) hi]; congr 1; omega
  have er : ∀ p, i ≤ p → gi ys p = gi xs p := fun p h3 => h.tr.out p (by omega)
  by_cases c1 : p < i - 1
  · rw [el p hp c1]
    by_cases c2 : q < i - 1
    · rw [el q (by omega) c2]; exact hs _ _ (by omega) (by omega) (by omega)
    · by_cases c3 : q = i - 1
      · rw [c3, em]; exact h1 _ (by omega) (by omega)
      · rw [er q (by omega)]; exact hs _ _ (by omega) (by omega) hq
  · by_cases c2 : p = i - 1
    · rw [c2, em, er q (by omega)]; exact h2 q (by omega) hq
    · rw [er p (by omega), er q (by omega)]; exact hs _ _ (by omega) hpq hq
/-- one number to the right -/
theorem one_right {key : Int → Int} {a m i : Nat} {xs ys : List Int} (hs : Srt key a m xs) (ha : a ≤ i) (hi : i ≤ m) (h1 : ∀ p, a ≤ p → p < i → ltK key (gi xs p) (gi xs m)) (h2 : ∀ p, i ≤ p → p < m → ltK key (gi xs m) (gi xs p)) (h : Rot i m (m + 1) xs ys) : Srt key a (m + 1) ys := fun p q hp hpq hq => by
  have el : ∀ p, p < i → gi ys p = gi xs p := fun p h3 => h.tr.out p (by omega)
  have em : gi ys i = gi xs m := by
    rw [h.lo (Nat.le_refl _) (by omega)]; congr 1; omega
  have er : ∀ p, i < p → p ≤ m → gi ys p = gi xs (p - 1) := fun p h3 h4 => by
    rw [h.hi (by omega) (by omega) hi (by omega)]; congr 1; omega
  by_cases c1 : p < i
  · rw [el p c1]
    by_cases c2 : q < i
    · rw [el q c2]; exact hs _ _ hp hpq (by omega)
    · by_cases c3 : q = i
      · rw [c3, em]; exact h1 p hp c1
      · rw [er q (by omega) (by omega)]; exact hs _ _ hp (by omega) (by omega)
  · by_cases c2 : p = i
    · rw [c2, em, er q (by omega) (by omega)]; exact h2 _ (by omega) (by omega)
    · rw [er p (by omega) (by omega), er q (by omega) (by omega)]; exact hs _ _ (by omega) (by omega) (by omega)
/-- what the merge's two halves are once the middle is rotated -/
structure Half (key : Int → Int) (a st md en b : Nat) (ys : List Int) : Prop where
  s1 : Srt key a st ys
  s2 : Srt key st md ys
  s3 : Srt key md en ys
  s4 : Srt key en b ys
  c1 : Cut a st md ys
  c2 : Cut md en b ys
  x : ∀ p q, a ≤ p → p < md → md ≤ q → q < b → ltK key (gi ys p) (gi ys q)
theorem half {key : Int → Int} {a m b st en : Nat} {xs ys : List Int} (h1 : Srt key a m xs) (h2 : Srt key m b xs) (hc : Cut a m b xs) (ha : a ≤ st) (hs : st ≤ m) (he : m ≤ en) (hb : en ≤ b)
    (k1 : a < st → en < b → ltK key (gi xs (st - 1)) (gi xs en)) (k2 : m < en → st < m → ltK key (gi xs (en - 1)) (gi xs st)) (h : Rot st m en xs ys) : Half key a st (st + (en - m)) en b ys := by
  have e1 : ∀ p, p < st → gi ys p = gi xs p := fun p h3 => h.tr.out p (by omega)
  have e2 : ∀ p, st ≤ p → p < st + (en - m) → gi ys p = gi xs (m + (p - st)) := fun p h3 h4 => h.lo h3 h4
  have e3 : ∀ p, st + (en - m) ≤ p → p < en → gi ys p = gi xs (st + (p - (st + (en - m)))) := fun p h3 h4 => h.hi h3 h4 hs he
  have e4 : ∀ p, en ≤ p → gi ys p = gi xs p := fun p h3 => h.tr.out p (by omega)
  -- the left's first part is ahead of the right's second, the right's first ahead of the left's second
  have x1 : ∀ p q, a ≤ p → p < st → en ≤ q → q < b → ltK key (gi xs p) (gi xs q) := fun p q h3 h4 h5 h6 => by
    have k := k1 (by omega) (by omega)
    have k3 : p = st - 1 ∨ ltK key (gi xs p) (gi xs (st - 1)) := by
      by_cases e : p = st - 1
      · exact .inl e
      · exact .inr (h1 _ _ h3 (by omega) (by omega))
    have k4 : q = en ∨ ltK key (gi xs en) (gi xs q) := by
      by_cases e : q = en
      · exact .inl e
      · exact .inr (h2 _ _ he (by omega) h6)
    rcases k3 with rfl | k3 <;> rcases k4 with rfl | k4
    · exact k
    · exact k.trans k4
    · exact k3.trans k
    · exact (k3.trans k).trans k4
  have x2 : ∀ p q, m ≤ p → p < en → st ≤ q → q < m → ltK key (gi xs p) (gi xs q) := fun p q h3 h4 h5 h6 => by
    have k := k2 (by omega) (by omega)
    have k3 : p = en - 1 ∨ ltK key (gi xs p) (gi xs (en - 1)) := by
      by_cases e : p = en - 1
      · exact .inl e
      · exact .inr (h2 _ _ h3 (by omega) (by omega))
    have k4 : q = st ∨ ltK key (gi xs st) (gi xs q) := by
      by_cases e : q = st
      · exact .inl e
      · exact .inr (h1 _ _ ha (by omega) h6)
    rcases k3 with rfl | k3 <;> rcases k4 with rfl | k4
    · exact k
    · exact k.trans k4
    · exact k3.trans k
    · exact (k3.trans k).trans k4
  refine ⟨fun i j h3 h4 h5 => ?_, fun i j h3 h4 h5 => ?_, fun i j h3 h4 h5 => ?_, fun i j h3 h4 h5 => ?_, fun i j h3 h4 h5 h6 => ?_, fun i j h3 h4 h5 h6 => ?_, fun p q h3 h4 h5 h6 => ?_⟩
  · rw [e1 i (by omega), e1 j h5]; exact h1 _ _ h3 h4 (by omega)
  · rw [e2 i h3 (by omega), e2 j (by omega) h5]; exact h2 _ _ (by omega) (by omega) (by omega)
  · rw [e3 i h3 (by omega), e3 j (by omega) h5]; exact h1 _ _ (by omega) (by omega) (by omega)
  · rw [e4 i h3, e4 j (by omega)]; exact h2 _ _ (by omega) h4 h5
  · rw [e1 i h4, e2 j h5 h6]; exact hc _ _ h3 (by omega) (by omega) (by omega)
  · rw [e3 i h3 h4, e4 j h5]; exact hc _ _ (by omega) (by omega) (by omega) h6
  · by_cases c1 : p < st
    · rw [e1 p c1]
      by_cases c2 : q < en
      · rw [e3 q h5 c2]; exact h1 _ _ h3 (by omega) (by omega)
      · rw [e4 q (by omega)]; exact x1 _ _ h3 c1 (by omega) h6
    · rw [e2 p (by omega) h4]
      by_cases c2 : q < en
      · rw [e3 q h5 c2]; exact x2 _ _ (by omega) (by omega) (by omega) (by omega)
      · rw [e4 q (by omega)]; exact h2 _ _ (by omega) (by omega) h6
/-- the two halves merged -/
theorem Half.done {key : Int → Int} {a st md en b : Nat} {ys y1 y2 : List Int} (h : Half key a st md en b ys) (ha : a ≤ md) (hb : md ≤ b) (t1 : Tr a md ys y1) (s1 : Srt key a md y1) (t2 : Tr md b y1 y2) (s2 : Srt key md b y2) : Srt key a b y2 := by
  refine Srt.join (m := md) (s1.same fun i h1 h2 => t2.out i (by omega)) s2 fun i j h1 h2 h3 h4 => ?_
  rw [t2.out i (by omega)]
  obtain ⟨i', h5, h6, h7⟩ := t1.ins i h1 h2
  obtain ⟨j', h8, h9, h10⟩ := t2.ins j h3 h4
  rw [h7, h10, t1.out j' (by omega)]
  exact h.x _ _ h5 h6 h8 h9
theorem Half.left {key : Int → Int} {a st md en b : Nat} {ys y1 : List Int} (h : Half key a st md en b ys) (t1 : Tr a md ys y1) : Srt key md en y1 ∧ Srt key en b y1 ∧ Cut md en b y1 ∨ en < md :=
  if he : en < md then .inr he else .inl ⟨h.s3.same fun i h1 h2 => t1.out i (by omega), h.s4.same fun i h1 h2 => t1.out i (by omega), fun i j h1 h2 h3 h4 => by rw [t1.out i (by omega), t1.out j (by omega)]; exact h.c2 i j h1 h2 h3 h4⟩
/-- a row of numbers that are sorted is told by its numbers -/
theorem srt_unique {key : Int → Int} {xs ys : List Int} (hx : Srt key 0 xs.length xs) (hy : Srt key 0 ys.length ys) (hp : xs.Perm ys) : xs = ys := by
  have pw : ∀ l : List Int, Srt key 0 l.length l → l.Pairwise (ltK key) := fun l h => by
    rw [List.pairwise_iff_getElem]
    intro i j hi hj hij
    have := h i j (Nat.zero_le _) hij hj
    simpa [gi, List.getD_eq_getElem?_getD, hi, hj] using this
  exact List.Perm.eq_of_pairwise (fun a b _ _ h1 h2 => (h1.trans h2).irrefl.elim) (pw _ hx) (pw _ hy) hp
end Go.Proofs.YtpmgmekbnbligaaGreat
