/- A stable sort by blocks, in plain Lean: what its two loops keep. -/
import Derived.Test.YtpmgmekbnbligaaGreatZlStabM
set_option linter.all false
set_option linter.unusedSimpArgs false
set_option linter.unusedVariables false
namespace Go.Proofs.YtpmgmekbnbligaaGreat
open Go.ChangeShapes Go.WideShapes Go.ChangeAt Go.RowKit Go.Deep

theorem dvd_next {d a c : Nat} (ha : d ∣ a) (hc : d ∣ c) (h : a < c) : a + d ≤ c := by
  have h1 : d ∣ c - a := Nat.dvd_sub hc ha
  have h2 := Nat.le_of_dvd (by omega) h1
  omega
theorem Cut.tr {a b c n : Nat} {xs ys : List Int} (h : Cut 0 c n xs) (t : Tr a b xs ys) (hc : c ≤ a ∨ b ≤ c) (hb : b ≤ n) : Cut 0 c n ys := fun i j h1 h2 h3 h4 => by
  have ei : ∃ i', i' < c ∧ gi ys i = gi xs i' := by
    by_cases k : a ≤ i ∧ i < b
    · obtain ⟨i', k1, k2, k3⟩ := t.ins i k.1 k.2
      exact ⟨i', by omega, k3⟩
    · exact ⟨i, h2, t.out i (by omega)⟩
  have ej : ∃ j', c ≤ j' ∧ j' < n ∧ gi ys j = gi xs j' := by
    by_cases k : a ≤ j ∧ j < b
    · obtain ⟨j', k1, k2, k3⟩ := t.ins j k.1 k.2
      exact ⟨j', by omega, by omega, k3⟩
    · exact ⟨j, h3, h4, t.out j (by omega)⟩
  obtain ⟨i', k1, k2⟩ := ei
  obtain ⟨j', k3, k4, k5⟩ := ej
  rw [k2, k5]
  exact h i' j' (Nat.zero_le _) k1 k3 k4
theorem Srt.far {key : Int → Int} {a b c d : Nat} {xs ys : List Int} (h : Srt key c d xs) (t : Tr a b xs ys) (hc : d ≤ a ∨ b ≤ c) : Srt key c d ys := h.same fun i h1 h2 => t.out i (by omega)
/-- stretches of s numbers, each sorted, each behind the ones ahead of it -/
structure Blk (key : Int → Int) (s n : Nat) (ys : List Int) : Prop where
  srt : ∀ c, s ∣ c → c < n → Srt key c (min (c + s) n) ys
  cut : ∀ c, s ∣ c → Cut 0 c n ys
/-- .. the first a numbers of them so far -/
structure Blk1 (key : Int → Int) (s n a : Nat) (ys : List Int) : Prop where
  srt : ∀ c, s ∣ c → c < a → Srt key c (c + s) ys
  cut : ∀ c, s ∣ c → Cut 0 c n ys
  up : Up a n ys
  dv : s ∣ a
  an : a ≤ n
theorem Blk1.start {key : Int → Int} {s n : Nat} {ys : List Int} (h : Up 0 n ys) : Blk1 key s n 0 ys :=
  ⟨fun c _ h => by omega, fun c _ => h.cut, h, Nat.dvd_zero _, Nat.zero_le _⟩
theorem Blk1.step {key : Int → Int} {s n a : Nat} {ys zs : List Int} (h : Blk1 key s n a ys) (hs : 0 < s) (ha : a + s ≤ n) (t : Tr a (a + s) ys zs) (hz : Srt key a (a + s) zs) : Blk1 key s n (a + s) zs := by
  refine ⟨fun c h1 h2 => ?_, fun c h1 => ?_, ?_, (Nat.dvd_add_right h.dv).2 (Nat.dvd_refl _), ha⟩
  · by_cases e : c = a
    · rw [e]; exact hz
    · have h3 : c < a := by
        rcases Nat.lt_or_ge c a with h4 | h4
        · exact h4
        · have := dvd_next h.dv h1 (by omega); omega
      have h4 := dvd_next h1 h.dv h3
      exact (h.srt c h1 h3).far t (.inl h4)
  · refine (h.cut c h1).tr t ?_ ha
    rcases Nat.lt_or_ge a c with h2 | h2
    · exact .inr (dvd_next h.dv h1 h2)
    · exact .inl h2
  · intro i j h1 h2 h3
    rw [t.out i (by omega), t.out j (by omega)]
    exact h.up i j (by omega) h2 h3
theorem Blk1.done {key : Int → Int} {s n a : Nat} {ys zs : List Int} (h : Blk1 key s n a ys) (hs : 0 < s) (ha : n < a + s) (t : Tr a n ys zs) (hz : Srt key a n zs) : Blk key s n zs := by
  refine ⟨fun c h1 h2 => ?_, fun c h1 => ?_⟩
  · rcases Nat.lt_or_ge c a with h3 | h3
    · have h4 := dvd_next h1 h.dv h3
      have h5 := h.an
      rw [Nat.min_eq_left (by omega)]
      exact (h.srt c h1 h3).far t (.inl h4)
    · have h4 : c = a := by
        rcases Nat.lt_or_ge a c with h5 | h5
        · have := dvd_next h.dv h1 h5; omega
        · omega
      rw [h4, Nat.min_eq_right (by omega)]; exact hz
  · refine (h.cut c h1).tr t ?_ (Nat.le_refl _)
    rcases Nat.lt_or_ge a c with h2 | h2
    · have := dvd_next h.dv h1 h2; exact .inr (by omega)
    · exact .inl h2
/-- the merging of stretches of s numbers into stretches of twice as many, the first a numbers so far -/
structure Blk2 (key : Int → Int) (s n a : Nat) (ys : List Int) : Prop where
  srt : ∀ c, 2 * s ∣ c → c < a → Srt key c (c + 2 * s) ys
  old : ∀ c, s ∣ c → a ≤ c → c < n → Srt key c (min (c + s) n) ys
  cut : ∀ c, 2 * s ∣ c → Cut 0 c n ys
  cuto : ∀ c, s ∣ c → a ≤ c → Cut 0 c n ys
  dv : 2 * s ∣ a
  an : a ≤ n
theorem dvd_half {s a : Nat} (h : 2 * s ∣ a) : s ∣ a := Nat.dvd_trans (Nat.dvd_mul_left s 2) h
theorem Blk2.start {key : Int → Int} {s n : Nat} {ys : List Int} (h : Blk key s n ys) : Blk2 key s n 0 ys :=
  ⟨fun c _ h => by omega, fun c h1 _ h2 => h.srt c h1 h2, fun c h1 => h.cut c (dvd_half h1), fun c h1 _ => h.cut c h1, Nat.dvd_zero _, Nat.zero_le _⟩
theorem Blk2.step {key : Int → Int} {s n a : Nat} {ys zs : List Int} (h : Blk2 key s n a ys) (hs : 0 < s) (ha : a + 2 * s ≤ n) (t : Tr a (a + 2 * s) ys zs) (hz : Srt key a (a + 2 * s) zs) : Blk2 key s n (a + 2 * s) zs := by
  refine ⟨fun c h1 h2 => ?_, fun c h1 h2 h3 => (h.old c h1 (by omega) h3).far t (.inr h2), fun c h1 => ?_, fun c h1 h2 => (h.cuto c h1 (by omega)).tr t (.inr h2) ha, (Nat.dvd_add_right h.dv).2 (Nat.dvd_refl _), ha⟩
  · by_cases e : c = a
    · rw [e]; exact hz
    · have h3 : c < a := by
        rcases Nat.lt_or_ge c a with h4 | h4
        · exact h4
        · have := dvd_next h.dv h1 (by omega); omega
      exact (h.srt c h1 h3).far t (.inl (dvd_next h1 h.dv h3))
  · refine (h.cut c h1).tr t ?_ ha
    rcases Nat.lt_or_ge a c with h2 | h2
    · exact .inr (dvd_next h.dv h1 h2)
    · exact .inl h2
theorem Blk2.done {key : Int → Int} {s n a : Nat} {ys zs : List Int} (h : Blk2 key s n a ys) (hs : 0 < s) (ha : n < a + 2 * s) (t : Tr a n ys zs) (hz : Srt key a n zs) : Blk key (2 * s) n zs := by
  refine ⟨fun c h1 h2 => ?_, fun c h1 => ?_⟩
  · rcases Nat.lt_or_ge c a with h3 | h3
    · have h4 := dvd_next h1 h.dv h3
      have h5 := h.an
      rw [Nat.min_eq_left (by omega)]
      exact (h.srt c h1 h3).far t (.inl h4)
    · have h4 : c = a := by
        rcases Nat.lt_or_ge a c with h5 | h5
        · have := dvd_next h.dv h1 h5; omega
        · omega
      rw [h4, Nat.min_eq_right (by omega)]; exact hz
  · refine (h.cut c h1).tr t ?_ (Nat.le_refl _)
    rcases Nat.lt_or_ge a c with h2 | h2
    · have := dvd_next h.dv h1 h2; exact .inr (by omega)
    · exact .inl h2
/-- what a merge of two neighbouring stretches finds -/
theorem Blk2.two {key : Int → Int} {s n a b : Nat} {ys : List Int} (h : Blk2 key s n a ys) (hs : 0 < s) (hm : a + s < b) (hb : b = min (a + 2 * s) n) : Srt key a (a + s) ys ∧ Srt key (a + s) b ys ∧ Cut a (a + s) b ys := by
  have d1 : s ∣ a := dvd_half h.dv
  have d2 : s ∣ a + s := (Nat.dvd_add_right d1).2 (Nat.dvd_refl _)
  have h1 := h.old a d1 (Nat.le_refl _) (by omega)
  have h2 := h.old (a + s) d2 (by omega) (by omega)
  rw [Nat.min_eq_left (by omega)] at h1
  rw [show min (a + s + s) n = b by omega] at h2
  exact ⟨h1, h2, fun i j k1 k2 k3 k4 => h.cuto (a + s) d2 (by omega) i j (Nat.zero_le _) k2 k3 (by omega)⟩
/-- the last stretch alone -/
theorem Blk2.one {key : Int → Int} {s n a : Nat} {ys : List Int} (h : Blk2 key s n a ys) (hm : n ≤ a + s) : Srt key a n ys := by
  by_cases e : a < n
  · have h1 := h.old a (dvd_half h.dv) (Nat.le_refl _) e
    rwa [Nat.min_eq_right hm] at h1
  · exact Srt.nil (by omega)
theorem Blk.all {key : Int → Int} {s n : Nat} {ys : List Int} (h : Blk key s n ys) (hs : n ≤ s) : Srt key 0 n ys := by
  by_cases e : 0 < n
  · have h1 := h.srt 0 (Nat.dvd_zero _) e
    rwa [Nat.zero_add, Nat.min_eq_right hs] at h1
  · exact Srt.nil (by omega)
end Go.Proofs.YtpmgmekbnbligaaGreat
