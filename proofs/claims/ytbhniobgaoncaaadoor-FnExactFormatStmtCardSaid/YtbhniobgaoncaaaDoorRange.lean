/- Ranges of loops, points of nests: LoopRange, PointIn of both sides; constant bounds: RectNest of both sides. -/
import Derived.Test.YtbhniobgaoncaaaDoorSpan
import Derived.Test.YtbhniobgaoncaaaDoorSqLoop
set_option linter.all false
set_option linter.unusedSimpArgs false
set_option linter.unusedVariables false
namespace Go.Proofs.YtbhniobgaoncaaaDoor
open Go.ChangeShapes Go.WideShapes Go.ChangeAt Go.RowKit Go.Deep

def nthL (xs : List Lp) (j : Nat) : Lp := xs.getD j ⟨[], []⟩
theorem nthL_eq {xs : List Lp} {j : Nat} (h : j < xs.length) : xs[j] = nthL xs j := by simp [nthL, List.getD_eq_getElem?_getD, h]
theorem nestFrom_at : (xs : List Lp) → (i : Nat) → nestFrom xs i = true → ∀ j (h : j < xs.length), sideOk xs[j].lo (i + j : Nat) = true ∧ sideOk xs[j].hi (i + j : Nat) = true
  | [], _, _, j, h => by simp at h
  | x :: xs, i, hv, j, h => by
    simp only [nestFrom, Bool.and_eq_true] at hv
    rcases j with _ | j
    · exact ⟨hv.1.1, hv.1.2⟩
    · have := nestFrom_at xs (i + 1) hv.2 j (by simpa using h)
      simpa [Nat.add_assoc, Nat.add_comm 1 j] using this
theorem sideOk_iff {xs : List Aff} {d : Int} (h : sideOk xs d = true) : 1 ≤ xs.length ∧ xs.length ≤ 2 ∧ ∀ a ∈ xs, affOk a = true ∧ (depF a.coefs : Int) ≤ d := by
  simp only [sideOk, Bool.and_eq_true, decide_eq_true_iff, Bool.not_eq_true', List.any_eq_false] at h
  refine ⟨h.1.1, h.1.2, fun a ha => ?_⟩
  have := h.2 a ha
  simp only [affBad, Bool.or_eq_true, Bool.not_eq_true', decide_eq_true_iff, not_or, Bool.not_eq_false] at this
  exact ⟨this.1, by omega⟩
theorem lpBd_of {xs : List Lp} {pt : List Int} (hv : NestValidF xs = true) (hp : ∀ a, affOk a = true → EvBd a pt) {j : Nat} (h : j < xs.length) : LpBd xs[j] pt := by
  simp only [NestValidF, Bool.and_eq_true, decide_eq_true_iff] at hv
  obtain ⟨h1, h2⟩ := nestFrom_at xs 0 hv.2 j h
  have a1 := sideOk_iff h1
  have a2 := sideOk_iff h2
  exact ⟨a1.1, a2.1, fun a ha => hp a (a1.2.2 a ha).1, fun a ha => hp a (a2.2.2 a ha).1⟩
theorem ptOk_take {p : List Int} (h : ptOk p = true) (j : Nat) : ptOk (p.take j) = true := by
  obtain ⟨h1, h2⟩ := ptOk_iff.1 h
  refine ptOk_iff.2 ⟨?_, fun x hx => h2 x (List.mem_of_mem_take hx)⟩
  rw [List.length_take]; omega

def LoopRangeF (xs : List Lp) (p : List Int) : Int × Int × Bool :=
  if NestValidF xs && (ptOk p && decide (p.length < xs.length)) then (loF (nthL xs p.length) p, hiF (nthL xs p.length) p, true) else (0, 0, false)
theorem LoopRangeF_1 {xs : List Lp} {p : List Int} (h : NestValidF xs = false) : LoopRangeF xs p = (0, 0, false) := by simp [LoopRangeF, h]
theorem LoopRangeF_2 {xs : List Lp} {p : List Int} (h : ptOk p = false) : LoopRangeF xs p = (0, 0, false) := by simp [LoopRangeF, h]
theorem LoopRangeF_3 {xs : List Lp} {p : List Int} (h : ¬ p.length < xs.length) : LoopRangeF xs p = (0, 0, false) := by simp [LoopRangeF, h]
theorem LoopRangeF_4 {xs : List Lp} {p : List Int} (h1 : NestValidF xs = true) (h2 : ptOk p = true) (h : p.length < xs.length) : LoopRangeF xs p = (loF (nthL xs p.length) p, hiF (nthL xs p.length) p, true) := by simp [LoopRangeF, h, h1, h2]

section
variable {w : World} {A B : Option Addr} {n m c d : Nat} {bs bs' : List Nat}
theorem Rep.ints_take {xs : List Int} (h : Rep w (ints xs) [.slice A n c] bs) {j : Nat} (hj : j ≤ xs.length) : ∃ bs', Rep w (ints (xs.take j)) [.slice A j c] bs' := by
  have hl := h.ints_len
  rcases Nat.eq_zero_or_pos j with h0 | h0
  · subst h0; exact ⟨[], Rep.ints_nil hl.2.2⟩
  · obtain ⟨b, o, rfl, rfl, hb, _⟩ := h.ints_at (k := 0) (by omega)
    have hlen : (xs.take j).length = j := by rw [List.length_take]; omega
    have := Rep.ints_mk (w := w) (xs := xs.take j) (b := b) (o := o) (c := c) (by omega) hl.2.2 (fun x hx => h.ints_fit x (List.mem_of_mem_take hx)) hb (fun k hk => by
      obtain ⟨b', o', e, _, _, h1, h2⟩ := h.ints_at (k := k) (by omega)
      simp only [Option.some.injEq, Addr.mk.injEq] at e
      obtain ⟨rfl, rfl, _⟩ := e
      have hg : gi (xs.take j) k = gi xs k := by rw [gi_eq hk, gi_eq (by omega)]; simp
      rw [hg]; exact ⟨h1, h2⟩)
    rw [hlen] at this
    exact ⟨_, this⟩

end
end Go.Proofs.YtbhniobgaoncaaaDoor
