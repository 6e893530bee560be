/- Points of nests: NestPoints of the program. -/
import Derived.Test.YtbhniobgaoncaaaDoorNestPoints
import Derived.Test.YtbhniobgaoncaaaDoorBasic
set_option linter.all false
set_option linter.unusedSimpArgs false
set_option linter.unusedVariables false
namespace Go.Proofs.YtbhniobgaoncaaaDoor
open Go.ChangeShapes Go.WideShapes Go.ChangeAt Go.RowKit Go.Deep


theorem catN_mem {α : Type} {f : Nat → List α} {x : α} : ∀ {m : Nat}, x ∈ catN f m → ∃ k, k < m ∧ x ∈ f k
  | 0, h => by simp [catN] at h
  | m + 1, h => by
    rw [catN] at h
    rcases List.mem_append.1 h with h | h
    · obtain ⟨k, hk, hx⟩ := catN_mem h
      exact ⟨k, by omega, hx⟩
    · exact ⟨m, by omega, h⟩
theorem pts_len : (ls : List Lp) → (p : List Int) → ∀ x ∈ ptsF ls p, x.length = p.length + ls.length
  | [], p, x, h => by rw [ptsF, List.mem_singleton] at h; rw [h]; rfl
  | l :: ls, p, x, h => by
    rw [ptsF] at h
    obtain ⟨k, _, hx⟩ := catN_mem h
    have h5 := pts_len ls _ x hx
    rw [List.length_append, List.length_singleton] at h5
    rw [h5, List.length_cons]; omega
theorem cntI_le {T : Nat} : (xs : List (List Int)) → (∀ x ∈ xs, x.length ≤ T) → cntL cntI xs ≤ xs.length * T
  | [], _ => by simp [cntL]
  | x :: xs, h => by
    have h1 := h x List.mem_cons_self
    have h2 := cntI_le xs fun y hy => h y (List.mem_cons_of_mem _ hy)
    simp only [cntL, cntI, List.length_cons, Nat.add_mul, Nat.one_mul] at h2 ⊢
    omega
theorem NestPointsF_len (xs : List Lp) : cntL cntI (NestPointsF xs).1 ≤ 1000000 := by
  unfold NestPointsF
  split
  · rename_i h
    simp only [Bool.and_eq_true, decide_eq_true_iff] at h
    have h4 := (nest_ok h.1).1
    have := cntI_le (T := 4) (ptsF xs []) fun x hx => by have h5 := pts_len xs [] x hx; simp only [List.length_nil] at h5; omega
    have := h.2.2
    show cntL cntI (ptsF xs []) ≤ 1000000
    omega
  · simp [cntL]
end Go.Proofs.YtbhniobgaoncaaaDoor
