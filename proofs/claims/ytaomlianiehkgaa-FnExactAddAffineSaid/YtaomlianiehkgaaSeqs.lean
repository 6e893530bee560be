/- Library functions on slices of integers: slices.IndexFunc, ContainsFunc, Equal, Compare; cmp.Compare. -/
import Derived.Test.YtaomlianiehkgaaInts
set_option linter.all false
set_option linter.unusedSimpArgs false
set_option linter.unusedVariables false
namespace Go.Proofs.Ytaomlianiehkgaa
open Go.ChangeShapes Go.WideShapes Go.ChangeAt Go.RowKit Go.Deep

/-- the first index from k on at which p holds, -1 if there is none -/
def idxI {α : Type} (p : α → Bool) : List α → Int → Int
  | [], _ => -1
  | x :: xs, k => if p x then k else idxI p xs (k + 1)
theorem idxI_drop {α : Type} (p : α → Bool) (xs : List α) (k : Nat) (hk : k < xs.length) : idxI p (xs.drop k) k = if p xs[k] then (k : Int) else idxI p (xs.drop (k + 1)) (k + 1 : Nat) := by
  rw [← List.getElem_cons_drop hk, idxI]; simp
theorem idxI_any {α : Type} (p : α → Bool) : (xs : List α) → (k : Int) → 0 ≤ k → (decide (0 ≤ idxI p xs k) = xs.any p)
  | [], k, _ => by simp [idxI]
  | x :: xs, k, h => by
    by_cases hp : p x = true
    · simp [idxI, hp, h]
    · simp only [idxI, if_neg hp, List.any_cons, idxI_any p xs (k + 1) (by omega)]
      simp at hp; simp [hp]

/-- two lists are alike, element by element -/
def allEq {α β : Type} (p : α → β → Bool) : List α → List β → Bool
  | [], [] => true
  | x :: xs, y :: ys => p x y && allEq p xs ys
  | _, _ => false
theorem allEq_drop {α β : Type} (p : α → β → Bool) (xs : List α) (ys : List β) (k : Nat) (hx : k < xs.length) (hy : k < ys.length) : allEq p (xs.drop k) (ys.drop k) = (p xs[k] ys[k] && allEq p (xs.drop (k + 1)) (ys.drop (k + 1))) := by
  rw [← List.getElem_cons_drop hx, ← List.getElem_cons_drop hy, allEq]
theorem allEq_ne {α β : Type} (p : α → β → Bool) : (xs : List α) → (ys : List β) → ¬ xs.length = ys.length → allEq p xs ys = false
  | [], [], h => absurd rfl h
  | [], _ :: _, _ => rfl
  | _ :: _, [], _ => rfl
  | x :: xs, y :: ys, h => by rw [allEq, allEq_ne p xs ys (by simpa using h), Bool.and_false]
/-- g is a function with a body: a call of the value enters it -/
def Enters (P : Program) (g : FuncId) : Prop := ∀ args W, (callFunc g args).run P W = .ok (.enter g args) W

section
variable {w : World} {xs ys : List Int} {A B : Option Addr} {n m c d : Nat} {bs bs' : List Nat}

set_option maxHeartbeats 400000 in
theorem IndexFunc_int_c {g : FuncId} {cap : Array Value} {p : Int → Bool} (h : Rep w (ints xs) [.slice A n c] bs)
    (hg : Enters Try.prog g) (hp : ∀ x W, I64 x → Calls Try.prog g (#[.int .i64 x] ++ cap) W fun e w' => e = .returned (.bool (p x)) ∧ W = w') :
    Calls Try.prog 76 #[.slice A n c, .func (.func g) #[] cap] w fun e w' => e = .returned (.int .i64 (idxI p xs 0)) ∧ w = w' := by
  obtain ⟨rfl, h2, h3⟩ := h.ints_len
  have hn : xs.length ≤ 9223372036854775807 := Nat.le_trans h2 h3
  clear h2 h3
  have HP := Lib.hid hp; clear hp
  unfold Enters at hg
  go_enter Try.func76, Try.ntmps76
  go_wp2
  go_loop [8] (fun i => ∃ j : Nat, j ≤ xs.length ∧ i = .int .i64 j ∧ idxI p xs 0 = idxI p (xs.drop j) j) (fun i => xs.length - (intOf i).toNat)
  case atStart => exact ⟨0, Nat.zero_le _, rfl, by simp⟩
  case round =>
    obtain ⟨j, hj, rfl, hi⟩ := hrel
    have HI := Lib.hid hi; clear hi
    by_cases hlt : j < xs.length
    · obtain ⟨b, o, rfl, _, _, hc, _⟩ := h.ints_at hlt
      have hfit := h.gi_fit j
      have hd := Lib.hid (idxI_drop p xs j hlt)
      rw [gi_eq hlt] at hc hfit
      go_wp2_with fail
      refine (HP.out _ _ hfit).mono ?_
      rintro e w' ⟨rfl, rfl⟩
      by_cases hpx : p xs[j] = true
      · have hd2 := Lib.hid (hd.out.trans (if_pos hpx))
        go_wp2
        go_ret
        exact ⟨ret_int (by rw [HI.out, hd2.out]), rfl⟩
      · have hd2 := Lib.hid (hd.out.trans (if_neg hpx))
        simp only [Bool.not_eq_true] at hpx
        go_wp2
        go_round
        case rel => exact ⟨j + 1, by omega, by go_num, by rw [HI.out, hd2.out]⟩
        case measure => simp [intOf]; omega
    · have hjj : j = xs.length := by omega
      subst hjj
      go_wp2
      go_ret
      exact ⟨ret_int (by rw [HI.out]; simp [idxI]), rfl⟩

theorem ContainsFunc_int_c {g : FuncId} {cap : Array Value} {p : Int → Bool} (h : Rep w (ints xs) [.slice A n c] bs)
    (hg : Enters Try.prog g) (hp : ∀ x W, I64 x → Calls Try.prog g (#[.int .i64 x] ++ cap) W fun e w' => e = .returned (.bool (p x)) ∧ W = w') :
    Calls Try.prog 44 #[.slice A n c, .func (.func g) #[] cap] w fun e w' => e = .returned (.bool (xs.any p)) ∧ w = w' := by
  have hx := Lib.hid (idxI_any p xs 0 (Int.le_refl _))
  have HH := Lib.hid h; clear h
  have HP := Lib.hid hp; clear hp
  go_enter Try.func44, Try.ntmps44
  go_wp2_with fail
  refine (IndexFunc_int_c HH.out hg HP.out).mono ?_
  rintro e w' ⟨rfl, rfl⟩
  go_wp2
  go_ret
  exact ⟨ret_bool hx.out, rfl⟩

end
end Go.Proofs.Ytaomlianiehkgaa
