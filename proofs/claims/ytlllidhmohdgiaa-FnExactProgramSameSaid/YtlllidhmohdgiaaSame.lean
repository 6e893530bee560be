/- AffineSame and LexLess: the reference's and the program's. -/
import Derived.Test.YtlllidhmohdgiaaVar
set_option linter.all false
set_option linter.unusedSimpArgs false
set_option linter.unusedVariables false
namespace Go.Proofs.Ytlllidhmohdgiaa
open Go.ChangeShapes Go.WideShapes Go.ChangeAt Go.RowKit Go.Deep

/-- the order of two numbers: -1, 0, 1 -/
def cmpI (x y : Int) : Int := if x < y then -1 else if y < x then 1 else 0
/-- the order of two lists -/
def cmpL : List Int → List Int → Int
  | [], [] => 0
  | [], _ :: _ => -1
  | _ :: _, [] => 1
  | x :: xs, y :: ys => if cmpI x y = 0 then cmpL xs ys else cmpI x y
def LexLessF (xs ys : List Int) : Bool := decide (cmpL xs ys < 0)

section
variable {w : World} {a b : Aff} {xs ys : List Int} {A B : Option Addr} {n m c d : Nat} {k k' : Int} {bs bs' : List Nat}

set_option maxHeartbeats 400000 in
theorem l1Ints_c (hA : Rep w (ints xs) [.slice A n c] bs) (hB : Rep w (ints ys) [.slice B m d] bs') :
    Calls Try.prog 110 #[.slice A n c, .slice B m d] w fun e w' => e = .returned (.bool (decide (xs = ys))) ∧ ∃ nq, w' = w.drewN nq := by
  obtain ⟨rfl, h1, h2⟩ := hA.ints_len
  obtain ⟨rfl, h3, h4⟩ := hB.ints_len
  have hn : xs.length ≤ 9223372036854775807 := Nat.le_trans h1 h2
  have hm : ys.length ≤ 9223372036854775807 := Nat.le_trans h3 h4
  clear h1 h2 h3 h4
  by_cases hl : xs.length = ys.length
  · have hl1 : ((xs.length : Int) != (ys.length : Int)) = false := by simp [hl]
    have HL := Lib.hid hl; clear hl
    go_enter Try.func110, Try.ntmps110
    go_wp2
    go_loopw [5] (fun i w' => ∃ k : Nat, k ≤ xs.length ∧ i = .int .i64 k ∧ xs.take k = ys.take k ∧ ∃ nq, w' = w.drewN nq) (fun i _ => xs.length - (intOf i).toNat)
    case atStart => exact ⟨0, Nat.zero_le _, rfl, rfl, 0, rfl⟩
    case round =>
      obtain ⟨k, hk, rfl, htake, nq, rfl⟩ := hrel
      have HT := Lib.hid htake; clear htake
      by_cases hlt : k < xs.length
      · obtain ⟨b, off, rfl, _, _, hc1, _⟩ := hA.ints_at hlt
        have hlt2 : k < ys.length := by rw [← HL.out]; exact hlt
        obtain ⟨b', off', rfl, _, _, hc2, _⟩ := hB.ints_at hlt2
        go_wp2
        go_quiet (fail)
        by_cases hq : gi xs k = gi ys k
        · have hq1 : (gi xs k != gi ys k) = false := by simp [hq]
          have HQ := Lib.hid hq; clear hq
          go_wp2
          go_roundw
          case rel => exact ⟨k + 1, by omega, by go_num, (take_eq_succ HT.out hlt hlt2).2 HQ.out, _, rfl⟩
          case measure => simp [intOf]; omega
        · have hq1 : (gi xs k != gi ys k) = true := by simp [hq]
          go_wp2
          go_ret
          exact ⟨ret_bool (by rw [eq_comm, decide_eq_false_iff_not]; intro h; subst h; exact hq rfl), _, World.drewN_drewN _ _ _⟩
      · go_wp2
        go_ret
        exact ⟨ret_bool (by rw [eq_comm, decide_eq_true_iff]; have := HT.out; rwa [List.take_of_length_le (by omega), List.take_of_length_le (by have := HL.out; omega)] at this), _, rfl⟩
  · have hl1 : ((xs.length : Int) != (ys.length : Int)) = true := by simp; omega
    go_enter Try.func110, Try.ntmps110
    go_wp2
    go_ret
    exact ⟨ret_bool (by rw [eq_comm, decide_eq_false_iff_not]; intro h; subst h; exact hl rfl), 0, rfl⟩

theorem specAffineSame_c (h : Rep w a.d [.slice A n c, .int .i64 k] bs) (h' : Rep w b.d [.slice B m d, .int .i64 k'] bs') :
    Calls Try.prog 130 #[.agg #[.slice A n c, .int .i64 k], .agg #[.slice B m d, .int .i64 k']] w fun e w' => e = .returned (.bool (affSame a b)) ∧ Below w.heap.size w w' := by
  obtain ⟨rfl, h1, _⟩ := h.aff
  obtain ⟨rfl, h2, _⟩ := h'.aff
  have HH := Lib.hid (And.intro h1 h2); clear h1 h2 h h'
  by_cases hq : a.const = b.const
  · have hq1 : (a.const == b.const) = true := by simp [hq]
    have HF := Lib.hid (show affSame a b = decide (a.coefs = b.coefs) by simp [affSame, hq])
    clear hq
    go_enter Try.func130, Try.ntmps130
    go_wp2_with fail
    refine (l1Ints_c (HH.out.1.below (by repeat (first | with_reducible exact Below.refl _ _ | refine Below.setCell ?_ (by simp; try omega) _ | refine below_al ?_ _ | refine Below.alloc ?_ (by simp [World.setCell]; try omega) _ | refine below_drewN ?_ _ | refine Below.drew ?_ | refine below_tr ?_ ‹Below _ _ _›))) (HH.out.2.below (by repeat (first | with_reducible exact Below.refl _ _ | refine Below.setCell ?_ (by simp; try omega) _ | refine below_al ?_ _ | refine Below.alloc ?_ (by simp [World.setCell]; try omega) _ | refine below_drewN ?_ _ | refine Below.drew ?_ | refine below_tr ?_ ‹Below _ _ _›)))).mono ?_
    rintro e w1 ⟨rfl, nq, rfl⟩
    go_wp2
    go_ret
    exact ⟨ret_bool HF.out.symm, (by repeat (first | with_reducible exact Below.refl _ _ | refine Below.setCell ?_ (by simp; try omega) _ | refine below_al ?_ _ | refine Below.alloc ?_ (by simp [World.setCell]; try omega) _ | refine below_drewN ?_ _ | refine Below.drew ?_ | refine below_tr ?_ ‹Below _ _ _›))⟩
  · have hq1 : (a.const == b.const) = false := by simp [hq]
    have HF := Lib.hid (show affSame a b = false by simp [affSame, hq])
    clear hq
    go_enter Try.func130, Try.ntmps130
    go_wp2
    go_ret
    exact ⟨ret_bool HF.out.symm, (by repeat (first | with_reducible exact Below.refl _ _ | refine Below.setCell ?_ (by simp; try omega) _ | refine below_al ?_ _ | refine Below.alloc ?_ (by simp [World.setCell]; try omega) _ | refine below_drewN ?_ _ | refine Below.drew ?_ | refine below_tr ?_ ‹Below _ _ _›))⟩

theorem implAffineSame_c (h : Rep w a.d [.slice A n c, .int .i64 k] bs) (h' : Rep w b.d [.slice B m d, .int .i64 k'] bs') :
    Calls Try.prog 72 #[.agg #[.slice A n c, .int .i64 k], .agg #[.slice B m d, .int .i64 k']] w fun e w' => e = .returned (.bool (affSame a b)) ∧ Below w.heap.size w w' := by
  obtain ⟨rfl, h1, _⟩ := h.aff
  obtain ⟨rfl, h2, _⟩ := h'.aff
  have HH := Lib.hid (And.intro h1 h2); clear h1 h2 h h'
  by_cases hc : a.coefs = b.coefs
  · have HD := Lib.hid (show decide (a.coefs = b.coefs) = true by simp [hc])
    have HF := Lib.hid (show affSame a b = (a.const == b.const) by simp only [affSame, hc]; simp; rfl)
    clear hc
    go_enter Try.func72, Try.ntmps72
    go_wp2_with fail
    refine (Equal_int_c (HH.out.1.below (by repeat (first | with_reducible exact Below.refl _ _ | refine Below.setCell ?_ (by simp; try omega) _ | refine below_al ?_ _ | refine Below.alloc ?_ (by simp [World.setCell]; try omega) _ | refine below_drewN ?_ _ | refine Below.drew ?_ | refine below_tr ?_ ‹Below _ _ _›))) (HH.out.2.below (by repeat (first | with_reducible exact Below.refl _ _ | refine Below.setCell ?_ (by simp; try omega) _ | refine below_al ?_ _ | refine Below.alloc ?_ (by simp [World.setCell]; try omega) _ | refine below_drewN ?_ _ | refine Below.drew ?_ | refine below_tr ?_ ‹Below _ _ _›)))).mono ?_
    rintro e w1 ⟨rfl, nq, rfl⟩
    rw [HD.out]
    go_wp2
    go_ret
    exact ⟨ret_bool HF.out.symm, (by repeat (first | with_reducible exact Below.refl _ _ | refine Below.setCell ?_ (by simp; try omega) _ | refine below_al ?_ _ | refine Below.alloc ?_ (by simp [World.setCell]; try omega) _ | refine below_drewN ?_ _ | refine Below.drew ?_ | refine below_tr ?_ ‹Below _ _ _›))⟩
  · have HD := Lib.hid (show decide (a.coefs = b.coefs) = false by simp [hc])
    have HF := Lib.hid (show affSame a b = false by simp [affSame, hc])
    clear hc
    go_enter Try.func72, Try.ntmps72
    go_wp2_with fail
    refine (Equal_int_c (HH.out.1.below (by repeat (first | with_reducible exact Below.refl _ _ | refine Below.setCell ?_ (by simp; try omega) _ | refine below_al ?_ _ | refine Below.alloc ?_ (by simp [World.setCell]; try omega) _ | refine below_drewN ?_ _ | refine Below.drew ?_ | refine below_tr ?_ ‹Below _ _ _›))) (HH.out.2.below (by repeat (first | with_reducible exact Below.refl _ _ | refine Below.setCell ?_ (by simp; try omega) _ | refine below_al ?_ _ | refine Below.alloc ?_ (by simp [World.setCell]; try omega) _ | refine below_drewN ?_ _ | refine Below.drew ?_ | refine below_tr ?_ ‹Below _ _ _›)))).mono ?_
    rintro e w1 ⟨rfl, nq, rfl⟩
    rw [HD.out]
    go_wp2
    go_ret
    exact ⟨ret_bool HF.out.symm, (by repeat (first | with_reducible exact Below.refl _ _ | refine Below.setCell ?_ (by simp; try omega) _ | refine below_al ?_ _ | refine Below.alloc ?_ (by simp [World.setCell]; try omega) _ | refine below_drewN ?_ _ | refine Below.drew ?_ | refine below_tr ?_ ‹Below _ _ _›))⟩

theorem cmpL_at {j : Nat} (h1 : j < xs.length) (h2 : j < ys.length) : cmpL (xs.drop j) (ys.drop j) = if cmpI xs[j] ys[j] = 0 then cmpL (xs.drop (j + 1)) (ys.drop (j + 1)) else cmpI xs[j] ys[j] := by
  rw [← List.getElem_cons_drop h1, ← List.getElem_cons_drop h2, cmpL]
theorem cmpL_long {j : Nat} (h1 : j < xs.length) (h2 : ys.length ≤ j) : cmpL (xs.drop j) (ys.drop j) = 1 := by
  rw [← List.getElem_cons_drop h1, List.drop_eq_nil_of_le h2, cmpL]
theorem cmpL_short {j : Nat} (h1 : xs.length ≤ j) (h2 : j < ys.length) : cmpL (xs.drop j) (ys.drop j) = -1 := by
  rw [← List.getElem_cons_drop h2, List.drop_eq_nil_of_le h1, cmpL]
theorem cmpL_end {j : Nat} (h1 : xs.length ≤ j) (h2 : ys.length ≤ j) : cmpL (xs.drop j) (ys.drop j) = 0 := by
  rw [List.drop_eq_nil_of_le h1, List.drop_eq_nil_of_le h2, cmpL]

theorem cmpI_ne {x y : Int} (h : ¬ x = y) : ¬ cmpI x y = 0 ∧ (cmpI x y < 0 ↔ x < y) := by
  unfold cmpI
  by_cases h1 : x < y
  · rw [if_pos h1]; omega
  · rw [if_neg h1, if_pos (by omega)]; omega
theorem cmpI_eq {x y : Int} (h : x = y) : cmpI x y = 0 := by unfold cmpI; rw [if_neg (by omega), if_neg (by omega)]

end
end Go.Proofs.Ytlllidhmohdgiaa
