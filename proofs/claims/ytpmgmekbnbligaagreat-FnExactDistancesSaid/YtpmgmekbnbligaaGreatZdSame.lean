/- AffineSame and LexLess: the reference's and the program's. -/
import Derived.Test.YtpmgmekbnbligaaGreatZdBasic
set_option linter.all false
set_option linter.unusedSimpArgs false
set_option linter.unusedVariables false
namespace Go.Proofs.YtpmgmekbnbligaaGreat
open Go.ChangeShapes Go.WideShapes Go.ChangeAt Go.RowKit Go.Deep

/-- the order of two numbers: -1, 0, 1 -/
def cmpI (x y : Int) : Int := if x < y then -1 else if y < x then 1 else 0
/-- the order of two lists -/
def cmpL : List Int → List Int → Int
  | [], [] => 0
  | [], _ :: _ => -1
  | _ :: _, [] => 1
  | x :: xs, y :: ys => if cmpI x y = 0 then cmpL xs ys else cmpI x y
def LexLessF (xs ys : List Int) : Bool := decide (cmpL xs ys < 0)

section
variable {w : World} {a b : Aff} {xs ys : List Int} {A B : Option Addr} {n m c d : Nat} {k k' : Int} {bs bs' : List Nat}

set_option maxHeartbeats 400000 in
theorem l1Ints_c (hA : Rep w (ints xs) [.slice A n c] bs) (hB : Rep w (ints ys) [.slice B m d] bs') :
    Calls Tryz.prog 84 #[.slice A n c, .slice B m d] w fun e w' => e = .returned (.bool (decide (xs = ys))) ∧ ∃ nq, w' = w.drewN nq := by
  obtain ⟨rfl, h1, h2⟩ := hA.ints_len
  obtain ⟨rfl, h3, h4⟩ := hB.ints_len
  have hn : xs.length ≤ 9223372036854775807 := Nat.le_trans h1 h2
  have hm : ys.length ≤ 9223372036854775807 := Nat.le_trans h3 h4
  clear h1 h2 h3 h4
  by_cases hl : xs.length = ys.length
  · have hl1 : ((xs.length : Int) != (ys.length : Int)) = false := by simp [hl]
    have HL := Lib.hid hl; clear hl
    go_enter Tryz.func84, Tryz.ntmps84
    go_wp2
    go_loopw [5] (fun i w' => ∃ k : Nat, k ≤ xs.length ∧ i = .int .i64 k ∧ xs.take k = ys.take k ∧ ∃ nq, w' = w.drewN nq) (fun i _ => xs.length - (intOf i).toNat)
    case atStart => exact ⟨0, Nat.zero_le _, rfl, rfl, 0, rfl⟩
    case round =>
      obtain ⟨k, hk, rfl, htake, nq, rfl⟩ := hrel
      have HT := Lib.hid htake; clear htake
      by_cases hlt : k < xs.length
      · obtain ⟨b, off, rfl, _, _, hc1, _⟩ := hA.ints_at hlt
        have hlt2 : k < ys.length := by rw [← HL.out]; exact hlt
        obtain ⟨b', off', rfl, _, _, hc2, _⟩ := hB.ints_at hlt2
        go_wp2
        go_quiet (fail)
        by_cases hq : gi xs k = gi ys k
        · have hq1 : (gi xs k != gi ys k) = false := by simp [hq]
          have HQ := Lib.hid hq; clear hq
          go_wp2
          go_roundw
          case rel => exact ⟨k + 1, by omega, by go_num, (take_eq_succ HT.out hlt hlt2).2 HQ.out, _, rfl⟩
          case measure => simp [intOf]; omega
        · have hq1 : (gi xs k != gi ys k) = true := by simp [hq]
          go_wp2
          go_ret
          exact ⟨ret_bool (by rw [eq_comm, decide_eq_false_iff_not]; intro h; subst h; exact hq rfl), _, World.drewN_drewN _ _ _⟩
      · go_wp2
        go_ret
        exact ⟨ret_bool (by rw [eq_comm, decide_eq_true_iff]; have := HT.out; rwa [List.take_of_length_le (by omega), List.take_of_length_le (by have := HL.out; omega)] at this), _, rfl⟩
  · have hl1 : ((xs.length : Int) != (ys.length : Int)) = true := by simp; omega
    go_enter Tryz.func84, Tryz.ntmps84
    go_wp2
    go_ret
    exact ⟨ret_bool (by rw [eq_comm, decide_eq_false_iff_not]; intro h; subst h; exact hl rfl), 0, rfl⟩

theorem isNaN_int_c (x : Int) (w : World) : Calls Tryz.prog 142 #[.int .i64 x] w fun e w' => e = .returned (.bool false) ∧ w = w' := by
  go_enter Tryz.func142, Tryz.ntmps142
  go_wp2
  go_ret
  exact ⟨ret_bool (by simp), rfl⟩

theorem Compare_c (x y : Int) (w : World) : Calls Tryz.prog 100 #[.int .i64 x, .int .i64 y] w fun e w' => e = .returned (.int .i64 (cmpI x y)) ∧ w = w' := by
  by_cases h1 : x < y
  · have HF := Lib.hid (show cmpI x y = -1 from if_pos h1)
    go_enter Tryz.func100, Tryz.ntmps100
    go_wp2_with fail
    refine (isNaN_int_c _ _).mono ?_
    rintro e w1 ⟨rfl, rfl⟩
    go_wp2_with fail
    refine (isNaN_int_c _ _).mono ?_
    rintro e w1 ⟨rfl, rfl⟩
    go_wp2
    go_ret
    exact ⟨ret_int HF.out.symm, rfl⟩
  · by_cases h2 : y < x
    · have HF := Lib.hid (show cmpI x y = 1 by unfold cmpI; rw [if_neg h1, if_pos h2])
      go_enter Tryz.func100, Tryz.ntmps100
      go_wp2_with fail
      refine (isNaN_int_c _ _).mono ?_
      rintro e w1 ⟨rfl, rfl⟩
      go_wp2_with fail
      refine (isNaN_int_c _ _).mono ?_
      rintro e w1 ⟨rfl, rfl⟩
      go_wp2
      go_ret
      exact ⟨ret_int HF.out.symm, rfl⟩
    · have HF := Lib.hid (show cmpI x y = 0 by unfold cmpI; rw [if_neg h1, if_neg h2])
      go_enter Tryz.func100, Tryz.ntmps100
      go_wp2_with fail
      refine (isNaN_int_c _ _).mono ?_
      rintro e w1 ⟨rfl, rfl⟩
      go_wp2_with fail
      refine (isNaN_int_c _ _).mono ?_
      rintro e w1 ⟨rfl, rfl⟩
      go_wp2
      go_ret
      exact ⟨ret_int HF.out.symm, rfl⟩

theorem cmpL_at {j : Nat} (h1 : j < xs.length) (h2 : j < ys.length) : cmpL (xs.drop j) (ys.drop j) = if cmpI xs[j] ys[j] = 0 then cmpL (xs.drop (j + 1)) (ys.drop (j + 1)) else cmpI xs[j] ys[j] := by
  rw [← List.getElem_cons_drop h1, ← List.getElem_cons_drop h2, cmpL]
theorem cmpL_long {j : Nat} (h1 : j < xs.length) (h2 : ys.length ≤ j) : cmpL (xs.drop j) (ys.drop j) = 1 := by
  rw [← List.getElem_cons_drop h1, List.drop_eq_nil_of_le h2, cmpL]
theorem cmpL_short {j : Nat} (h1 : xs.length ≤ j) (h2 : j < ys.length) : cmpL (xs.drop j) (ys.drop j) = -1 := by
  rw [← List.getElem_cons_drop h2, List.drop_eq_nil_of_le h1, cmpL]
theorem cmpL_end {j : Nat} (h1 : xs.length ≤ j) (h2 : ys.length ≤ j) : cmpL (xs.drop j) (ys.drop j) = 0 := by
  rw [List.drop_eq_nil_of_le h1, List.drop_eq_nil_of_le h2, cmpL]

set_option maxHeartbeats 400000 in
theorem CompareL_c (hA : Rep w (ints xs) [.slice A n c] bs) (hB : Rep w (ints ys) [.slice B m d] bs') :
    Calls Tryz.prog 62 #[.slice A n c, .slice B m d] w fun e w' => e = .returned (.int .i64 (cmpL xs ys)) ∧ w = w' := by
  obtain ⟨rfl, h1, h2⟩ := hA.ints_len
  obtain ⟨rfl, h3, h4⟩ := hB.ints_len
  have hn : xs.length ≤ 9223372036854775807 := Nat.le_trans h1 h2
  have hm : ys.length ≤ 9223372036854775807 := Nat.le_trans h3 h4
  clear h1 h2 h3 h4
  go_enter Tryz.func62, Tryz.ntmps62
  go_wp2
  go_loop [5, 6, 7, 8, 11] (fun _ _ _ _ i => ∃ j : Nat, j ≤ xs.length ∧ j ≤ ys.length ∧ i = .int .i64 j ∧ cmpL xs ys = cmpL (xs.drop j) (ys.drop j)) (fun _ _ _ _ i => xs.length - (intOf i).toNat)
  case atStart => exact ⟨0, Nat.zero_le _, Nat.zero_le _, rfl, rfl⟩
  case round =>
    obtain ⟨j, hj, hj2, rfl, hd⟩ := hrel
    have HD := Lib.hid hd; clear hd
    by_cases hlt : j < xs.length
    · obtain ⟨b, off, rfl, _, _, hc1, _⟩ := hA.ints_at hlt
      rw [gi_eq hlt] at hc1
      by_cases hlt2 : j < ys.length
      · obtain ⟨b', off', rfl, _, _, hc2, _⟩ := hB.ints_at hlt2
        rw [gi_eq hlt2] at hc2
        have HS := Lib.hid (cmpL_at hlt hlt2)
        go_wp2_with fail
        refine (Compare_c _ _ _).mono ?_
        rintro e w1 ⟨rfl, rfl⟩
        by_cases hq : cmpI xs[j] ys[j] = 0
        · have hq1 : (cmpI xs[j] ys[j] != 0) = false := by simp [hq]
          have HE := Lib.hid (HD.out.trans (HS.out.trans (if_pos hq)))
          clear hq
          go_wp2
          go_round
          case rel => exact ⟨j + 1, by omega, by omega, by go_num, HE.out⟩
          case measure => simp [intOf]; omega
        · have hq1 : (cmpI xs[j] ys[j] != 0) = true := by simp [hq]
          have HE := Lib.hid (HD.out.trans (HS.out.trans (if_neg hq)))
          clear hq
          go_wp2
          go_ret
          exact ⟨ret_int HE.out.symm, rfl⟩
      · have HE := Lib.hid (HD.out.trans (cmpL_long hlt (by omega)))
        go_wp2
        go_ret
        exact ⟨ret_int HE.out.symm, rfl⟩
    · have hjj : j = xs.length := by omega
      subst hjj
      by_cases hlt2 : xs.length < ys.length
      · have HE := Lib.hid (HD.out.trans (cmpL_short (Nat.le_refl _) hlt2))
        go_wp2
        go_ret
        exact ⟨ret_int HE.out.symm, rfl⟩
      · have HE := Lib.hid (HD.out.trans (cmpL_end (Nat.le_refl _) (by omega)))
        go_wp2
        go_ret
        exact ⟨ret_int HE.out.symm, rfl⟩

theorem cmpI_ne {x y : Int} (h : ¬ x = y) : ¬ cmpI x y = 0 ∧ (cmpI x y < 0 ↔ x < y) := by
  unfold cmpI
  by_cases h1 : x < y
  · rw [if_pos h1]; omega
  · rw [if_neg h1, if_pos (by omega)]; omega
theorem cmpI_eq {x y : Int} (h : x = y) : cmpI x y = 0 := by unfold cmpI; rw [if_neg (by omega), if_neg (by omega)]

set_option maxHeartbeats 400000 in
theorem specLexLess_c (hA : Rep w (ints xs) [.slice A n c] bs) (hB : Rep w (ints ys) [.slice B m d] bs') :
    Calls Tryz.prog 85 #[.slice A n c, .slice B m d] w fun e w' => e = .returned (.bool (LexLessF xs ys)) ∧ ∃ nq, w' = w.drewN nq := by
  obtain ⟨rfl, h1, h2⟩ := hA.ints_len
  obtain ⟨rfl, h3, h4⟩ := hB.ints_len
  have hn : xs.length ≤ 9223372036854775807 := Nat.le_trans h1 h2
  have hm : ys.length ≤ 9223372036854775807 := Nat.le_trans h3 h4
  clear h1 h2 h3 h4
  go_enter Tryz.func85, Tryz.ntmps85
  go_wp2
  go_loopw [5] (fun i w' => ∃ j : Nat, j ≤ xs.length ∧ j ≤ ys.length ∧ i = .int .i64 j ∧ cmpL xs ys = cmpL (xs.drop j) (ys.drop j) ∧ ∃ nq, w' = w.drewN nq) (fun i _ => xs.length - (intOf i).toNat)
  case atStart => exact ⟨0, Nat.zero_le _, Nat.zero_le _, rfl, rfl, 0, rfl⟩
  case round =>
    obtain ⟨j, hj, hj2, rfl, hd, nq, rfl⟩ := hrel
    have HD := Lib.hid hd; clear hd
    by_cases hlt : j < xs.length
    · obtain ⟨b, off, rfl, _, _, hc1, _⟩ := hA.ints_at hlt
      rw [gi_eq hlt] at hc1
      by_cases hlt2 : j < ys.length
      · obtain ⟨b', off', rfl, _, _, hc2, _⟩ := hB.ints_at hlt2
        rw [gi_eq hlt2] at hc2
        have HS := Lib.hid (cmpL_at hlt hlt2)
        by_cases hq : xs[j] = ys[j]
        · have hq1 : (xs[j] != ys[j]) = false := by simp [hq]
          have HE := Lib.hid (HD.out.trans (HS.out.trans (if_pos (cmpI_eq hq))))
          clear hq
          go_wp2
          go_quiet (fail)
          go_wp2
          go_roundw
          case rel => exact ⟨j + 1, by omega, by omega, by go_num, HE.out, _, rfl⟩
          case measure => simp [intOf]; omega
        · have hq1 : (xs[j] != ys[j]) = true := by simp [hq]
          have HE := Lib.hid (show LexLessF xs ys = decide (xs[j] < ys[j]) by
            rw [LexLessF, HD.out, HS.out, if_neg (cmpI_ne hq).1]
            simp only [(cmpI_ne hq).2])
          clear hq
          go_wp2
          go_quiet (fail)
          go_wp2
          go_quiet (fail)
          go_wp2
          go_ret
          exact ⟨ret_bool HE.out.symm, _, by rw [World.drewN_drewN, World.drewN_drewN]⟩
      · have HE := Lib.hid (show LexLessF xs ys = false by rw [LexLessF, HD.out, cmpL_long hlt (by omega)]; rfl)
        go_wp2
        go_ret
        exact ⟨ret_bool (by rw [HE.out, decide_eq_false_iff_not]; omega), _, rfl⟩
    · have hjj : j = xs.length := by omega
      subst hjj
      by_cases hlt2 : xs.length < ys.length
      · have HE := Lib.hid (show LexLessF xs ys = true by rw [LexLessF, HD.out, cmpL_short (Nat.le_refl _) hlt2]; rfl)
        go_wp2
        go_ret
        exact ⟨ret_bool HE.out.symm, _, rfl⟩
      · have HE := Lib.hid (show LexLessF xs ys = false by rw [LexLessF, HD.out, cmpL_end (Nat.le_refl _) (by omega)]; rfl)
        go_wp2
        go_ret
        exact ⟨ret_bool HE.out.symm, _, rfl⟩
end
end Go.Proofs.YtpmgmekbnbligaaGreat
