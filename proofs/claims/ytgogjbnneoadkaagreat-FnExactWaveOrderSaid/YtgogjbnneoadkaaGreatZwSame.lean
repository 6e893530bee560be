/- AffineSame and LexLess: the reference's and the program's. -/
import Derived.Test.YtgogjbnneoadkaaGreatZwBasic
set_option linter.all false
set_option linter.unusedSimpArgs false
set_option linter.unusedVariables false
namespace Go.Proofs.YtgogjbnneoadkaaGreat
open Go.ChangeShapes Go.WideShapes Go.ChangeAt Go.RowKit Go.Deep

section
variable {w : World} {a b : Aff} {xs ys : List Int} {A B : Option Addr} {n m c d : Nat} {k k' : Int} {bs bs' : List Nat}

set_option maxHeartbeats 400000 in
theorem l1Ints_c (hA : Rep w (ints xs) [.slice A n c] bs) (hB : Rep w (ints ys) [.slice B m d] bs') :
    Calls Tryz.prog 109 #[.slice A n c, .slice B m d] w fun e w' => e = .returned (.bool (decide (xs = ys))) ∧ ∃ nq, w' = w.drewN nq := by
  obtain ⟨rfl, h1, h2⟩ := hA.ints_len
  obtain ⟨rfl, h3, h4⟩ := hB.ints_len
  have hn : xs.length ≤ 9223372036854775807 := Nat.le_trans h1 h2
  have hm : ys.length ≤ 9223372036854775807 := Nat.le_trans h3 h4
  clear h1 h2 h3 h4
  by_cases hl : xs.length = ys.length
  · have hl1 : ((xs.length : Int) != (ys.length : Int)) = false := by simp [hl]
    have HL := Lib.hid hl; clear hl
    go_enter Tryz.func109, Tryz.ntmps109
    go_wp2
    go_loopw [5] (fun i w' => ∃ k : Nat, k ≤ xs.length ∧ i = .int .i64 k ∧ xs.take k = ys.take k ∧ ∃ nq, w' = w.drewN nq) (fun i _ => xs.length - (intOf i).toNat)
    case atStart => exact ⟨0, Nat.zero_le _, rfl, rfl, 0, rfl⟩
    case round =>
      obtain ⟨k, hk, rfl, htake, nq, rfl⟩ := hrel
      have HT := Lib.hid htake; clear htake
      by_cases hlt : k < xs.length
      · obtain ⟨b, off, rfl, _, _, hc1, _⟩ := hA.ints_at hlt
        have hlt2 : k < ys.length := by rw [← HL.out]; exact hlt
        obtain ⟨b', off', rfl, _, _, hc2, _⟩ := hB.ints_at hlt2
        go_wp2
        go_quiet (fail)
        by_cases hq : gi xs k = gi ys k
        · have hq1 : (gi xs k != gi ys k) = false := by simp [hq]
          have HQ := Lib.hid hq; clear hq
          go_wp2
          go_roundw
          case rel => exact ⟨k + 1, by omega, by go_num, (take_eq_succ HT.out hlt hlt2).2 HQ.out, _, rfl⟩
          case measure => simp [intOf]; omega
        · have hq1 : (gi xs k != gi ys k) = true := by simp [hq]
          go_wp2
          go_ret
          exact ⟨ret_bool (by rw [eq_comm, decide_eq_false_iff_not]; intro h; subst h; exact hq rfl), _, World.drewN_drewN _ _ _⟩
      · go_wp2
        go_ret
        exact ⟨ret_bool (by rw [eq_comm, decide_eq_true_iff]; have := HT.out; rwa [List.take_of_length_le (by omega), List.take_of_length_le (by have := HL.out; omega)] at this), _, rfl⟩
  · have hl1 : ((xs.length : Int) != (ys.length : Int)) = true := by simp; omega
    go_enter Tryz.func109, Tryz.ntmps109
    go_wp2
    go_ret
    exact ⟨ret_bool (by rw [eq_comm, decide_eq_false_iff_not]; intro h; subst h; exact hl rfl), 0, rfl⟩

end
end Go.Proofs.YtgogjbnneoadkaaGreat
