/- Proved: for every list of integers, the program's CarryLevel returns what the reference's CarryLevel returns, and its argument reads afterwards as before (the law FnExactCarryLevel returns true). No conditions. -/
import Derived.Test.YteocehclphnioaaLaw
import Derived.Test.YteocehclphnioaaSeqs
namespace Go.Proofs.Yteocehclphnioaa
open Go.ChangeShapes Go.WideShapes Go.ChangeAt Go.RowKit Go.Deep

def neq0 (x : Int) : Bool := x != 0
def CarryLevelF (xs : List Int) : Int := idxI neq0 xs 0

section
variable {w : World} {xs : List Int} {A : Option Addr} {n c : Nat} {bs : List Nat}

theorem CarryLevel1_c (x : Int) (W : World) : Calls Try.prog 49 (#[.int .i64 x] ++ #[]) W fun e w' => e = .returned (.bool (neq0 x)) ∧ W = w' := by
  show Calls Try.prog 49 #[.int .i64 x] W _
  go_enter Try.func49, Try.ntmps49
  go_wp2
  go_ret
  exact ⟨ret_bool rfl, rfl⟩

theorem CarryLevel1_e : Enters Try.prog 49 := fun args W => by
  go_simp

theorem implCarryLevel_c (h : Rep w (ints xs) [.slice A n c] bs) :
    Calls Try.prog 17 #[.slice A n c] w fun e w' => e = .returned (.int .i64 (CarryLevelF xs)) ∧ w = w' := by
  have HH := Lib.hid h; clear h
  go_enter Try.func17, Try.ntmps17
  go_wp2_with fail
  refine (IndexFunc_int_c HH.out CarryLevel1_e fun x W _ => CarryLevel1_c x W).mono ?_
  rintro e w' ⟨rfl, rfl⟩
  go_wp2
  go_ret
  exact ⟨ret_int rfl, rfl⟩

set_option maxHeartbeats 400000 in
theorem specCarryLevel_c (h : Rep w (ints xs) [.slice A n c] bs) :
    Calls Try.prog 15 #[.slice A n c] w fun e w' => e = .returned (.int .i64 (CarryLevelF xs)) ∧ w = w' := by
  obtain ⟨rfl, h2, h3⟩ := h.ints_len
  have hn : xs.length ≤ 9223372036854775807 := Nat.le_trans h2 h3
  clear h2 h3
  go_enter Try.func15, Try.ntmps15
  go_wp2
  go_loop [3] (fun i => ∃ j : Nat, j ≤ xs.length ∧ i = .int .i64 j ∧ CarryLevelF xs = idxI neq0 (xs.drop j) j) (fun i => xs.length - (intOf i).toNat)
  case atStart => exact ⟨0, Nat.zero_le _, rfl, by simp [CarryLevelF]⟩
  case round =>
    obtain ⟨j, hj, rfl, hi⟩ := hrel
    have HI := Lib.hid hi; clear hi
    by_cases hlt : j < xs.length
    · obtain ⟨b, o, rfl, _, _, hc, _⟩ := h.ints_at hlt
      have hd := Lib.hid (idxI_drop neq0 xs j hlt)
      rw [gi_eq hlt] at hc
      cases hpx : (xs[j] != 0) with
      | true =>
        have hd2 := Lib.hid (hd.out.trans (if_pos hpx))
        go_wp2
        go_ret
        exact ⟨ret_int (by rw [HI.out, hd2.out]), rfl⟩
      | false =>
        have hd2 := Lib.hid (hd.out.trans (if_neg (show ¬ neq0 xs[j] = true by simp [neq0, hpx])))
        go_wp2
        go_round
        case rel => exact ⟨j + 1, by omega, by go_num, by rw [HI.out, hd2.out]⟩
        case measure => simp [intOf]; omega
    · have hjj : j = xs.length := by omega
      subst hjj
      go_wp2
      go_ret
      exact ⟨ret_int (by rw [HI.out]; simp [idxI]), rfl⟩

set_option maxHeartbeats 400000 in
theorem FnExactCarryLevel_walk (h : Rep w (ints xs) [.slice A n c] bs) :
    Calls Try.prog 4 #[.slice A n c] w fun e w' => e = .returned (.bool true) ∧ Below w.heap.size w w' := by
  obtain ⟨hn, h2, h3⟩ := h.ints_len
  have hm : n ≤ 9223372036854775807 := Nat.le_trans h2 h3
  clear h2 h3
  have HN := Lib.hid hn; clear hn
  by_cases hbig : 1048576 < n
  · go_enter Try.func4, Try.ntmps4
    go_wp2
    go_ret
    exact ⟨rfl, Below.refl _ _⟩
  · have HB := Lib.hid (show n ≤ 10000000 by omega)
    have hq : (CarryLevelF xs != CarryLevelF xs) = false := by simp
    go_enter Try.func4, Try.ntmps4
    go_wp2_with fail
    refine (toIntS_c h HB.out).mono ?_
    rintro e w1 ⟨rfl, r1, b1⟩
    have R1 := h.below b1
    go_wp2_with fail
    refine (specCarryLevel_c r1).mono ?_
    rintro e w2 ⟨rfl, rfl⟩
    go_wp2_with fail
    refine (toIntS_c R1 HB.out).mono ?_
    rintro e w2 ⟨rfl, r2, b2⟩
    have R2 := R1.below b2
    go_wp2_with fail
    refine (implCarryLevel_c r2).mono ?_
    rintro e w3 ⟨rfl, rfl⟩
    go_wp2_with fail
    refine (toIntS_c R2 HB.out).mono ?_
    rintro e w3 ⟨rfl, r3, b3⟩
    go_wp2_with fail
    refine (eqIntS_c (r2.below b3) r3).mono ?_
    rintro e w4 ⟨rfl, nq, rfl⟩
    go_wp2
    go_ret
    exact ⟨rfl, below_drewN (below_tr (below_tr b1 b2) b3) _⟩
end

end Go.Proofs.Yteocehclphnioaa
