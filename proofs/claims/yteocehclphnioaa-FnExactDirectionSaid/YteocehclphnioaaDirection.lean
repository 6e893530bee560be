/- Direction: the reference's and the program's walks, and the law's. -/
import Derived.Test.YteocehclphnioaaLaw
import Derived.Test.YteocehclphnioaaSeqs
namespace Go.Proofs.Yteocehclphnioaa
open Go.ChangeShapes Go.WideShapes Go.ChangeAt Go.RowKit Go.Deep

def dirB (x : Int) : ByteArray := if 0 < x then ⟨#[60]⟩ else if x < 0 then ⟨#[62]⟩ else ⟨#[61]⟩
def dirF (xs : List Int) : ByteArray := xs.foldl (fun s x => s ++ dirB x) ⟨#[]⟩
def DirectionF (xs : List Int) : ByteArray := if xs.length ≤ 4 then dirF xs else ⟨#[]⟩
theorem dirF_take {xs : List Int} {k : Nat} (h : k < xs.length) : dirF (xs.take (k + 1)) = dirF (xs.take k) ++ dirB xs[k] := by
  rw [List.take_succ_eq_append_getElem h, dirF, List.foldl_append]; rfl
theorem dirB_pos {x : Int} (h : 0 < x) : dirB x = ⟨#[60]⟩ := if_pos h
theorem dirB_neg {x : Int} (h : x < 0) : dirB x = ⟨#[62]⟩ := by unfold dirB; rw [if_neg (by omega), if_pos h]
theorem dirB_zero {x : Int} (h : ¬ 0 < x) (h' : ¬ x < 0) : dirB x = ⟨#[61]⟩ := by unfold dirB; rw [if_neg h, if_neg h']
theorem dirF_size (xs : List Int) : ∀ k, k ≤ xs.length → (dirF (xs.take k)).size = k
  | 0, _ => rfl
  | k + 1, h => by
    rw [dirF_take (by omega), ByteArray.size_append, dirF_size xs k (by omega)]
    unfold dirB; split
    · rfl
    · split <;> rfl
theorem dirF_step {xs : List Int} {k : Nat} {s b : ByteArray} (h : k < xs.length) (hs : dirF (xs.take k) = s) (hb : dirB xs[k] = b) : s ++ b = dirF (xs.take (k + 1)) := by
  rw [dirF_take h, hs, hb]
theorem val_str {a b : ByteArray} (h : a = b) : Value.string a = Value.string b := by rw [h]

theorem ret_str {a b : ByteArray} (h : a = b) : Ending.returned (.string a) = .returned (.string b) := by rw [h]

section
variable {w : World} {xs : List Int} {A : Option Addr} {n c : Nat} {bs : List Nat}

set_option maxHeartbeats 400000 in
theorem implDirection_c (h : Rep w (ints xs) [.slice A n c] bs) :
    Calls Try.prog 20 #[.slice A n c] w fun e w' => e = .returned (.string (DirectionF xs)) ∧ w = w' := by
  obtain ⟨rfl, h2, h3⟩ := h.ints_len
  have hn : xs.length ≤ 9223372036854775807 := Nat.le_trans h2 h3
  clear h2 h3
  by_cases hbig : 4 < xs.length
  · have hr := Lib.hid (show DirectionF xs = ⟨#[]⟩ from if_neg (by omega))
    go_enter Try.func20, Try.ntmps20
    go_wp2
    go_ret
    exact ⟨ret_str hr.out.symm, rfl⟩
  · have hr := Lib.hid (show DirectionF xs = dirF xs from if_pos (by omega))
    go_enter Try.func20, Try.ntmps20
    go_wp2
    go_loop [3, 11] (fun s i => ∃ j : Nat, j ≤ xs.length ∧ i = .int .i64 j ∧ s = .string (dirF (xs.take j))) (fun _ i => xs.length - (intOf i).toNat)
    case atStart => exact ⟨0, Nat.zero_le _, rfl, rfl⟩
    case round =>
      obtain ⟨j, hj, rfl, rfl⟩ := hrel
      have hsz := dirF_size xs j hj
      by_cases hlt : j < xs.length
      · obtain ⟨b, o, rfl, _, _, hc, _⟩ := h.ints_at hlt
        rw [gi_eq hlt] at hc
        obtain ⟨s, hs⟩ : ∃ s, dirF (xs.take j) = s := ⟨_, rfl⟩
        rw [hs] at hsz ⊢
        have HS := Lib.hid hs; clear hs
        have hsz4 : s.size ≤ 9 := by omega
        clear hsz
        have HP := fun (hh : 0 < xs[j]) => Lib.hid (val_str (dirF_step hlt HS.out (dirB_pos (x := xs[j]) hh)))
        have HG := fun (hh : xs[j] < 0) => Lib.hid (val_str (dirF_step hlt HS.out (dirB_neg (x := xs[j]) hh)))
        have HZ := fun (hh : ¬ 0 < xs[j]) (h' : ¬ xs[j] < 0) => Lib.hid (val_str (dirF_step hlt HS.out (dirB_zero (x := xs[j]) hh h')))
        by_cases h1 : 0 < xs[j]
        · have H1 := (HP h1); clear HP HG HZ
          go_wp2
          go_round
          case rel => exact ⟨j + 1, by omega, by go_num, H1.out⟩
          case measure => simp [intOf]; omega
        · by_cases h2 : xs[j] < 0
          · have H1 := (HG h2); clear HP HG HZ
            go_wp2
            go_round
            case rel => exact ⟨j + 1, by omega, by go_num, H1.out⟩
            case measure => simp [intOf]; omega
          · have H1 := (HZ h1 h2); clear HP HG HZ
            go_wp2
            go_round
            case rel => exact ⟨j + 1, by omega, by go_num, H1.out⟩
            case measure => simp [intOf]; omega
      · have hjj : j = xs.length := by omega
        subst hjj
        clear hsz
        go_wp2
        go_ret
        exact ⟨ret_str hr.out.symm, rfl⟩

set_option maxHeartbeats 400000 in
theorem specDirection_c (h : Rep w (ints xs) [.slice A n c] bs) :
    Calls Try.prog 19 #[.slice A n c] w fun e w' => e = .returned (.string (DirectionF xs)) ∧ w = w' := by
  obtain ⟨rfl, h2, h3⟩ := h.ints_len
  have hn : xs.length ≤ 9223372036854775807 := Nat.le_trans h2 h3
  clear h2 h3
  by_cases hbig : 4 < xs.length
  · have hr := Lib.hid (show DirectionF xs = ⟨#[]⟩ from if_neg (by omega))
    go_enter Try.func19, Try.ntmps19
    go_wp2
    go_loop [3, 4] (fun s i => s = .string ⟨#[]⟩ ∧ i = .int .i64 0) (fun _ i => 0)
    case atStart => exact ⟨rfl, rfl⟩
    case round =>
      obtain ⟨rfl, rfl⟩ := hrel
      go_wp2
      go_ret
      exact ⟨ret_str hr.out.symm, rfl⟩
  · have hr := Lib.hid (show DirectionF xs = dirF xs from if_pos (by omega))
    go_enter Try.func19, Try.ntmps19
    go_wp2
    go_loop [3, 4] (fun s i => ∃ j : Nat, j ≤ xs.length ∧ i = .int .i64 j ∧ s = .string (dirF (xs.take j))) (fun _ i => xs.length - (intOf i).toNat)
    case atStart => exact ⟨0, Nat.zero_le _, rfl, rfl⟩
    case round =>
      obtain ⟨j, hj, rfl, rfl⟩ := hrel
      have hsz := dirF_size xs j hj
      by_cases hlt : j < xs.length
      · obtain ⟨b, o, rfl, _, _, hc, _⟩ := h.ints_at hlt
        rw [gi_eq hlt] at hc
        obtain ⟨s, hs⟩ : ∃ s, dirF (xs.take j) = s := ⟨_, rfl⟩
        rw [hs] at hsz ⊢
        have HS := Lib.hid hs; clear hs
        have hsz4 : s.size ≤ 9 := by omega
        clear hsz
        have HP := fun (hh : 0 < xs[j]) => Lib.hid (val_str (dirF_step hlt HS.out (dirB_pos (x := xs[j]) hh)))
        have HG := fun (hh : xs[j] < 0) => Lib.hid (val_str (dirF_step hlt HS.out (dirB_neg (x := xs[j]) hh)))
        have HZ := fun (hh : ¬ 0 < xs[j]) (h' : ¬ xs[j] < 0) => Lib.hid (val_str (dirF_step hlt HS.out (dirB_zero (x := xs[j]) hh h')))
        by_cases h1 : 0 < xs[j]
        · have H1 := (HP h1); clear HP HG HZ
          go_wp2
          go_round
          case rel => exact ⟨j + 1, by omega, by go_num, H1.out⟩
          case measure => simp [intOf]; omega
        · by_cases h2 : xs[j] < 0
          · have H1 := (HG h2); clear HP HG HZ
            go_wp2
            go_round
            case rel => exact ⟨j + 1, by omega, by go_num, H1.out⟩
            case measure => simp [intOf]; omega
          · have H1 := (HZ h1 h2); clear HP HG HZ
            go_wp2
            go_round
            case rel => exact ⟨j + 1, by omega, by go_num, H1.out⟩
            case measure => simp [intOf]; omega
      · have hjj : j = xs.length := by omega
        subst hjj
        clear hsz
        go_wp2
        go_ret
        exact ⟨ret_str hr.out.symm, rfl⟩
end
end Go.Proofs.Yteocehclphnioaa
