/- Library functions on slices of Access: slices.IndexFunc, ContainsFunc, EqualFunc. Printed by tygen.py. -/
import Derived.Test.YtbhniobgaoncaaaGreatDoorZpTyAccess
import Derived.Test.YtbhniobgaoncaaaGreatDoorZpCore
set_option linter.all false
set_option linter.unusedSimpArgs false
set_option linter.unusedVariables false
namespace Go.Proofs.YtbhniobgaoncaaaGreatDoor
open Go.ChangeShapes Go.WideShapes Go.ChangeAt Go.RowKit Go.Deep

set_option maxHeartbeats 1000000 in
theorem IndexFunc_Access_c {w : World} {xs : List Acc} {A : Option Addr} {n c : Nat} {bs : List Nat} {g : FuncId} {cap : Array Value} {p : Acc → Bool} (h : Rep w (sls Acc.d xs) [.slice A n c] bs) (hg : Enters Tryz.prog g)
    (hp : ∀ x cs bs W, x ∈ xs → Below w.heap.size w W → Rep W (Acc.d x) cs bs → Calls Tryz.prog g (#[.agg cs.toArray] ++ cap) W fun e w' => e = .returned (.bool (p x)) ∧ Below W.heap.size W w') :
    Calls Tryz.prog 233 #[.slice A n c, .func (.func g) #[] cap] w fun e w' => e = .returned (.int .i64 (idxI p xs 0)) ∧ Below w.heap.size w w' := by
  obtain ⟨rfl, h2, h3⟩ := h.sls_len
  have hn : xs.length ≤ 9223372036854775807 := Nat.le_trans h2 h3
  clear h2 h3
  have H := Lib.hid h; clear h
  have HP := Lib.hid hp; clear hp
  unfold Enters at hg
  go_enter Tryz.func233, Tryz.ntmps233
  go_wp2
  go_loopw [8] (fun i wr => ∃ j : Nat, j ≤ xs.length ∧ i = .int .i64 j ∧ idxI p xs 0 = idxI p (xs.drop j) j ∧ Below w.heap.size w wr) (fun i _ => xs.length - (intOf i).toNat)
  case atStart => exact ⟨0, Nat.zero_le _, rfl, by simp, Below.refl _ _⟩
  case round =>
    obtain ⟨j, hj, rfl, hi, hb⟩ := hrel
    have HI := Lib.hid hi; clear hi
    by_cases hlt : j < xs.length
    · have hd := Lib.hid (idxI_drop p xs j hlt)
      obtain ⟨b, o, cs, l, rfl, hbl, hr, _, _, hc⟩ := (H.out.below hb).sls_at Acc.d_size (k := j) hlt
      have G := Lib.hid hr
      obtain ⟨A2, c2, d2, rfl, rfl, g1, g2⟩ := Rep.acc_iff.1 hr
      have k0 := (hc 0 _ rfl).1; rw [Nat.add_zero] at k0
      have k1 := (hc 1 _ rfl).1
      clear hc hr g1 g2
      go_wp2_with fail
      refine (HP.out _ _ _ _ (List.getElem_mem hlt) (by exact hb) G.out).mono ?_
      rintro e w1 ⟨rfl, b1⟩
      have S1 := below_tr hb b1
      by_cases hpx : p xs[j] = true
      · have hd2 := Lib.hid (hd.out.trans (if_pos hpx))
        have HX := Lib.hid hpx; clear hpx
        rw [HX.out]
        go_wp2
        go_ret
        exact ⟨ret_int (by rw [HI.out, hd2.out]), S1⟩
      · have hd2 := Lib.hid (hd.out.trans (if_neg hpx))
        simp only [Bool.not_eq_true] at hpx
        have HX := Lib.hid hpx; clear hpx
        rw [HX.out]
        go_wp2
        go_roundw
        case rel => exact ⟨j + 1, by omega, by go_num, by rw [HI.out, hd2.out], S1⟩
        case measure => simp [intOf]; omega
    · have hjj : j = xs.length := by omega
      subst hjj
      go_wp2
      go_ret
      exact ⟨ret_int (by rw [HI.out]; simp [idxI]), hb⟩

theorem ContainsFunc_Access_c {w : World} {xs : List Acc} {A : Option Addr} {n c : Nat} {bs : List Nat} {g : FuncId} {cap : Array Value} {p : Acc → Bool} (h : Rep w (sls Acc.d xs) [.slice A n c] bs) (hg : Enters Tryz.prog g)
    (hp : ∀ x cs bs W, x ∈ xs → Below w.heap.size w W → Rep W (Acc.d x) cs bs → Calls Tryz.prog g (#[.agg cs.toArray] ++ cap) W fun e w' => e = .returned (.bool (p x)) ∧ Below W.heap.size W w') :
    Calls Tryz.prog 182 #[.slice A n c, .func (.func g) #[] cap] w fun e w' => e = .returned (.bool (xs.any p)) ∧ Below w.heap.size w w' := by
  have hx := Lib.hid (idxI_any p xs 0 (Int.le_refl _))
  have HH := Lib.hid h; clear h
  have HP := Lib.hid hp; clear hp
  go_enter Tryz.func182, Tryz.ntmps182
  go_wp2_with fail
  refine (IndexFunc_Access_c HH.out hg HP.out).mono ?_
  rintro e w1 ⟨rfl, b1⟩
  go_wp2
  go_ret
  exact ⟨ret_bool hx.out, b1⟩

end Go.Proofs.YtbhniobgaoncaaaGreatDoor
