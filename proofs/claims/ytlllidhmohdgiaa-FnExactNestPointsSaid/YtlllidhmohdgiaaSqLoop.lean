/- Library functions on slices of Loop: slices.IndexFunc, ContainsFunc, EqualFunc. Printed by tygen.py. -/
import Derived.Test.YtlllidhmohdgiaaTyLoop
import Derived.Test.YtlllidhmohdgiaaSeqs
set_option linter.all false
set_option linter.unusedSimpArgs false
set_option linter.unusedVariables false
namespace Go.Proofs.Ytlllidhmohdgiaa
open Go.ChangeShapes Go.WideShapes Go.ChangeAt Go.RowKit Go.Deep

set_option maxHeartbeats 1000000 in
theorem IndexFunc_Loop_c {w : World} {xs : List Lp} {A : Option Addr} {n c : Nat} {bs : List Nat} {g : FuncId} {cap : Array Value} {p : Lp → Bool} (h : Rep w (sls Lp.d xs) [.slice A n c] bs) (hg : Enters Try.prog g)
    (hp : ∀ x cs bs W, x ∈ xs → Below w.heap.size w W → Rep W (Lp.d x) cs bs → Calls Try.prog g (#[.agg cs.toArray] ++ cap) W fun e w' => e = .returned (.bool (p x)) ∧ Below W.heap.size W w') :
    Calls Try.prog 136 #[.slice A n c, .func (.func g) #[] cap] w fun e w' => e = .returned (.int .i64 (idxI p xs 0)) ∧ Below w.heap.size w w' := by
  obtain ⟨rfl, h2, h3⟩ := h.sls_len
  have hn : xs.length ≤ 9223372036854775807 := Nat.le_trans h2 h3
  clear h2 h3
  have H := Lib.hid h; clear h
  have HP := Lib.hid hp; clear hp
  unfold Enters at hg
  go_enter Try.func136, Try.ntmps136
  go_wp2
  go_loopw [8] (fun i wr => ∃ j : Nat, j ≤ xs.length ∧ i = .int .i64 j ∧ idxI p xs 0 = idxI p (xs.drop j) j ∧ Below w.heap.size w wr) (fun i _ => xs.length - (intOf i).toNat)
  case atStart => exact ⟨0, Nat.zero_le _, rfl, by simp, Below.refl _ _⟩
  case round =>
    obtain ⟨j, hj, rfl, hi, hb⟩ := hrel
    have HI := Lib.hid hi; clear hi
    by_cases hlt : j < xs.length
    · have hd := Lib.hid (idxI_drop p xs j hlt)
      obtain ⟨b, o, cs, l, rfl, hbl, hr, _, _, hc⟩ := (H.out.below hb).sls_at Lp.d_size (k := j) hlt
      have G := Lib.hid hr
      obtain ⟨A1, c1, A2, c2, d1, d2, rfl, rfl, g1, g2⟩ := Rep.lp_iff.1 hr
      have k0 := (hc 0 _ rfl).1; rw [Nat.add_zero] at k0
      have k1 := (hc 1 _ rfl).1
      clear hc hr g1 g2
      go_wp2_with fail
      refine (HP.out _ _ _ _ (List.getElem_mem hlt) (by exact hb) G.out).mono ?_
      rintro e w1 ⟨rfl, b1⟩
      have S1 := below_tr hb b1
      by_cases hpx : p xs[j] = true
      · have hd2 := Lib.hid (hd.out.trans (if_pos hpx))
        have HX := Lib.hid hpx; clear hpx
        rw [HX.out]
        go_wp2
        go_ret
        exact ⟨ret_int (by rw [HI.out, hd2.out]), S1⟩
      · have hd2 := Lib.hid (hd.out.trans (if_neg hpx))
        simp only [Bool.not_eq_true] at hpx
        have HX := Lib.hid hpx; clear hpx
        rw [HX.out]
        go_wp2
        go_roundw
        case rel => exact ⟨j + 1, by omega, by go_num, by rw [HI.out, hd2.out], S1⟩
        case measure => simp [intOf]; omega
    · have hjj : j = xs.length := by omega
      subst hjj
      go_wp2
      go_ret
      exact ⟨ret_int (by rw [HI.out]; simp [idxI]), hb⟩

theorem ContainsFunc_Loop_c {w : World} {xs : List Lp} {A : Option Addr} {n c : Nat} {bs : List Nat} {g : FuncId} {cap : Array Value} {p : Lp → Bool} (h : Rep w (sls Lp.d xs) [.slice A n c] bs) (hg : Enters Try.prog g)
    (hp : ∀ x cs bs W, x ∈ xs → Below w.heap.size w W → Rep W (Lp.d x) cs bs → Calls Try.prog g (#[.agg cs.toArray] ++ cap) W fun e w' => e = .returned (.bool (p x)) ∧ Below W.heap.size W w') :
    Calls Try.prog 77 #[.slice A n c, .func (.func g) #[] cap] w fun e w' => e = .returned (.bool (xs.any p)) ∧ Below w.heap.size w w' := by
  have hx := Lib.hid (idxI_any p xs 0 (Int.le_refl _))
  have HH := Lib.hid h; clear h
  have HP := Lib.hid hp; clear hp
  go_enter Try.func77, Try.ntmps77
  go_wp2_with fail
  refine (IndexFunc_Loop_c HH.out hg HP.out).mono ?_
  rintro e w1 ⟨rfl, b1⟩
  go_wp2
  go_ret
  exact ⟨ret_bool hx.out, b1⟩

set_option maxHeartbeats 2000000 in
theorem EqualFunc_Loop_c {w : World} {xs ys : List Lp} {A B : Option Addr} {n c m d : Nat} {bs bs' : List Nat} {g : FuncId} {cap : Array Value} {p : Lp → Lp → Bool} (h : Rep w (sls Lp.d xs) [.slice A n c] bs) (h' : Rep w (sls Lp.d ys) [.slice B m d] bs') (hg : Enters Try.prog g)
    (hp : ∀ x y cs bs cs' bs' W, x ∈ xs → y ∈ ys → Below w.heap.size w W → Rep W (Lp.d x) cs bs → Rep W (Lp.d y) cs' bs' → Calls Try.prog g (#[.agg cs.toArray, .agg cs'.toArray] ++ cap) W fun e w' => e = .returned (.bool (p x y)) ∧ Below W.heap.size W w') :
    Calls Try.prog 69 #[.slice A n c, .slice B m d, .func (.func g) #[] cap] w fun e w' => e = .returned (.bool (allEq p xs ys)) ∧ Below w.heap.size w w' := by
  obtain ⟨rfl, h1, h2⟩ := h.sls_len
  obtain ⟨rfl, h3, h4⟩ := h'.sls_len
  have hn : xs.length ≤ 9223372036854775807 := Nat.le_trans h1 h2
  have hm : ys.length ≤ 9223372036854775807 := Nat.le_trans h3 h4
  clear h1 h2 h3 h4
  have H := Lib.hid h; clear h
  have H' := Lib.hid h'; clear h'
  have HP := Lib.hid hp; clear hp
  unfold Enters at hg
  by_cases hl : xs.length = ys.length
  · have hl1 : ((xs.length : Int) != (ys.length : Int)) = false := by simp [hl]
    have HL := Lib.hid hl; clear hl
    go_enter Try.func69, Try.ntmps69
    go_wp2
    go_loopw [17] (fun i wr => ∃ j : Nat, j ≤ xs.length ∧ i = .int .i64 j ∧ allEq p xs ys = allEq p (xs.drop j) (ys.drop j) ∧ Below w.heap.size w wr) (fun i _ => xs.length - (intOf i).toNat)
    case atStart => exact ⟨0, Nat.zero_le _, rfl, by simp, Below.refl _ _⟩
    case round =>
      obtain ⟨j, hj, rfl, hi, hb⟩ := hrel
      have HI := Lib.hid hi; clear hi
      by_cases hlt : j < xs.length
      · have hlt2 : j < ys.length := by rw [← HL.out]; exact hlt
        have hd := Lib.hid (allEq_drop p xs ys j hlt hlt2)
        obtain ⟨b, o, cs, l, rfl, hbl, hr, _, _, hc⟩ := (H.out.below hb).sls_at Lp.d_size (k := j) hlt
        have G := Lib.hid hr
        obtain ⟨A1, c1, A2, c2, d1, d2, rfl, rfl, g1, g2⟩ := Rep.lp_iff.1 hr
        have k0 := (hc 0 _ rfl).1; rw [Nat.add_zero] at k0
        have k1 := (hc 1 _ rfl).1
        clear hc hr g1 g2
        obtain ⟨b', o', cs', l', rfl, hbl', hr', _, _, hc'⟩ := (H'.out.below hb).sls_at Lp.d_size (k := j) hlt2
        have G' := Lib.hid hr'
        obtain ⟨A1', c1', A2', c2', d1', d2', rfl, rfl, g1', g2'⟩ := Rep.lp_iff.1 hr'
        have k0' := (hc' 0 _ rfl).1; rw [Nat.add_zero] at k0'
        have k1' := (hc' 1 _ rfl).1
        clear hc' hr' g1' g2'
        have hja : (j : Int) < (ys.length : Int) := by omega
        go_wp2_with fail
        refine (HP.out _ _ _ _ _ _ _ (List.getElem_mem hlt) (List.getElem_mem hlt2) (hb.trans (by have h5 := hb.size; refine Below.mono (B := wr.heap.size) ?_ h5; exact (by repeat (first | with_reducible exact Below.refl _ _ | refine Below.setCell ?_ (by simp; try omega) _ | refine below_al ?_ _ | refine Below.alloc ?_ (by simp [World.setCell]; try omega) _ | refine below_drewN ?_ _ | refine Below.drew ?_ | refine below_tr ?_ ‹Below _ _ _›)))) (G.out.below (by repeat (first | with_reducible exact Below.refl _ _ | refine Below.setCell ?_ (by simp; try omega) _ | refine below_al ?_ _ | refine Below.alloc ?_ (by simp [World.setCell]; try omega) _ | refine below_drewN ?_ _ | refine Below.drew ?_ | refine below_tr ?_ ‹Below _ _ _›))) (G'.out.below (by repeat (first | with_reducible exact Below.refl _ _ | refine Below.setCell ?_ (by simp; try omega) _ | refine below_al ?_ _ | refine Below.alloc ?_ (by simp [World.setCell]; try omega) _ | refine below_drewN ?_ _ | refine Below.drew ?_ | refine below_tr ?_ ‹Below _ _ _›)))).mono ?_
        rintro e w1 ⟨rfl, b1⟩
        have S1 : Below w.heap.size w w1 := below_tr hb (by repeat (first | with_reducible exact Below.refl _ _ | refine Below.setCell ?_ (by simp; try omega) _ | refine below_al ?_ _ | refine Below.alloc ?_ (by simp [World.setCell]; try omega) _ | refine below_drewN ?_ _ | refine Below.drew ?_ | refine below_tr ?_ ‹Below _ _ _›))
        cases hpx : p xs[j] ys[j] with
        | false =>
          have HX := Lib.hid (hd.out.trans (by rw [hpx, Bool.false_and])); clear hpx
          go_wp2
          go_ret
          exact ⟨ret_bool (by rw [HI.out, HX.out]), S1⟩
        | true =>
          have HX := Lib.hid (hd.out.trans (by rw [hpx, Bool.true_and])); clear hpx
          go_wp2
          go_roundw
          case rel => exact ⟨j + 1, by omega, by go_num, by rw [HI.out, HX.out], S1⟩
          case measure => simp [intOf]; omega
      · have hjj : j = xs.length := by omega
        subst hjj
        go_wp2
        go_ret
        exact ⟨ret_bool (by rw [HI.out, List.drop_length, HL.out, List.drop_length]; rfl), hb⟩
  · have hl1 : ((xs.length : Int) != (ys.length : Int)) = true := by simp; omega
    have HR := Lib.hid (allEq_ne p xs ys hl); clear hl
    go_enter Try.func69, Try.ntmps69
    go_wp2
    go_ret
    exact ⟨ret_bool HR.out.symm, (by repeat (first | with_reducible exact Below.refl _ _ | refine Below.setCell ?_ (by simp; try omega) _ | refine below_al ?_ _ | refine Below.alloc ?_ (by simp [World.setCell]; try omega) _ | refine below_drewN ?_ _ | refine Below.drew ?_ | refine below_tr ?_ ‹Below _ _ _›))⟩

end Go.Proofs.Ytlllidhmohdgiaa
