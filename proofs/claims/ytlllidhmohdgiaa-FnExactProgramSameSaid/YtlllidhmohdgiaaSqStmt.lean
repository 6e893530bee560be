/- Library functions on slices of Stmt: slices.IndexFunc, ContainsFunc, EqualFunc. Printed by tygen.py. -/
import Derived.Test.YtlllidhmohdgiaaTyStmt
import Derived.Test.YtlllidhmohdgiaaSeqs
set_option linter.all false
set_option linter.unusedSimpArgs false
set_option linter.unusedVariables false
namespace Go.Proofs.Ytlllidhmohdgiaa
open Go.ChangeShapes Go.WideShapes Go.ChangeAt Go.RowKit Go.Deep



set_option maxHeartbeats 2000000 in
theorem EqualFunc_Stmt_c {w : World} {xs ys : List Stm} {A B : Option Addr} {n c m d : Nat} {bs bs' : List Nat} {g : FuncId} {cap : Array Value} {p : Stm → Stm → Bool} (h : Rep w (sls Stm.d xs) [.slice A n c] bs) (h' : Rep w (sls Stm.d ys) [.slice B m d] bs') (hg : Enters Try.prog g)
    (hp : ∀ x y cs bs cs' bs' W, x ∈ xs → y ∈ ys → Below w.heap.size w W → Rep W (Stm.d x) cs bs → Rep W (Stm.d y) cs' bs' → Calls Try.prog g (#[.agg cs.toArray, .agg cs'.toArray] ++ cap) W fun e w' => e = .returned (.bool (p x y)) ∧ Below W.heap.size W w') :
    Calls Try.prog 117 #[.slice A n c, .slice B m d, .func (.func g) #[] cap] w fun e w' => e = .returned (.bool (allEq p xs ys)) ∧ Below w.heap.size w w' := by
  obtain ⟨rfl, h1, h2⟩ := h.sls_len
  obtain ⟨rfl, h3, h4⟩ := h'.sls_len
  have hn : xs.length ≤ 9223372036854775807 := Nat.le_trans h1 h2
  have hm : ys.length ≤ 9223372036854775807 := Nat.le_trans h3 h4
  clear h1 h2 h3 h4
  have H := Lib.hid h; clear h
  have H' := Lib.hid h'; clear h'
  have HP := Lib.hid hp; clear hp
  unfold Enters at hg
  by_cases hl : xs.length = ys.length
  · have hl1 : ((xs.length : Int) != (ys.length : Int)) = false := by simp [hl]
    have HL := Lib.hid hl; clear hl
    go_enter Try.func117, Try.ntmps117
    go_wp2
    go_loopw [17] (fun i wr => ∃ j : Nat, j ≤ xs.length ∧ i = .int .i64 j ∧ allEq p xs ys = allEq p (xs.drop j) (ys.drop j) ∧ Below w.heap.size w wr) (fun i _ => xs.length - (intOf i).toNat)
    case atStart => exact ⟨0, Nat.zero_le _, rfl, by simp, Below.refl _ _⟩
    case round =>
      obtain ⟨j, hj, rfl, hi, hb⟩ := hrel
      have HI := Lib.hid hi; clear hi
      by_cases hlt : j < xs.length
      · have hlt2 : j < ys.length := by rw [← HL.out]; exact hlt
        have hd := Lib.hid (allEq_drop p xs ys j hlt hlt2)
        obtain ⟨b, o, cs, l, rfl, hbl, hr, _, _, hc⟩ := (H.out.below hb).sls_at Stm.d_size (k := j) hlt
        have G := Lib.hid hr
        obtain ⟨A2, c2, A5, c5, A8, c8, A9, c9, d2, d5, d8, d9, rfl, rfl, g1, g2, g3, g4, g5, g6, g7, g8, g9⟩ := Rep.stm_iff.1 hr
        have k0 := (hc 0 _ rfl).1; rw [Nat.add_zero] at k0
        have k1 := (hc 1 _ rfl).1
        have k2 := (hc 2 _ rfl).1
        have k3 := (hc 3 _ rfl).1
        have k4 := (hc 4 _ rfl).1
        have k5 := (hc 5 _ rfl).1
        have k6 := (hc 6 _ rfl).1
        have k7 := (hc 7 _ rfl).1
        have k8 := (hc 8 _ rfl).1
        clear hc hr g1 g2 g3 g4 g5 g6 g7 g8 g9
        obtain ⟨b', o', cs', l', rfl, hbl', hr', _, _, hc'⟩ := (H'.out.below hb).sls_at Stm.d_size (k := j) hlt2
        have G' := Lib.hid hr'
        obtain ⟨A2', c2', A5', c5', A8', c8', A9', c9', d2', d5', d8', d9', rfl, rfl, g1', g2', g3', g4', g5', g6', g7', g8', g9'⟩ := Rep.stm_iff.1 hr'
        have k0' := (hc' 0 _ rfl).1; rw [Nat.add_zero] at k0'
        have k1' := (hc' 1 _ rfl).1
        have k2' := (hc' 2 _ rfl).1
        have k3' := (hc' 3 _ rfl).1
        have k4' := (hc' 4 _ rfl).1
        have k5' := (hc' 5 _ rfl).1
        have k6' := (hc' 6 _ rfl).1
        have k7' := (hc' 7 _ rfl).1
        have k8' := (hc' 8 _ rfl).1
        clear hc' hr' g1' g2' g3' g4' g5' g6' g7' g8' g9'
        have hja : (j : Int) < (ys.length : Int) := by omega
        go_wp2_with fail
        refine (HP.out _ _ _ _ _ _ _ (List.getElem_mem hlt) (List.getElem_mem hlt2) (hb.trans (by have h5 := hb.size; refine Below.mono (B := wr.heap.size) ?_ h5; exact (by repeat (first | with_reducible exact Below.refl _ _ | refine Below.setCell ?_ (by simp; try omega) _ | refine below_al ?_ _ | refine Below.alloc ?_ (by simp [World.setCell]; try omega) _ | refine below_drewN ?_ _ | refine Below.drew ?_ | refine below_tr ?_ ‹Below _ _ _›)))) (G.out.below (by repeat (first | with_reducible exact Below.refl _ _ | refine Below.setCell ?_ (by simp; try omega) _ | refine below_al ?_ _ | refine Below.alloc ?_ (by simp [World.setCell]; try omega) _ | refine below_drewN ?_ _ | refine Below.drew ?_ | refine below_tr ?_ ‹Below _ _ _›))) (G'.out.below (by repeat (first | with_reducible exact Below.refl _ _ | refine Below.setCell ?_ (by simp; try omega) _ | refine below_al ?_ _ | refine Below.alloc ?_ (by simp [World.setCell]; try omega) _ | refine below_drewN ?_ _ | refine Below.drew ?_ | refine below_tr ?_ ‹Below _ _ _›)))).mono ?_
        rintro e w1 ⟨rfl, b1⟩
        have S1 : Below w.heap.size w w1 := below_tr hb (by repeat (first | with_reducible exact Below.refl _ _ | refine Below.setCell ?_ (by simp; try omega) _ | refine below_al ?_ _ | refine Below.alloc ?_ (by simp [World.setCell]; try omega) _ | refine below_drewN ?_ _ | refine Below.drew ?_ | refine below_tr ?_ ‹Below _ _ _›))
        cases hpx : p xs[j] ys[j] with
        | false =>
          have HX := Lib.hid (hd.out.trans (by rw [hpx, Bool.false_and])); clear hpx
          go_wp2
          go_ret
          exact ⟨ret_bool (by rw [HI.out, HX.out]), S1⟩
        | true =>
          have HX := Lib.hid (hd.out.trans (by rw [hpx, Bool.true_and])); clear hpx
          go_wp2
          go_roundw
          case rel => exact ⟨j + 1, by omega, by go_num, by rw [HI.out, HX.out], S1⟩
          case measure => simp [intOf]; omega
      · have hjj : j = xs.length := by omega
        subst hjj
        go_wp2
        go_ret
        exact ⟨ret_bool (by rw [HI.out, List.drop_length, HL.out, List.drop_length]; rfl), hb⟩
  · have hl1 : ((xs.length : Int) != (ys.length : Int)) = true := by simp; omega
    have HR := Lib.hid (allEq_ne p xs ys hl); clear hl
    go_enter Try.func117, Try.ntmps117
    go_wp2
    go_ret
    exact ⟨ret_bool HR.out.symm, (by repeat (first | with_reducible exact Below.refl _ _ | refine Below.setCell ?_ (by simp; try omega) _ | refine below_al ?_ _ | refine Below.alloc ?_ (by simp [World.setCell]; try omega) _ | refine below_drewN ?_ _ | refine Below.drew ?_ | refine below_tr ?_ ‹Below _ _ _›))⟩

end Go.Proofs.Ytlllidhmohdgiaa
