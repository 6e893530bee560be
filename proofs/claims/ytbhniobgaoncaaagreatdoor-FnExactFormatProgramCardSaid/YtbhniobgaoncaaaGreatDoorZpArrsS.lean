/- Which lists of arrays are valid: l4Arrays of the reference. -/
import Derived.Test.YtbhniobgaoncaaaGreatDoorZpArrs
set_option linter.all false
set_option linter.unusedSimpArgs false
set_option linter.unusedVariables false
namespace Go.Proofs.YtbhniobgaoncaaaGreatDoor
open Go.ChangeShapes Go.WideShapes Go.ChangeAt Go.RowKit Go.Deep

section
variable {w : World} {bs : List Nat}
theorem one_toList (c : UInt8) : (⟨#[c]⟩ : ByteArray).toList = [c] := by go_simp
def pastD (l : List UInt8) : Prop := Op.bytesLess l [68] = false ∧ ¬ l = [68]
theorem pastD_b {l : List UInt8} (h : pastD l) : (!Op.bytesLess l [68] && !l == [68]) = true := by
  obtain ⟨h1, h2⟩ := h
  rw [h1, beq_eq_false_iff_ne.2 h2]; rfl
theorem pastD_nb {l : List UInt8} (h : ¬ pastD l) : (!Op.bytesLess l [68] && !l == [68]) = false := by
  cases h1 : Op.bytesLess l [68] with
  | true => rfl
  | false =>
    have h2 : l = [68] := Classical.byContradiction fun h2 => h ⟨h1, h2⟩
    rw [beq_iff_eq.2 h2]; rfl
theorem arrOk_past {s : ByteArray} (h : s.size = 1) (hp : pastD s.toList) : arrOk s = false := by
  obtain ⟨c, rfl⟩ := one_byte h
  rw [one_toList] at hp
  obtain ⟨h1, h2⟩ := hp
  rw [bl_one] at h1
  have h3 := of_decide_eq_false h1
  have h4 : (68 : UInt8).toNat = 68 := rfl
  have h5 : ¬ c.toNat = 68 := fun e => h2 (by rw [UInt8.toNat_inj.1 (e.trans h4.symm)])
  rw [arrL_one, decide_eq_false (show ¬ c.toNat ≤ 68 by omega), Bool.and_false]
theorem arrOk_less {s : ByteArray} (h : s.size = 1) (hp : Op.bytesLess s.toList [65] = true) : arrOk s = false := by
  obtain ⟨c, rfl⟩ := one_byte h
  rw [one_toList, bl_one] at hp
  have h3 := of_decide_eq_true hp
  have h4 : (65 : UInt8).toNat = 65 := rfl
  rw [arrL_one, decide_eq_false (show ¬ 65 ≤ c.toNat by omega), Bool.false_and]
theorem arrOk_in {s : ByteArray} (h : s.size = 1) (h1 : Op.bytesLess s.toList [65] = false) (h2 : ¬ pastD s.toList) : arrOk s = true := by
  obtain ⟨c, rfl⟩ := one_byte h
  unfold pastD at h2
  rw [one_toList, bl_one] at h1 h2
  have h3 := of_decide_eq_false h1
  have h4 : (65 : UInt8).toNat = 65 := rfl
  have h5 : (68 : UInt8).toNat = 68 := rfl
  have h6 : c.toNat ≤ 68 := by
    by_cases hc : c.toNat < 68
    · omega
    · by_cases he : [c] = [68]
      · rw [show c = 68 by simpa using he]; exact Nat.le_refl _
      · exact absurd ⟨decide_eq_false (by rw [h5]; exact hc), he⟩ h2
  rw [arrL_one, decide_eq_true (show 65 ≤ c.toNat by omega), decide_eq_true h6]; rfl
theorem any_step (l : List Int) (k : Nat) (h : k < l.length) : (l.drop k).any dimBad = (dimBad (gi l k) || (l.drop (k + 1)).any dimBad) := by
  rw [← List.getElem_cons_drop h, List.any_cons, gi_eq h]
set_option maxRecDepth 100000 in
set_option maxHeartbeats 8000000 in
theorem l4Arrays_c {xs : List Ar} {A : Option Addr} {n c : Nat} (h : Rep w (sls Ar.d xs) [.slice A n c] bs) :
    Calls Tryz.prog 72 #[.slice A n c] w fun e w' => e = .returned (.bool (arrsOk xs)) ∧ Below w.heap.size w w' := by
  obtain ⟨rfl, h1, h2⟩ := h.sls_len
  have hn : xs.length ≤ 9223372036854775807 := Nat.le_trans h1 h2
  clear h1 h2
  have H := Lib.hid h; clear h
  go_enter Tryz.func72, Tryz.ntmps72
  go_wp2
  go_loopw [3] (fun i wr => ∃ j : Nat, j ≤ xs.length ∧ i = .int .i64 j ∧ allN (arrAt xs) xs.length 0 = allN (arrAt xs) (xs.length - j) j ∧ Below w.heap.size w wr) (fun i _ => xs.length - (intOf i).toNat)
  case atStart => exact ⟨0, Nat.zero_le _, rfl, rfl, bel⟩
  case round =>
    obtain ⟨j, hj, rfl, hi, hb⟩ := hrel
    have HI := Lib.hid hi; clear hi
    by_cases hlt : j < xs.length
    · have HD := Lib.hid (HI.out.trans (allN_step (f := arrAt xs) hlt))
      have HA := Lib.hid (show arrAt xs j = (arrOk xs[j].name && (ordAt xs j && dimsOk xs[j].dims)) by rw [arrAt, nthA_eq hlt])
      have HDI := Lib.hid (show dimsOk xs[j].dims = (inB (xs[j].dims.length : Int) 1 2 && !xs[j].dims.any dimBad) from rfl)
      obtain ⟨be, oe, cse, le, rfl, hble, hre, _, _, hce⟩ := (H.out.below hb).sls_at Ar.d_size (k := j) hlt
      have Ge := Lib.hid hre
      obtain ⟨A2e, c2e, d2e, rfl, rfl, g1e, g2e⟩ := Rep.ar_iff.1 hre
      have k0e := (hce 0 _ rfl).1; rw [Nat.add_zero] at k0e
      have k1e := (hce 1 _ rfl).1
      have Q1e := Lib.hid g1e
      have Q2e := Lib.hid g2e
      clear hce hre g1e g2e
      have hne : xs[j].dims.length ≤ 9223372036854775807 := Nat.le_trans Q2e.out.ints_len.2.1 Q2e.out.ints_len.2.2
      have hns : xs[j].name.size ≤ 9223372036854775807 := Nat.le_trans Q1e.out (by unfold maxLen; omega)
      have Q2w := Lib.hid (Q2e.out.below (show Below wr.heap.size wr (wr.alloc (.cells #[.string xs[j].name, .slice A2e xs[j].dims.length c2e] 63)) from bel))
      obtain ⟨W, hW⟩ : ∃ W, W = wr.alloc (.cells #[.string xs[j].name, .slice A2e xs[j].dims.length c2e] 63) := ⟨_, rfl⟩
      have PW : Box2 W wr.heap.size (.string xs[j].name) (.slice A2e xs[j].dims.length c2e) := by rw [hW]; exact Box2.new _ _ _ _
      have BW : Below wr.heap.size wr W := by rw [hW]; exact bel
      rw [← hW] at Q2w
      have HW := Lib.hid hW; clear hW
      have SW := below_tr hb BW
      have HG0 := Lib.hid (show w.heap.size ≤ wr.heap.size from hb.size)
      by_cases h1 : xs[j].name.size = 1
      case neg =>
        have hq1 : ((xs[j].name.size : Int) != 1) = true := ine_t (by omega)
        have HX := Lib.hid (arrsOk_no (HD.out.trans (by rw [HA.out, arrOk_ne h1, Bool.false_and, Bool.false_and])))
        go_wp2_with fail
        rw [← HW.out]
        refine wp_region_noPanic ?_
        refine wp_region_held_drew (S := fun w' => Box2 w' wr.heap.size (.string xs[j].name) (.slice A2e xs[j].dims.length c2e)) (by kernel_rfl) (PW) (fun hHeld => ?_)
        refine goR 0 hHeld ?_
        refine goR 1 hHeld ?_
        refine goR 2 hHeld ?_
        refine goR 3 hHeld ?_
        refine goR 4 hHeld ?_
        refine goS 5 hHeld ?_
        refine goS 6 hHeld ?_
        refine goS 7 hHeld ?_
        refine goR 8 hHeld ?_
        refine goR 9 hHeld ?_
        refine goS 10 hHeld ?_
        refine goS 11 hHeld ?_
        refine goS 12 hHeld ?_
        refine goR 13 hHeld ?_
        refine goR 14 hHeld ?_
        refine goS 15 hHeld ?_
        refine goS 16 hHeld ?_
        refine goS 17 hHeld ?_
        refine goS 18 hHeld ?_
        refine goS 19 hHeld ?_
        refine goS 20 hHeld ?_
        refine goS 21 hHeld ?_
        refine goS 22 hHeld ?_
        refine goS 23 hHeld ?_
        refine goS 24 hHeld ?_
        refine goS 25 hHeld ?_
        refine goS 26 hHeld ?_
        refine goS 27 hHeld ?_
        refine goR 28 hHeld ?_
        refine goR 29 hHeld ?_
        refine goS 30 hHeld ?_
        refine goS 31 hHeld ?_
        refine goS 32 hHeld ?_
        refine goS 33 hHeld ?_
        refine goR 34 hHeld ?_
        refine goR 35 hHeld ?_
        refine goS 36 hHeld ?_
        refine goS 37 hHeld ?_
        refine goS 38 hHeld ?_
        refine goS 39 hHeld ?_
        refine goR 40 hHeld ?_
        refine wpAnyH_done (by kernel_rfl) ?_ _
        refine NoPanic.normal ?_
        go_wp2
        go_ret
        exact ⟨ret_bool HX.out.symm, SW.drew⟩
      have hq1 : ((xs[j].name.size : Int) != 1) = false := ine_f (by omega)
      cases hb1 : Op.bytesLess xs[j].name.toList [65] with
      | true =>
        have HX := Lib.hid (arrsOk_no (HD.out.trans (by rw [HA.out, arrOk_less h1 hb1, Bool.false_and, Bool.false_and])))
        go_wp2_with fail
        rw [← HW.out]
        refine wp_region_noPanic ?_
        refine wp_region_held_drew (S := fun w' => Box2 w' wr.heap.size (.string xs[j].name) (.slice A2e xs[j].dims.length c2e)) (by kernel_rfl) (PW) (fun hHeld => ?_)
        refine goR 0 hHeld ?_
        refine goR 1 hHeld ?_
        refine goR 2 hHeld ?_
        refine goR 3 hHeld ?_
        refine goR 4 hHeld ?_
        refine goG 5 hHeld ?_
        refine goG 6 hHeld ?_
        refine goG 7 hHeld ?_
        refine goR 8 hHeld ?_
        refine goR 9 hHeld ?_
        refine goS 10 hHeld ?_
        refine goS 11 hHeld ?_
        refine goS 12 hHeld ?_
        refine goR 13 hHeld ?_
        refine goR 14 hHeld ?_
        refine goS 15 hHeld ?_
        refine goS 16 hHeld ?_
        refine goS 17 hHeld ?_
        refine goS 18 hHeld ?_
        refine goS 19 hHeld ?_
        refine goS 20 hHeld ?_
        refine goS 21 hHeld ?_
        refine goS 22 hHeld ?_
        refine goS 23 hHeld ?_
        refine goS 24 hHeld ?_
        refine goS 25 hHeld ?_
        refine goS 26 hHeld ?_
        refine goS 27 hHeld ?_
        refine goR 28 hHeld ?_
        refine goR 29 hHeld ?_
        refine goS 30 hHeld ?_
        refine goS 31 hHeld ?_
        refine goS 32 hHeld ?_
        refine goS 33 hHeld ?_
        refine goR 34 hHeld ?_
        refine goR 35 hHeld ?_
        refine goS 36 hHeld ?_
        refine goS 37 hHeld ?_
        refine goS 38 hHeld ?_
        refine goS 39 hHeld ?_
        refine goR 40 hHeld ?_
        refine wpAnyH_done (by kernel_rfl) ?_ _
        refine NoPanic.normal ?_
        go_wp2
        go_ret
        exact ⟨ret_bool HX.out.symm, SW.drew⟩
      | false =>
      by_cases hpd : pastD xs[j].name.toList
      case pos =>
        have HPD := Lib.hid (show (Op.bytesLess xs[j].name.toList [68] = false ∧ ¬ xs[j].name.toList = [68]) = True from eq_true hpd)
        have HPB := Lib.hid (pastD_b hpd)
        have HX := Lib.hid (arrsOk_no (HD.out.trans (by rw [HA.out, arrOk_past h1 hpd, Bool.false_and, Bool.false_and])))
        clear hpd
        go_wp2_with fail
        rw [← HW.out]
        refine wp_region_noPanic ?_
        refine wp_region_held_drew (S := fun w' => Box2 w' wr.heap.size (.string xs[j].name) (.slice A2e xs[j].dims.length c2e)) (by kernel_rfl) (PW) (fun hHeld => ?_)
        refine takeR (i := 0) (v := ?_) rfl rfl (by kernel_rfl) (by kernel_rfl) (by kernel_rfl) (fun _ _ _ h => h) ?_ hHeld ?_
        rotate_left 1
        · intro w hSw; (try dsimp only at hSw); go_simp
          try simp only [HPB.out, HPD.out, if_true]
          try with_reducible rfl
        simp only [Act.put, aq0, aq1, aq2]
        refine takeR (i := 1) (v := ?_) rfl rfl (by kernel_rfl) (by kernel_rfl) (by kernel_rfl) (fun _ _ _ h => h) ?_ hHeld ?_
        rotate_left 1
        · intro w hSw; (try dsimp only at hSw); go_simp
          try simp only [HPB.out, HPD.out, if_true]
          try with_reducible rfl
        simp only [Act.put, aq0, aq1, aq2]
        refine takeR (i := 2) (v := ?_) rfl rfl (by kernel_rfl) (by kernel_rfl) (by kernel_rfl) (fun _ _ _ h => h) ?_ hHeld ?_
        rotate_left 1
        · intro w hSw; (try dsimp only at hSw); go_simp
          try simp only [HPB.out, HPD.out, if_true]
          try with_reducible rfl
        simp only [Act.put, aq0, aq1, aq2]
        refine takeR (i := 3) (v := ?_) rfl rfl (by kernel_rfl) (by kernel_rfl) (by kernel_rfl) (fun _ _ _ h => h) ?_ hHeld ?_
        rotate_left 1
        · intro w hSw; (try dsimp only at hSw); go_simp
          try simp only [HPB.out, HPD.out, if_true]
          try with_reducible rfl
        simp only [Act.put, aq0, aq1, aq2]
        refine takeR (i := 4) (v := ?_) rfl rfl (by kernel_rfl) (by kernel_rfl) (by kernel_rfl) (fun _ _ _ h => h) ?_ hHeld ?_
        rotate_left 1
        · intro w hSw; (try dsimp only at hSw); go_simp
          try simp only [HPB.out, HPD.out, if_true]
          try with_reducible rfl
        simp only [Act.put, aq0, aq1, aq2]
        refine takeG (i := 5) (v := ?_) rfl (by kernel_rfl) (by kernel_rfl) (by kernel_rfl) (by kernel_rfl) (fun _ _ _ h => h) ?_ hHeld ?_
        rotate_left 1
        · intro w hSw; (try dsimp only at hSw); go_simp
          try simp only [HPB.out, HPD.out, if_true]
          try with_reducible rfl
        simp only [Act.put, aq0, aq1, aq2]
        refine takeG (i := 6) (v := ?_) rfl (by kernel_rfl) (by kernel_rfl) (by kernel_rfl) (by kernel_rfl) (fun _ _ _ h => h) ?_ hHeld ?_
        rotate_left 1
        · intro w hSw; (try dsimp only at hSw); go_simp
          try simp only [HPB.out, HPD.out, if_true]
          try with_reducible rfl
        simp only [Act.put, aq0, aq1, aq2]
        refine takeG (i := 7) (v := ?_) rfl (by kernel_rfl) (by kernel_rfl) (by kernel_rfl) (by kernel_rfl) (fun _ _ _ h => h) ?_ hHeld ?_
        rotate_left 1
        · intro w hSw; (try dsimp only at hSw); go_simp
          try simp only [HPB.out, HPD.out, if_true]
          try with_reducible rfl
        simp only [Act.put, aq0, aq1, aq2]
        refine takeR (i := 8) (v := ?_) rfl rfl (by kernel_rfl) (by kernel_rfl) (by kernel_rfl) (fun _ _ _ h => h) ?_ hHeld ?_
        rotate_left 1
        · intro w hSw; (try dsimp only at hSw); go_simp
          try simp only [HPB.out, HPD.out, if_true]
          try with_reducible rfl
        simp only [Act.put, aq0, aq1, aq2]
        refine takeR (i := 9) (v := ?_) rfl rfl (by kernel_rfl) (by kernel_rfl) (by kernel_rfl) (fun _ _ _ h => h) ?_ hHeld ?_
        rotate_left 1
        · intro w hSw; (try dsimp only at hSw); go_simp
          try simp only [HPB.out, HPD.out, if_true]
          try with_reducible rfl
        simp only [Act.put, aq0, aq1, aq2]
        refine takeG (i := 10) (v := ?_) rfl (by kernel_rfl) (by kernel_rfl) (by kernel_rfl) (by kernel_rfl) (fun _ _ _ h => h) ?_ hHeld ?_
        rotate_left 1
        · intro w hSw; (try dsimp only at hSw); go_simp
          try simp only [HPB.out, HPD.out, if_true]
          try with_reducible rfl
        simp only [Act.put, aq0, aq1, aq2]
        refine takeG (i := 11) (v := ?_) rfl (by kernel_rfl) (by kernel_rfl) (by kernel_rfl) (by kernel_rfl) (fun _ _ _ h => h) ?_ hHeld ?_
        rotate_left 1
        · intro w hSw; (try dsimp only at hSw); go_simp
          try simp only [HPB.out, HPD.out, if_true]
          try with_reducible rfl
        simp only [Act.put, aq0, aq1, aq2]
        refine takeG (i := 12) (v := ?_) rfl (by kernel_rfl) (by kernel_rfl) (by kernel_rfl) (by kernel_rfl) (fun _ _ _ h => h) ?_ hHeld ?_
        rotate_left 1
        · intro w hSw; (try dsimp only at hSw); go_simp
          try simp only [HPB.out, HPD.out, if_true]
          try with_reducible rfl
        simp only [Act.put, aq0, aq1, aq2]
        refine takeR (i := 13) (v := ?_) rfl rfl (by kernel_rfl) (by kernel_rfl) (by kernel_rfl) (fun _ _ _ h => h) ?_ hHeld ?_
        rotate_left 1
        · intro w hSw; (try dsimp only at hSw); go_simp
          try simp only [HPB.out, HPD.out, if_true]
          try with_reducible rfl
        simp only [Act.put, aq0, aq1, aq2]
        refine takeR (i := 14) (v := ?_) rfl rfl (by kernel_rfl) (by kernel_rfl) (by kernel_rfl) (fun _ _ _ h => h) ?_ hHeld ?_
        rotate_left 1
        · intro w hSw; (try dsimp only at hSw); go_simp
          try simp only [HPB.out, HPD.out, if_true]
          try with_reducible rfl
        simp only [Act.put, aq0, aq1, aq2]
        refine goS 15 hHeld ?_
        refine goS 16 hHeld ?_
        refine goS 17 hHeld ?_
        refine goS 18 hHeld ?_
        refine goS 19 hHeld ?_
        refine goS 20 hHeld ?_
        refine goS 21 hHeld ?_
        refine goS 22 hHeld ?_
        refine goS 23 hHeld ?_
        refine goS 24 hHeld ?_
        refine goS 25 hHeld ?_
        refine goS 26 hHeld ?_
        refine goS 27 hHeld ?_
        refine takeR (i := 28) (v := ?_) rfl rfl (by kernel_rfl) (by kernel_rfl) (by kernel_rfl) (fun _ _ _ h => h) ?_ hHeld ?_
        rotate_left 1
        · intro w hSw; (try dsimp only at hSw); go_simp
          try simp only [HPB.out, HPD.out, if_true]
          try with_reducible rfl
        simp only [Act.put, aq0, aq1, aq2]
        refine takeR (i := 29) (v := ?_) rfl rfl (by kernel_rfl) (by kernel_rfl) (by kernel_rfl) (fun _ _ _ h => h) ?_ hHeld ?_
        rotate_left 1
        · intro w hSw; (try dsimp only at hSw); go_simp
          try simp only [HPB.out, HPD.out, if_true]
          try with_reducible rfl
        simp only [Act.put, aq0, aq1, aq2]
        refine goS 30 hHeld ?_
        refine goS 31 hHeld ?_
        refine goS 32 hHeld ?_
        refine goS 33 hHeld ?_
        refine takeR (i := 34) (v := ?_) rfl rfl (by kernel_rfl) (by kernel_rfl) (by kernel_rfl) (fun _ _ _ h => h) ?_ hHeld ?_
        rotate_left 1
        · intro w hSw; (try dsimp only at hSw); go_simp
          try simp only [HPB.out, HPD.out, if_true]
          try with_reducible rfl
        simp only [Act.put, aq0, aq1, aq2]
        refine takeR (i := 35) (v := ?_) rfl rfl (by kernel_rfl) (by kernel_rfl) (by kernel_rfl) (fun _ _ _ h => h) ?_ hHeld ?_
        rotate_left 1
        · intro w hSw; (try dsimp only at hSw); go_simp
          try simp only [HPB.out, HPD.out, if_true]
          try with_reducible rfl
        simp only [Act.put, aq0, aq1, aq2]
        refine goS 36 hHeld ?_
        refine goS 37 hHeld ?_
        refine goS 38 hHeld ?_
        refine goS 39 hHeld ?_
        refine takeR (i := 40) (v := ?_) rfl rfl (by kernel_rfl) (by kernel_rfl) (by kernel_rfl) (fun _ _ _ h => h) ?_ hHeld ?_
        rotate_left 1
        · intro w hSw; (try dsimp only at hSw); go_simp
          try simp only [HPB.out, HPD.out, if_true]
          try with_reducible rfl
        simp only [Act.put, aq0, aq1, aq2]
        refine wpAnyH_done (by kernel_rfl) ?_ _
        refine NoPanic.normal ?_
        go_wp2
        go_ret
        exact ⟨ret_bool HX.out.symm, SW.drew⟩
      have HV := Lib.hid (arrOk_in h1 hb1 hpd)
      have HPD := Lib.hid (show (Op.bytesLess xs[j].name.toList [68] = false ∧ ¬ xs[j].name.toList = [68]) = False from eq_false hpd)
      have HPB := Lib.hid (pastD_nb hpd)
      clear hpd h1
      cases hj0 : decide (j = 0) with
      | true =>
        have hj00 := of_decide_eq_true hj0
        have hz : (0 < j) = False := eq_false (by omega)
        have hz2 : ((0 : Int) < (j : Int)) = False := eq_false (by omega)
        have HA2 := Lib.hid (show arrAt xs j = dimsOk xs[j].dims by rw [HA.out, HV.out, Bool.true_and, ordAt, hj0, Bool.true_or, Bool.true_and])
        clear hj0 hj00
        by_cases hl1 : xs[j].dims.length < 1
        case pos =>
          have HL1 := Lib.hid (show decide ((xs[j].dims.length : Int) < 1) = true from decide_eq_true (by omega))
          have HX := Lib.hid (arrsOk_no (HD.out.trans (by rw [HA2.out, HDI.out, show inB (xs[j].dims.length : Int) 1 2 = false from (by first | exact inB_lo (by omega) | exact inB_hi (by omega)), Bool.false_and, Bool.false_and])))
          go_wp2_with fail
          rw [← HW.out]
          refine wp_region_noPanic ?_
          refine wp_region_held_drew (S := fun w' => Box2 w' wr.heap.size (.string xs[j].name) (.slice A2e xs[j].dims.length c2e)) (by kernel_rfl) (PW) (fun hHeld => ?_)
          refine takeR (i := 0) (v := ?_) rfl rfl (by kernel_rfl) (by kernel_rfl) (by kernel_rfl) (fun _ _ _ h => h) ?_ hHeld ?_
          rotate_left 1
          · intro w hSw; (try dsimp only at hSw); go_simp
            try simp only [HL1.out, HPB.out, HPD.out, if_false]
            try with_reducible rfl
          simp only [Act.put, aq0, aq1, aq2]
          refine takeR (i := 1) (v := ?_) rfl rfl (by kernel_rfl) (by kernel_rfl) (by kernel_rfl) (fun _ _ _ h => h) ?_ hHeld ?_
          rotate_left 1
          · intro w hSw; (try dsimp only at hSw); go_simp
            try simp only [HL1.out, HPB.out, HPD.out, if_false]
            try with_reducible rfl
          simp only [Act.put, aq0, aq1, aq2]
          refine takeR (i := 2) (v := ?_) rfl rfl (by kernel_rfl) (by kernel_rfl) (by kernel_rfl) (fun _ _ _ h => h) ?_ hHeld ?_
          rotate_left 1
          · intro w hSw; (try dsimp only at hSw); go_simp
            try simp only [HL1.out, HPB.out, HPD.out, if_false]
            try with_reducible rfl
          simp only [Act.put, aq0, aq1, aq2]
          refine takeR (i := 3) (v := ?_) rfl rfl (by kernel_rfl) (by kernel_rfl) (by kernel_rfl) (fun _ _ _ h => h) ?_ hHeld ?_
          rotate_left 1
          · intro w hSw; (try dsimp only at hSw); go_simp
            try simp only [HL1.out, HPB.out, HPD.out, if_false]
            try with_reducible rfl
          simp only [Act.put, aq0, aq1, aq2]
          refine takeR (i := 4) (v := ?_) rfl rfl (by kernel_rfl) (by kernel_rfl) (by kernel_rfl) (fun _ _ _ h => h) ?_ hHeld ?_
          rotate_left 1
          · intro w hSw; (try dsimp only at hSw); go_simp
            try simp only [HL1.out, HPB.out, HPD.out, if_false]
            try with_reducible rfl
          simp only [Act.put, aq0, aq1, aq2]
          refine takeG (i := 5) (v := ?_) rfl (by kernel_rfl) (by kernel_rfl) (by kernel_rfl) (by kernel_rfl) (fun _ _ _ h => h) ?_ hHeld ?_
          rotate_left 1
          · intro w hSw; (try dsimp only at hSw); go_simp
            try simp only [HL1.out, HPB.out, HPD.out, if_false]
            try with_reducible rfl
          simp only [Act.put, aq0, aq1, aq2]
          refine takeG (i := 6) (v := ?_) rfl (by kernel_rfl) (by kernel_rfl) (by kernel_rfl) (by kernel_rfl) (fun _ _ _ h => h) ?_ hHeld ?_
          rotate_left 1
          · intro w hSw; (try dsimp only at hSw); go_simp
            try simp only [HL1.out, HPB.out, HPD.out, if_false]
            try with_reducible rfl
          simp only [Act.put, aq0, aq1, aq2]
          refine takeG (i := 7) (v := ?_) rfl (by kernel_rfl) (by kernel_rfl) (by kernel_rfl) (by kernel_rfl) (fun _ _ _ h => h) ?_ hHeld ?_
          rotate_left 1
          · intro w hSw; (try dsimp only at hSw); go_simp
            try simp only [HL1.out, HPB.out, HPD.out, if_false]
            try with_reducible rfl
          simp only [Act.put, aq0, aq1, aq2]
          refine takeR (i := 8) (v := ?_) rfl rfl (by kernel_rfl) (by kernel_rfl) (by kernel_rfl) (fun _ _ _ h => h) ?_ hHeld ?_
          rotate_left 1
          · intro w hSw; (try dsimp only at hSw); go_simp
            try simp only [HL1.out, HPB.out, HPD.out, if_false]
            try with_reducible rfl
          simp only [Act.put, aq0, aq1, aq2]
          refine takeR (i := 9) (v := ?_) rfl rfl (by kernel_rfl) (by kernel_rfl) (by kernel_rfl) (fun _ _ _ h => h) ?_ hHeld ?_
          rotate_left 1
          · intro w hSw; (try dsimp only at hSw); go_simp
            try simp only [HL1.out, HPB.out, HPD.out, if_false]
            try with_reducible rfl
          simp only [Act.put, aq0, aq1, aq2]
          refine takeG (i := 10) (v := ?_) rfl (by kernel_rfl) (by kernel_rfl) (by kernel_rfl) (by kernel_rfl) (fun _ _ _ h => h) ?_ hHeld ?_
          rotate_left 1
          · intro w hSw; (try dsimp only at hSw); go_simp
            try simp only [HL1.out, HPB.out, HPD.out, if_false]
            try with_reducible rfl
          simp only [Act.put, aq0, aq1, aq2]
          refine takeG (i := 11) (v := ?_) rfl (by kernel_rfl) (by kernel_rfl) (by kernel_rfl) (by kernel_rfl) (fun _ _ _ h => h) ?_ hHeld ?_
          rotate_left 1
          · intro w hSw; (try dsimp only at hSw); go_simp
            try simp only [HL1.out, HPB.out, HPD.out, if_false]
            try with_reducible rfl
          simp only [Act.put, aq0, aq1, aq2]
          refine takeG (i := 12) (v := ?_) rfl (by kernel_rfl) (by kernel_rfl) (by kernel_rfl) (by kernel_rfl) (fun _ _ _ h => h) ?_ hHeld ?_
          rotate_left 1
          · intro w hSw; (try dsimp only at hSw); go_simp
            try simp only [HL1.out, HPB.out, HPD.out, if_false]
            try with_reducible rfl
          simp only [Act.put, aq0, aq1, aq2]
          refine takeR (i := 13) (v := ?_) rfl rfl (by kernel_rfl) (by kernel_rfl) (by kernel_rfl) (fun _ _ _ h => h) ?_ hHeld ?_
          rotate_left 1
          · intro w hSw; (try dsimp only at hSw); go_simp
            try simp only [HL1.out, HPB.out, HPD.out, if_false]
            try with_reducible rfl
          simp only [Act.put, aq0, aq1, aq2]
          refine takeR (i := 14) (v := ?_) rfl rfl (by kernel_rfl) (by kernel_rfl) (by kernel_rfl) (fun _ _ _ h => h) ?_ hHeld ?_
          rotate_left 1
          · intro w hSw; (try dsimp only at hSw); go_simp
            try simp only [HL1.out, HPB.out, HPD.out, if_false]
            try with_reducible rfl
          simp only [Act.put, aq0, aq1, aq2]
          refine takeG (i := 15) (v := ?_) rfl (by kernel_rfl) (by kernel_rfl) (by kernel_rfl) (by kernel_rfl) (fun _ _ _ h => h) ?_ hHeld ?_
          rotate_left 1
          · intro w hSw; (try dsimp only at hSw); go_simp
            try simp only [HL1.out, HPB.out, HPD.out, if_false]
            try with_reducible rfl
          simp only [Act.put, aq0, aq1, aq2]
          refine takeG (i := 16) (v := ?_) rfl (by kernel_rfl) (by kernel_rfl) (by kernel_rfl) (by kernel_rfl) (fun _ _ _ h => h) ?_ hHeld ?_
          rotate_left 1
          · intro w hSw; (try dsimp only at hSw); go_simp
            try simp only [HL1.out, HPB.out, HPD.out, if_false]
            try with_reducible rfl
          simp only [Act.put, aq0, aq1, aq2]
          refine takeG (i := 17) (v := ?_) rfl (by kernel_rfl) (by kernel_rfl) (by kernel_rfl) (by kernel_rfl) (fun _ _ _ h => h) ?_ hHeld ?_
          rotate_left 1
          · intro w hSw; (try dsimp only at hSw); go_simp
            try simp only [HL1.out, HPB.out, HPD.out, if_false]
            try with_reducible rfl
          simp only [Act.put, aq0, aq1, aq2]
          refine goS 18 hHeld ?_
          refine goS 19 hHeld ?_
          refine goS 20 hHeld ?_
          refine goS 21 hHeld ?_
          refine goS 22 hHeld ?_
          refine goS 23 hHeld ?_
          refine goS 24 hHeld ?_
          refine goS 25 hHeld ?_
          refine goS 26 hHeld ?_
          refine takeG (i := 27) (v := ?_) rfl (by kernel_rfl) (by kernel_rfl) (by kernel_rfl) (by kernel_rfl) (fun _ _ _ h => h) ?_ hHeld ?_
          rotate_left 1
          · intro w hSw; (try dsimp only at hSw); go_simp
            try simp only [HL1.out, HPB.out, HPD.out, if_false]
            try with_reducible rfl
          simp only [Act.put, aq0, aq1, aq2]
          refine takeR (i := 28) (v := ?_) rfl rfl (by kernel_rfl) (by kernel_rfl) (by kernel_rfl) (fun _ _ _ h => h) ?_ hHeld ?_
          rotate_left 1
          · intro w hSw; (try dsimp only at hSw); go_simp
            try simp only [HL1.out, HPB.out, HPD.out, if_false]
            try with_reducible rfl
          simp only [Act.put, aq0, aq1, aq2]
          refine takeR (i := 29) (v := ?_) rfl rfl (by kernel_rfl) (by kernel_rfl) (by kernel_rfl) (fun _ _ _ h => h) ?_ hHeld ?_
          rotate_left 1
          · intro w hSw; (try dsimp only at hSw); go_simp
            try simp only [HL1.out, HPB.out, HPD.out, if_false]
            try with_reducible rfl
          simp only [Act.put, aq0, aq1, aq2]
          refine takeG (i := 30) (v := ?_) rfl (by kernel_rfl) (by kernel_rfl) (by kernel_rfl) (by kernel_rfl) (fun _ _ _ h => h) ?_ hHeld ?_
          rotate_left 1
          · intro w hSw; (try dsimp only at hSw); go_simp
            try simp only [HL1.out, HPB.out, HPD.out, if_false]
            try with_reducible rfl
          simp only [Act.put, aq0, aq1, aq2]
          refine takeG (i := 31) (v := ?_) rfl (by kernel_rfl) (by kernel_rfl) (by kernel_rfl) (by kernel_rfl) (fun _ _ _ h => h) ?_ hHeld ?_
          rotate_left 1
          · intro w hSw; (try dsimp only at hSw); go_simp
            try simp only [HL1.out, HPB.out, HPD.out, if_false]
            try with_reducible rfl
          simp only [Act.put, aq0, aq1, aq2]
          refine takeG (i := 32) (v := ?_) rfl (by kernel_rfl) (by kernel_rfl) (by kernel_rfl) (by kernel_rfl) (fun _ _ _ h => h) ?_ hHeld ?_
          rotate_left 1
          · intro w hSw; (try dsimp only at hSw); go_simp
            try simp only [HL1.out, HPB.out, HPD.out, if_false]
            try with_reducible rfl
          simp only [Act.put, aq0, aq1, aq2]
          refine takeG (i := 33) (v := ?_) rfl (by kernel_rfl) (by kernel_rfl) (by kernel_rfl) (by kernel_rfl) (fun _ _ _ h => h) ?_ hHeld ?_
          rotate_left 1
          · intro w hSw; (try dsimp only at hSw); go_simp
            try simp only [HL1.out, HPB.out, HPD.out, if_false]
            try with_reducible rfl
          simp only [Act.put, aq0, aq1, aq2]
          refine takeR (i := 34) (v := ?_) rfl rfl (by kernel_rfl) (by kernel_rfl) (by kernel_rfl) (fun _ _ _ h => h) ?_ hHeld ?_
          rotate_left 1
          · intro w hSw; (try dsimp only at hSw); go_simp
            try simp only [HL1.out, HPB.out, HPD.out, if_false]
            try with_reducible rfl
          simp only [Act.put, aq0, aq1, aq2]
          refine takeR (i := 35) (v := ?_) rfl rfl (by kernel_rfl) (by kernel_rfl) (by kernel_rfl) (fun _ _ _ h => h) ?_ hHeld ?_
          rotate_left 1
          · intro w hSw; (try dsimp only at hSw); go_simp
            try simp only [HL1.out, HPB.out, HPD.out, if_false]
            try with_reducible rfl
          simp only [Act.put, aq0, aq1, aq2]
          refine goS 36 hHeld ?_
          refine goS 37 hHeld ?_
          refine goS 38 hHeld ?_
          refine goS 39 hHeld ?_
          refine takeR (i := 40) (v := ?_) rfl rfl (by kernel_rfl) (by kernel_rfl) (by kernel_rfl) (fun _ _ _ h => h) ?_ hHeld ?_
          rotate_left 1
          · intro w hSw; (try dsimp only at hSw); go_simp
            try simp only [HL1.out, HPB.out, HPD.out, if_false]
            try with_reducible rfl
          simp only [Act.put, aq0, aq1, aq2]
          refine wpAnyH_done (by kernel_rfl) ?_ _
          refine NoPanic.normal ?_
          go_wp2
          go_ret
          exact ⟨ret_bool HX.out.symm, SW.drew⟩
        have HL1 := Lib.hid (show decide ((xs[j].dims.length : Int) < 1) = false from decide_eq_false (by omega))
        by_cases hl2 : 2 < xs[j].dims.length
        case pos =>
          have HL2 := Lib.hid (show decide (2 < (xs[j].dims.length : Int)) = true from decide_eq_true (by omega))
          have HX := Lib.hid (arrsOk_no (HD.out.trans (by rw [HA2.out, HDI.out, show inB (xs[j].dims.length : Int) 1 2 = false from (by first | exact inB_lo (by omega) | exact inB_hi (by omega)), Bool.false_and, Bool.false_and])))
          go_wp2_with fail
          rw [← HW.out]
          refine wp_region_noPanic ?_
          refine wp_region_held_drew (S := fun w' => Box2 w' wr.heap.size (.string xs[j].name) (.slice A2e xs[j].dims.length c2e)) (by kernel_rfl) (PW) (fun hHeld => ?_)
          refine takeR (i := 0) (v := ?_) rfl rfl (by kernel_rfl) (by kernel_rfl) (by kernel_rfl) (fun _ _ _ h => h) ?_ hHeld ?_
          rotate_left 1
          · intro w hSw; (try dsimp only at hSw); go_simp
            try simp only [HL1.out, HL2.out, HPB.out, HPD.out, if_false]
            try with_reducible rfl
          simp only [Act.put, aq0, aq1, aq2]
          refine takeR (i := 1) (v := ?_) rfl rfl (by kernel_rfl) (by kernel_rfl) (by kernel_rfl) (fun _ _ _ h => h) ?_ hHeld ?_
          rotate_left 1
          · intro w hSw; (try dsimp only at hSw); go_simp
            try simp only [HL1.out, HL2.out, HPB.out, HPD.out, if_false]
            try with_reducible rfl
          simp only [Act.put, aq0, aq1, aq2]
          refine takeR (i := 2) (v := ?_) rfl rfl (by kernel_rfl) (by kernel_rfl) (by kernel_rfl) (fun _ _ _ h => h) ?_ hHeld ?_
          rotate_left 1
          · intro w hSw; (try dsimp only at hSw); go_simp
            try simp only [HL1.out, HL2.out, HPB.out, HPD.out, if_false]
            try with_reducible rfl
          simp only [Act.put, aq0, aq1, aq2]
          refine takeR (i := 3) (v := ?_) rfl rfl (by kernel_rfl) (by kernel_rfl) (by kernel_rfl) (fun _ _ _ h => h) ?_ hHeld ?_
          rotate_left 1
          · intro w hSw; (try dsimp only at hSw); go_simp
            try simp only [HL1.out, HL2.out, HPB.out, HPD.out, if_false]
            try with_reducible rfl
          simp only [Act.put, aq0, aq1, aq2]
          refine takeR (i := 4) (v := ?_) rfl rfl (by kernel_rfl) (by kernel_rfl) (by kernel_rfl) (fun _ _ _ h => h) ?_ hHeld ?_
          rotate_left 1
          · intro w hSw; (try dsimp only at hSw); go_simp
            try simp only [HL1.out, HL2.out, HPB.out, HPD.out, if_false]
            try with_reducible rfl
          simp only [Act.put, aq0, aq1, aq2]
          refine takeG (i := 5) (v := ?_) rfl (by kernel_rfl) (by kernel_rfl) (by kernel_rfl) (by kernel_rfl) (fun _ _ _ h => h) ?_ hHeld ?_
          rotate_left 1
          · intro w hSw; (try dsimp only at hSw); go_simp
            try simp only [HL1.out, HL2.out, HPB.out, HPD.out, if_false]
            try with_reducible rfl
          simp only [Act.put, aq0, aq1, aq2]
          refine takeG (i := 6) (v := ?_) rfl (by kernel_rfl) (by kernel_rfl) (by kernel_rfl) (by kernel_rfl) (fun _ _ _ h => h) ?_ hHeld ?_
          rotate_left 1
          · intro w hSw; (try dsimp only at hSw); go_simp
            try simp only [HL1.out, HL2.out, HPB.out, HPD.out, if_false]
            try with_reducible rfl
          simp only [Act.put, aq0, aq1, aq2]
          refine takeG (i := 7) (v := ?_) rfl (by kernel_rfl) (by kernel_rfl) (by kernel_rfl) (by kernel_rfl) (fun _ _ _ h => h) ?_ hHeld ?_
          rotate_left 1
          · intro w hSw; (try dsimp only at hSw); go_simp
            try simp only [HL1.out, HL2.out, HPB.out, HPD.out, if_false]
            try with_reducible rfl
          simp only [Act.put, aq0, aq1, aq2]
          refine takeR (i := 8) (v := ?_) rfl rfl (by kernel_rfl) (by kernel_rfl) (by kernel_rfl) (fun _ _ _ h => h) ?_ hHeld ?_
          rotate_left 1
          · intro w hSw; (try dsimp only at hSw); go_simp
            try simp only [HL1.out, HL2.out, HPB.out, HPD.out, if_false]
            try with_reducible rfl
          simp only [Act.put, aq0, aq1, aq2]
          refine takeR (i := 9) (v := ?_) rfl rfl (by kernel_rfl) (by kernel_rfl) (by kernel_rfl) (fun _ _ _ h => h) ?_ hHeld ?_
          rotate_left 1
          · intro w hSw; (try dsimp only at hSw); go_simp
            try simp only [HL1.out, HL2.out, HPB.out, HPD.out, if_false]
            try with_reducible rfl
          simp only [Act.put, aq0, aq1, aq2]
          refine takeG (i := 10) (v := ?_) rfl (by kernel_rfl) (by kernel_rfl) (by kernel_rfl) (by kernel_rfl) (fun _ _ _ h => h) ?_ hHeld ?_
          rotate_left 1
          · intro w hSw; (try dsimp only at hSw); go_simp
            try simp only [HL1.out, HL2.out, HPB.out, HPD.out, if_false]
            try with_reducible rfl
          simp only [Act.put, aq0, aq1, aq2]
          refine takeG (i := 11) (v := ?_) rfl (by kernel_rfl) (by kernel_rfl) (by kernel_rfl) (by kernel_rfl) (fun _ _ _ h => h) ?_ hHeld ?_
          rotate_left 1
          · intro w hSw; (try dsimp only at hSw); go_simp
            try simp only [HL1.out, HL2.out, HPB.out, HPD.out, if_false]
            try with_reducible rfl
          simp only [Act.put, aq0, aq1, aq2]
          refine takeG (i := 12) (v := ?_) rfl (by kernel_rfl) (by kernel_rfl) (by kernel_rfl) (by kernel_rfl) (fun _ _ _ h => h) ?_ hHeld ?_
          rotate_left 1
          · intro w hSw; (try dsimp only at hSw); go_simp
            try simp only [HL1.out, HL2.out, HPB.out, HPD.out, if_false]
            try with_reducible rfl
          simp only [Act.put, aq0, aq1, aq2]
          refine takeR (i := 13) (v := ?_) rfl rfl (by kernel_rfl) (by kernel_rfl) (by kernel_rfl) (fun _ _ _ h => h) ?_ hHeld ?_
          rotate_left 1
          · intro w hSw; (try dsimp only at hSw); go_simp
            try simp only [HL1.out, HL2.out, HPB.out, HPD.out, if_false]
            try with_reducible rfl
          simp only [Act.put, aq0, aq1, aq2]
          refine takeR (i := 14) (v := ?_) rfl rfl (by kernel_rfl) (by kernel_rfl) (by kernel_rfl) (fun _ _ _ h => h) ?_ hHeld ?_
          rotate_left 1
          · intro w hSw; (try dsimp only at hSw); go_simp
            try simp only [HL1.out, HL2.out, HPB.out, HPD.out, if_false]
            try with_reducible rfl
          simp only [Act.put, aq0, aq1, aq2]
          refine takeG (i := 15) (v := ?_) rfl (by kernel_rfl) (by kernel_rfl) (by kernel_rfl) (by kernel_rfl) (fun _ _ _ h => h) ?_ hHeld ?_
          rotate_left 1
          · intro w hSw; (try dsimp only at hSw); go_simp
            try simp only [HL1.out, HL2.out, HPB.out, HPD.out, if_false]
            try with_reducible rfl
          simp only [Act.put, aq0, aq1, aq2]
          refine takeG (i := 16) (v := ?_) rfl (by kernel_rfl) (by kernel_rfl) (by kernel_rfl) (by kernel_rfl) (fun _ _ _ h => h) ?_ hHeld ?_
          rotate_left 1
          · intro w hSw; (try dsimp only at hSw); go_simp
            try simp only [HL1.out, HL2.out, HPB.out, HPD.out, if_false]
            try with_reducible rfl
          simp only [Act.put, aq0, aq1, aq2]
          refine takeG (i := 17) (v := ?_) rfl (by kernel_rfl) (by kernel_rfl) (by kernel_rfl) (by kernel_rfl) (fun _ _ _ h => h) ?_ hHeld ?_
          rotate_left 1
          · intro w hSw; (try dsimp only at hSw); go_simp
            try simp only [HL1.out, HL2.out, HPB.out, HPD.out, if_false]
            try with_reducible rfl
          simp only [Act.put, aq0, aq1, aq2]
          refine goS 18 hHeld ?_
          refine goS 19 hHeld ?_
          refine goS 20 hHeld ?_
          refine goS 21 hHeld ?_
          refine goS 22 hHeld ?_
          refine goS 23 hHeld ?_
          refine goS 24 hHeld ?_
          refine goS 25 hHeld ?_
          refine goS 26 hHeld ?_
          refine takeG (i := 27) (v := ?_) rfl (by kernel_rfl) (by kernel_rfl) (by kernel_rfl) (by kernel_rfl) (fun _ _ _ h => h) ?_ hHeld ?_
          rotate_left 1
          · intro w hSw; (try dsimp only at hSw); go_simp
            try simp only [HL1.out, HL2.out, HPB.out, HPD.out, if_false]
            try with_reducible rfl
          simp only [Act.put, aq0, aq1, aq2]
          refine takeR (i := 28) (v := ?_) rfl rfl (by kernel_rfl) (by kernel_rfl) (by kernel_rfl) (fun _ _ _ h => h) ?_ hHeld ?_
          rotate_left 1
          · intro w hSw; (try dsimp only at hSw); go_simp
            try simp only [HL1.out, HL2.out, HPB.out, HPD.out, if_false]
            try with_reducible rfl
          simp only [Act.put, aq0, aq1, aq2]
          refine takeR (i := 29) (v := ?_) rfl rfl (by kernel_rfl) (by kernel_rfl) (by kernel_rfl) (fun _ _ _ h => h) ?_ hHeld ?_
          rotate_left 1
          · intro w hSw; (try dsimp only at hSw); go_simp
            try simp only [HL1.out, HL2.out, HPB.out, HPD.out, if_false]
            try with_reducible rfl
          simp only [Act.put, aq0, aq1, aq2]
          refine takeG (i := 30) (v := ?_) rfl (by kernel_rfl) (by kernel_rfl) (by kernel_rfl) (by kernel_rfl) (fun _ _ _ h => h) ?_ hHeld ?_
          rotate_left 1
          · intro w hSw; (try dsimp only at hSw); go_simp
            try simp only [HL1.out, HL2.out, HPB.out, HPD.out, if_false]
            try with_reducible rfl
          simp only [Act.put, aq0, aq1, aq2]
          refine takeG (i := 31) (v := ?_) rfl (by kernel_rfl) (by kernel_rfl) (by kernel_rfl) (by kernel_rfl) (fun _ _ _ h => h) ?_ hHeld ?_
          rotate_left 1
          · intro w hSw; (try dsimp only at hSw); go_simp
            try simp only [HL1.out, HL2.out, HPB.out, HPD.out, if_false]
            try with_reducible rfl
          simp only [Act.put, aq0, aq1, aq2]
          refine takeG (i := 32) (v := ?_) rfl (by kernel_rfl) (by kernel_rfl) (by kernel_rfl) (by kernel_rfl) (fun _ _ _ h => h) ?_ hHeld ?_
          rotate_left 1
          · intro w hSw; (try dsimp only at hSw); go_simp
            try simp only [HL1.out, HL2.out, HPB.out, HPD.out, if_false]
            try with_reducible rfl
          simp only [Act.put, aq0, aq1, aq2]
          refine takeG (i := 33) (v := ?_) rfl (by kernel_rfl) (by kernel_rfl) (by kernel_rfl) (by kernel_rfl) (fun _ _ _ h => h) ?_ hHeld ?_
          rotate_left 1
          · intro w hSw; (try dsimp only at hSw); go_simp
            try simp only [HL1.out, HL2.out, HPB.out, HPD.out, if_false]
            try with_reducible rfl
          simp only [Act.put, aq0, aq1, aq2]
          refine takeR (i := 34) (v := ?_) rfl rfl (by kernel_rfl) (by kernel_rfl) (by kernel_rfl) (fun _ _ _ h => h) ?_ hHeld ?_
          rotate_left 1
          · intro w hSw; (try dsimp only at hSw); go_simp
            try simp only [HL1.out, HL2.out, HPB.out, HPD.out, if_false]
            try with_reducible rfl
          simp only [Act.put, aq0, aq1, aq2]
          refine takeR (i := 35) (v := ?_) rfl rfl (by kernel_rfl) (by kernel_rfl) (by kernel_rfl) (fun _ _ _ h => h) ?_ hHeld ?_
          rotate_left 1
          · intro w hSw; (try dsimp only at hSw); go_simp
            try simp only [HL1.out, HL2.out, HPB.out, HPD.out, if_false]
            try with_reducible rfl
          simp only [Act.put, aq0, aq1, aq2]
          refine takeG (i := 36) (v := ?_) rfl (by kernel_rfl) (by kernel_rfl) (by kernel_rfl) (by kernel_rfl) (fun _ _ _ h => h) ?_ hHeld ?_
          rotate_left 1
          · intro w hSw; (try dsimp only at hSw); go_simp
            try simp only [HL1.out, HL2.out, HPB.out, HPD.out, if_false]
            try with_reducible rfl
          simp only [Act.put, aq0, aq1, aq2]
          refine takeG (i := 37) (v := ?_) rfl (by kernel_rfl) (by kernel_rfl) (by kernel_rfl) (by kernel_rfl) (fun _ _ _ h => h) ?_ hHeld ?_
          rotate_left 1
          · intro w hSw; (try dsimp only at hSw); go_simp
            try simp only [HL1.out, HL2.out, HPB.out, HPD.out, if_false]
            try with_reducible rfl
          simp only [Act.put, aq0, aq1, aq2]
          refine takeG (i := 38) (v := ?_) rfl (by kernel_rfl) (by kernel_rfl) (by kernel_rfl) (by kernel_rfl) (fun _ _ _ h => h) ?_ hHeld ?_
          rotate_left 1
          · intro w hSw; (try dsimp only at hSw); go_simp
            try simp only [HL1.out, HL2.out, HPB.out, HPD.out, if_false]
            try with_reducible rfl
          simp only [Act.put, aq0, aq1, aq2]
          refine takeG (i := 39) (v := ?_) rfl (by kernel_rfl) (by kernel_rfl) (by kernel_rfl) (by kernel_rfl) (fun _ _ _ h => h) ?_ hHeld ?_
          rotate_left 1
          · intro w hSw; (try dsimp only at hSw); go_simp
            try simp only [HL1.out, HL2.out, HPB.out, HPD.out, if_false]
            try with_reducible rfl
          simp only [Act.put, aq0, aq1, aq2]
          refine takeR (i := 40) (v := ?_) rfl rfl (by kernel_rfl) (by kernel_rfl) (by kernel_rfl) (fun _ _ _ h => h) ?_ hHeld ?_
          rotate_left 1
          · intro w hSw; (try dsimp only at hSw); go_simp
            try simp only [HL1.out, HL2.out, HPB.out, HPD.out, if_false]
            try with_reducible rfl
          simp only [Act.put, aq0, aq1, aq2]
          refine wpAnyH_done (by kernel_rfl) ?_ _
          refine NoPanic.normal ?_
          go_wp2
          go_ret
          exact ⟨ret_bool HX.out.symm, SW.drew⟩
        have HWI := Lib.hid (show inB (xs[j].dims.length : Int) 1 2 = true from inB_true (by omega) (by omega))
        have HL2 := Lib.hid (show decide (2 < (xs[j].dims.length : Int)) = false from decide_eq_false (by omega))
        go_wp2_with fail
        rw [← HW.out]
        refine wp_region_noPanic ?_
        refine wp_region_held_drew (S := fun w' => Box2 w' wr.heap.size (.string xs[j].name) (.slice A2e xs[j].dims.length c2e)) (by kernel_rfl) (PW) (fun hHeld => ?_)
        refine takeR (i := 0) (v := ?_) rfl rfl (by kernel_rfl) (by kernel_rfl) (by kernel_rfl) (fun _ _ _ h => h) ?_ hHeld ?_
        rotate_left 1
        · intro w hSw; (try dsimp only at hSw); go_simp
          try simp only [HL1.out, HL2.out, HPB.out, HPD.out, if_false]
          try with_reducible rfl
        simp only [Act.put, aq0, aq1, aq2]
        refine takeR (i := 1) (v := ?_) rfl rfl (by kernel_rfl) (by kernel_rfl) (by kernel_rfl) (fun _ _ _ h => h) ?_ hHeld ?_
        rotate_left 1
        · intro w hSw; (try dsimp only at hSw); go_simp
          try simp only [HL1.out, HL2.out, HPB.out, HPD.out, if_false]
          try with_reducible rfl
        simp only [Act.put, aq0, aq1, aq2]
        refine takeR (i := 2) (v := ?_) rfl rfl (by kernel_rfl) (by kernel_rfl) (by kernel_rfl) (fun _ _ _ h => h) ?_ hHeld ?_
        rotate_left 1
        · intro w hSw; (try dsimp only at hSw); go_simp
          try simp only [HL1.out, HL2.out, HPB.out, HPD.out, if_false]
          try with_reducible rfl
        simp only [Act.put, aq0, aq1, aq2]
        refine takeR (i := 3) (v := ?_) rfl rfl (by kernel_rfl) (by kernel_rfl) (by kernel_rfl) (fun _ _ _ h => h) ?_ hHeld ?_
        rotate_left 1
        · intro w hSw; (try dsimp only at hSw); go_simp
          try simp only [HL1.out, HL2.out, HPB.out, HPD.out, if_false]
          try with_reducible rfl
        simp only [Act.put, aq0, aq1, aq2]
        refine takeR (i := 4) (v := ?_) rfl rfl (by kernel_rfl) (by kernel_rfl) (by kernel_rfl) (fun _ _ _ h => h) ?_ hHeld ?_
        rotate_left 1
        · intro w hSw; (try dsimp only at hSw); go_simp
          try simp only [HL1.out, HL2.out, HPB.out, HPD.out, if_false]
          try with_reducible rfl
        simp only [Act.put, aq0, aq1, aq2]
        refine takeG (i := 5) (v := ?_) rfl (by kernel_rfl) (by kernel_rfl) (by kernel_rfl) (by kernel_rfl) (fun _ _ _ h => h) ?_ hHeld ?_
        rotate_left 1
        · intro w hSw; (try dsimp only at hSw); go_simp
          try simp only [HL1.out, HL2.out, HPB.out, HPD.out, if_false]
          try with_reducible rfl
        simp only [Act.put, aq0, aq1, aq2]
        refine takeG (i := 6) (v := ?_) rfl (by kernel_rfl) (by kernel_rfl) (by kernel_rfl) (by kernel_rfl) (fun _ _ _ h => h) ?_ hHeld ?_
        rotate_left 1
        · intro w hSw; (try dsimp only at hSw); go_simp
          try simp only [HL1.out, HL2.out, HPB.out, HPD.out, if_false]
          try with_reducible rfl
        simp only [Act.put, aq0, aq1, aq2]
        refine takeG (i := 7) (v := ?_) rfl (by kernel_rfl) (by kernel_rfl) (by kernel_rfl) (by kernel_rfl) (fun _ _ _ h => h) ?_ hHeld ?_
        rotate_left 1
        · intro w hSw; (try dsimp only at hSw); go_simp
          try simp only [HL1.out, HL2.out, HPB.out, HPD.out, if_false]
          try with_reducible rfl
        simp only [Act.put, aq0, aq1, aq2]
        refine takeR (i := 8) (v := ?_) rfl rfl (by kernel_rfl) (by kernel_rfl) (by kernel_rfl) (fun _ _ _ h => h) ?_ hHeld ?_
        rotate_left 1
        · intro w hSw; (try dsimp only at hSw); go_simp
          try simp only [HL1.out, HL2.out, HPB.out, HPD.out, if_false]
          try with_reducible rfl
        simp only [Act.put, aq0, aq1, aq2]
        refine takeR (i := 9) (v := ?_) rfl rfl (by kernel_rfl) (by kernel_rfl) (by kernel_rfl) (fun _ _ _ h => h) ?_ hHeld ?_
        rotate_left 1
        · intro w hSw; (try dsimp only at hSw); go_simp
          try simp only [HL1.out, HL2.out, HPB.out, HPD.out, if_false]
          try with_reducible rfl
        simp only [Act.put, aq0, aq1, aq2]
        refine takeG (i := 10) (v := ?_) rfl (by kernel_rfl) (by kernel_rfl) (by kernel_rfl) (by kernel_rfl) (fun _ _ _ h => h) ?_ hHeld ?_
        rotate_left 1
        · intro w hSw; (try dsimp only at hSw); go_simp
          try simp only [HL1.out, HL2.out, HPB.out, HPD.out, if_false]
          try with_reducible rfl
        simp only [Act.put, aq0, aq1, aq2]
        refine takeG (i := 11) (v := ?_) rfl (by kernel_rfl) (by kernel_rfl) (by kernel_rfl) (by kernel_rfl) (fun _ _ _ h => h) ?_ hHeld ?_
        rotate_left 1
        · intro w hSw; (try dsimp only at hSw); go_simp
          try simp only [HL1.out, HL2.out, HPB.out, HPD.out, if_false]
          try with_reducible rfl
        simp only [Act.put, aq0, aq1, aq2]
        refine takeG (i := 12) (v := ?_) rfl (by kernel_rfl) (by kernel_rfl) (by kernel_rfl) (by kernel_rfl) (fun _ _ _ h => h) ?_ hHeld ?_
        rotate_left 1
        · intro w hSw; (try dsimp only at hSw); go_simp
          try simp only [HL1.out, HL2.out, HPB.out, HPD.out, if_false]
          try with_reducible rfl
        simp only [Act.put, aq0, aq1, aq2]
        refine takeR (i := 13) (v := ?_) rfl rfl (by kernel_rfl) (by kernel_rfl) (by kernel_rfl) (fun _ _ _ h => h) ?_ hHeld ?_
        rotate_left 1
        · intro w hSw; (try dsimp only at hSw); go_simp
          try simp only [HL1.out, HL2.out, HPB.out, HPD.out, if_false]
          try with_reducible rfl
        simp only [Act.put, aq0, aq1, aq2]
        refine takeR (i := 14) (v := ?_) rfl rfl (by kernel_rfl) (by kernel_rfl) (by kernel_rfl) (fun _ _ _ h => h) ?_ hHeld ?_
        rotate_left 1
        · intro w hSw; (try dsimp only at hSw); go_simp
          try simp only [HL1.out, HL2.out, HPB.out, HPD.out, if_false]
          try with_reducible rfl
        simp only [Act.put, aq0, aq1, aq2]
        refine takeG (i := 15) (v := ?_) rfl (by kernel_rfl) (by kernel_rfl) (by kernel_rfl) (by kernel_rfl) (fun _ _ _ h => h) ?_ hHeld ?_
        rotate_left 1
        · intro w hSw; (try dsimp only at hSw); go_simp
          try simp only [HL1.out, HL2.out, HPB.out, HPD.out, if_false]
          try with_reducible rfl
        simp only [Act.put, aq0, aq1, aq2]
        refine takeG (i := 16) (v := ?_) rfl (by kernel_rfl) (by kernel_rfl) (by kernel_rfl) (by kernel_rfl) (fun _ _ _ h => h) ?_ hHeld ?_
        rotate_left 1
        · intro w hSw; (try dsimp only at hSw); go_simp
          try simp only [HL1.out, HL2.out, HPB.out, HPD.out, if_false]
          try with_reducible rfl
        simp only [Act.put, aq0, aq1, aq2]
        refine takeG (i := 17) (v := ?_) rfl (by kernel_rfl) (by kernel_rfl) (by kernel_rfl) (by kernel_rfl) (fun _ _ _ h => h) ?_ hHeld ?_
        rotate_left 1
        · intro w hSw; (try dsimp only at hSw); go_simp
          try simp only [HL1.out, HL2.out, HPB.out, HPD.out, if_false]
          try with_reducible rfl
        simp only [Act.put, aq0, aq1, aq2]
        refine goS 18 hHeld ?_
        refine goS 19 hHeld ?_
        refine goS 20 hHeld ?_
        refine goS 21 hHeld ?_
        refine goS 22 hHeld ?_
        refine goS 23 hHeld ?_
        refine goS 24 hHeld ?_
        refine goS 25 hHeld ?_
        refine goS 26 hHeld ?_
        refine takeG (i := 27) (v := ?_) rfl (by kernel_rfl) (by kernel_rfl) (by kernel_rfl) (by kernel_rfl) (fun _ _ _ h => h) ?_ hHeld ?_
        rotate_left 1
        · intro w hSw; (try dsimp only at hSw); go_simp
          try simp only [HL1.out, HL2.out, HPB.out, HPD.out, if_false]
          try with_reducible rfl
        simp only [Act.put, aq0, aq1, aq2]
        refine takeR (i := 28) (v := ?_) rfl rfl (by kernel_rfl) (by kernel_rfl) (by kernel_rfl) (fun _ _ _ h => h) ?_ hHeld ?_
        rotate_left 1
        · intro w hSw; (try dsimp only at hSw); go_simp
          try simp only [HL1.out, HL2.out, HPB.out, HPD.out, if_false]
          try with_reducible rfl
        simp only [Act.put, aq0, aq1, aq2]
        refine takeR (i := 29) (v := ?_) rfl rfl (by kernel_rfl) (by kernel_rfl) (by kernel_rfl) (fun _ _ _ h => h) ?_ hHeld ?_
        rotate_left 1
        · intro w hSw; (try dsimp only at hSw); go_simp
          try simp only [HL1.out, HL2.out, HPB.out, HPD.out, if_false]
          try with_reducible rfl
        simp only [Act.put, aq0, aq1, aq2]
        refine takeG (i := 30) (v := ?_) rfl (by kernel_rfl) (by kernel_rfl) (by kernel_rfl) (by kernel_rfl) (fun _ _ _ h => h) ?_ hHeld ?_
        rotate_left 1
        · intro w hSw; (try dsimp only at hSw); go_simp
          try simp only [HL1.out, HL2.out, HPB.out, HPD.out, if_false]
          try with_reducible rfl
        simp only [Act.put, aq0, aq1, aq2]
        refine takeG (i := 31) (v := ?_) rfl (by kernel_rfl) (by kernel_rfl) (by kernel_rfl) (by kernel_rfl) (fun _ _ _ h => h) ?_ hHeld ?_
        rotate_left 1
        · intro w hSw; (try dsimp only at hSw); go_simp
          try simp only [HL1.out, HL2.out, HPB.out, HPD.out, if_false]
          try with_reducible rfl
        simp only [Act.put, aq0, aq1, aq2]
        refine takeG (i := 32) (v := ?_) rfl (by kernel_rfl) (by kernel_rfl) (by kernel_rfl) (by kernel_rfl) (fun _ _ _ h => h) ?_ hHeld ?_
        rotate_left 1
        · intro w hSw; (try dsimp only at hSw); go_simp
          try simp only [HL1.out, HL2.out, HPB.out, HPD.out, if_false]
          try with_reducible rfl
        simp only [Act.put, aq0, aq1, aq2]
        refine takeG (i := 33) (v := ?_) rfl (by kernel_rfl) (by kernel_rfl) (by kernel_rfl) (by kernel_rfl) (fun _ _ _ h => h) ?_ hHeld ?_
        rotate_left 1
        · intro w hSw; (try dsimp only at hSw); go_simp
          try simp only [HL1.out, HL2.out, HPB.out, HPD.out, if_false]
          try with_reducible rfl
        simp only [Act.put, aq0, aq1, aq2]
        refine takeR (i := 34) (v := ?_) rfl rfl (by kernel_rfl) (by kernel_rfl) (by kernel_rfl) (fun _ _ _ h => h) ?_ hHeld ?_
        rotate_left 1
        · intro w hSw; (try dsimp only at hSw); go_simp
          try simp only [HL1.out, HL2.out, HPB.out, HPD.out, if_false]
          try with_reducible rfl
        simp only [Act.put, aq0, aq1, aq2]
        refine takeR (i := 35) (v := ?_) rfl rfl (by kernel_rfl) (by kernel_rfl) (by kernel_rfl) (fun _ _ _ h => h) ?_ hHeld ?_
        rotate_left 1
        · intro w hSw; (try dsimp only at hSw); go_simp
          try simp only [HL1.out, HL2.out, HPB.out, HPD.out, if_false]
          try with_reducible rfl
        simp only [Act.put, aq0, aq1, aq2]
        refine takeG (i := 36) (v := ?_) rfl (by kernel_rfl) (by kernel_rfl) (by kernel_rfl) (by kernel_rfl) (fun _ _ _ h => h) ?_ hHeld ?_
        rotate_left 1
        · intro w hSw; (try dsimp only at hSw); go_simp
          try simp only [HL1.out, HL2.out, HPB.out, HPD.out, if_false]
          try with_reducible rfl
        simp only [Act.put, aq0, aq1, aq2]
        refine takeG (i := 37) (v := ?_) rfl (by kernel_rfl) (by kernel_rfl) (by kernel_rfl) (by kernel_rfl) (fun _ _ _ h => h) ?_ hHeld ?_
        rotate_left 1
        · intro w hSw; (try dsimp only at hSw); go_simp
          try simp only [HL1.out, HL2.out, HPB.out, HPD.out, if_false]
          try with_reducible rfl
        simp only [Act.put, aq0, aq1, aq2]
        refine takeG (i := 38) (v := ?_) rfl (by kernel_rfl) (by kernel_rfl) (by kernel_rfl) (by kernel_rfl) (fun _ _ _ h => h) ?_ hHeld ?_
        rotate_left 1
        · intro w hSw; (try dsimp only at hSw); go_simp
          try simp only [HL1.out, HL2.out, HPB.out, HPD.out, if_false]
          try with_reducible rfl
        simp only [Act.put, aq0, aq1, aq2]
        refine takeG (i := 39) (v := ?_) rfl (by kernel_rfl) (by kernel_rfl) (by kernel_rfl) (by kernel_rfl) (fun _ _ _ h => h) ?_ hHeld ?_
        rotate_left 1
        · intro w hSw; (try dsimp only at hSw); go_simp
          try simp only [HL1.out, HL2.out, HPB.out, HPD.out, if_false]
          try with_reducible rfl
        simp only [Act.put, aq0, aq1, aq2]
        refine takeR (i := 40) (v := ?_) rfl rfl (by kernel_rfl) (by kernel_rfl) (by kernel_rfl) (fun _ _ _ h => h) ?_ hHeld ?_
        rotate_left 1
        · intro w hSw; (try dsimp only at hSw); go_simp
          try simp only [HL1.out, HL2.out, HPB.out, HPD.out, if_false]
          try with_reducible rfl
        simp only [Act.put, aq0, aq1, aq2]
        refine wpAnyH_done (by kernel_rfl) ?_ _
        refine NoPanic.normal ?_
        obtain ⟨g, hg⟩ : ∃ g, g = wr.heap.size := ⟨_, rfl⟩
        have HG := Lib.hid hg
        have Pg := hHeld
        have hgw : w.heap.size ≤ g := by rw [HG.out]; exact HG0.out
        go_wp2
        rw [← HG.out]
        rw [← HG.out] at Pg
        go_loopw [5] (fun i wq => ∃ k : Nat, k ≤ xs[j].dims.length ∧ i = .int .i64 k ∧ xs[j].dims.any dimBad = (xs[j].dims.drop k).any dimBad ∧ Box2 wq g (.string xs[j].name) (.slice A2e xs[j].dims.length c2e) ∧ Rep wq (ints xs[j].dims) [.slice A2e xs[j].dims.length c2e] le ∧ Below w.heap.size w wq) (fun i _ => xs[j].dims.length - (intOf i).toNat)
        case atStart => exact ⟨0, Nat.zero_le _, rfl, by simp, Pg, Q2w.out.drewN 1, SW.drew⟩
        case round =>
          clear Pg Q2w SW hg BW PW hHeld
          obtain ⟨k, hk, rfl, hi2, Pr, hr, hb3⟩ := hrel
          have HI2 := Lib.hid hi2; clear hi2
          have HR := Lib.hid hr; clear hr
          by_cases hkt : k < xs[j].dims.length
          · obtain ⟨bd, od, hAd, _, hbd, hcd, _⟩ := HR.out.ints_at hkt
            subst hAd
            have HAS := Lib.hid (HI2.out.trans (any_step xs[j].dims k hkt))
            by_cases hd1 : gi xs[j].dims k < 1
            case pos =>
              have HX := Lib.hid (arrsOk_no (HD.out.trans (by rw [HA2.out, HDI.out, HAS.out, show dimBad (gi xs[j].dims k) = true from (by rw [dimBad, inB_lo (by omega)]; rfl), Bool.true_or, Bool.not_true, Bool.and_false, Bool.false_and])))
              go_wp2
              go_ret
              exact ⟨ret_bool HX.out.symm, hb3⟩
            by_cases hd2 : 6 < gi xs[j].dims k
            case pos =>
              have HX := Lib.hid (arrsOk_no (HD.out.trans (by rw [HA2.out, HDI.out, HAS.out, show dimBad (gi xs[j].dims k) = true from (by rw [dimBad, inB_hi (by omega)]; rfl), Bool.true_or, Bool.not_true, Bool.and_false, Bool.false_and])))
              go_wp2
              go_ret
              exact ⟨ret_bool HX.out.symm, hb3⟩
            have HX := Lib.hid (HAS.out.trans (by rw [show dimBad (gi xs[j].dims k) = false from (by rw [dimBad, inB_true (by omega) (by omega)]; rfl), Bool.false_or]))
            go_wp2
            go_roundw
            case rel => exact ⟨k + 1, by omega, by go_num, HX.out, Pr, HR.out, hb3⟩
            case measure => simp [intOf]; omega
          · have hkk : k = xs[j].dims.length := by omega
            subst hkk
            have HX := Lib.hid (HD.out.trans (by rw [HA2.out, HDI.out, HWI.out, HI2.out, List.drop_length] <;> simp))
            go_wp2
            go_roundw
            case rel => exact ⟨j + 1, by omega, by go_num, HX.out, hb3⟩
            case measure => simp [intOf]; omega
      | false =>
        obtain ⟨m, rfl⟩ : ∃ m, j = m + 1 := ⟨j - 1, by have := of_decide_eq_false hj0; omega⟩
        have hm : m < xs.length := by omega
        have HWM := Lib.hid (show IntKind.i64.wrap (m : Int) = (m : Int) from IntWalk.i64_in _ (by omega))
        have hm0 : (0 ≤ (m : Int)) = True := eq_true (by omega)
        have hm1 : ((m : Int) < (xs.length : Int)) = True := eq_true (by omega)
        have HO := Lib.hid (show ordAt xs (m + 1) = ltB xs[m].name xs[m + 1].name by rw [ordAt, hj0, Bool.false_or, Nat.add_sub_cancel, nthA_eq hm, nthA_eq hlt])
        clear hj0
        obtain ⟨bf, of, csf, lf, heqf, hblf, hrf, _, _, hcf⟩ := (H.out.below hb).sls_at Ar.d_size (k := m) hm
        obtain ⟨rfl, rfl⟩ : be = bf ∧ oe = of := by simpa using heqf
        have Gf := Lib.hid hrf
        obtain ⟨A2f, c2f, d2f, rfl, rfl, g1f, g2f⟩ := Rep.ar_iff.1 hrf
        have k0f := (hcf 0 _ rfl).1; rw [Nat.add_zero] at k0f
        have k1f := (hcf 1 _ rfl).1
        have Q1f := Lib.hid g1f
        have Q2f := Lib.hid g2f
        clear hcf hrf g1f g2f
        have F0 := (BW.cell hblf).trans k0f
        clear k0f k1f
        cases ho : ltB xs[m].name xs[m + 1].name with
        | false =>
          have HX := Lib.hid (arrsOk_no (HD.out.trans (by rw [HA.out, HV.out, HO.out, ho, Bool.false_and, Bool.and_false, Bool.false_and])))
          have hbl1 := int_ge ho
          clear ho
          go_wp2_with fail
          rw [← HW.out]
          refine wp_region_noPanic ?_
          refine wp_region_held_drew (S := fun w' => Box2 w' wr.heap.size (.string xs[m + 1].name) (.slice A2e xs[m + 1].dims.length c2e) ∧ w'.cell? ⟨be, oe + m * 2, none⟩ = some (.string xs[m].name)) (by kernel_rfl) (⟨PW, F0⟩) (fun hHeld => ?_)
          refine takeR (i := 0) (v := ?_) rfl rfl (by kernel_rfl) (by kernel_rfl) (by kernel_rfl) (fun _ _ _ h => h) ?_ hHeld ?_
          rotate_left 1
          · intro w hSw; (try dsimp only at hSw); go_simp
            try simp only [HPB.out, HPD.out, if_false, HWM.out, hm0, hm1, and_self, if_true, Int.toNat_natCast]
            try with_reducible rfl
          simp only [Act.put, aq0, aq1, aq2]
          refine takeR (i := 1) (v := ?_) rfl rfl (by kernel_rfl) (by kernel_rfl) (by kernel_rfl) (fun _ _ _ h => h) ?_ hHeld ?_
          rotate_left 1
          · intro w hSw; (try dsimp only at hSw); go_simp
            try simp only [HPB.out, HPD.out, if_false, HWM.out, hm0, hm1, and_self, if_true, Int.toNat_natCast]
            try with_reducible rfl
          simp only [Act.put, aq0, aq1, aq2]
          refine takeR (i := 2) (v := ?_) rfl rfl (by kernel_rfl) (by kernel_rfl) (by kernel_rfl) (fun _ _ _ h => h) ?_ hHeld ?_
          rotate_left 1
          · intro w hSw; (try dsimp only at hSw); go_simp
            try simp only [HPB.out, HPD.out, if_false, HWM.out, hm0, hm1, and_self, if_true, Int.toNat_natCast]
            try with_reducible rfl
          simp only [Act.put, aq0, aq1, aq2]
          refine takeR (i := 3) (v := ?_) rfl rfl (by kernel_rfl) (by kernel_rfl) (by kernel_rfl) (fun _ _ _ h => h) ?_ hHeld ?_
          rotate_left 1
          · intro w hSw; (try dsimp only at hSw); go_simp
            try simp only [HPB.out, HPD.out, if_false, HWM.out, hm0, hm1, and_self, if_true, Int.toNat_natCast]
            try with_reducible rfl
          simp only [Act.put, aq0, aq1, aq2]
          refine takeR (i := 4) (v := ?_) rfl rfl (by kernel_rfl) (by kernel_rfl) (by kernel_rfl) (fun _ _ _ h => h) ?_ hHeld ?_
          rotate_left 1
          · intro w hSw; (try dsimp only at hSw); go_simp
            try simp only [HPB.out, HPD.out, if_false, HWM.out, hm0, hm1, and_self, if_true, Int.toNat_natCast]
            try with_reducible rfl
          simp only [Act.put, aq0, aq1, aq2]
          refine takeG (i := 5) (v := ?_) rfl (by kernel_rfl) (by kernel_rfl) (by kernel_rfl) (by kernel_rfl) (fun _ _ _ h => h) ?_ hHeld ?_
          rotate_left 1
          · intro w hSw; (try dsimp only at hSw); go_simp
            try simp only [HPB.out, HPD.out, if_false, HWM.out, hm0, hm1, and_self, if_true, Int.toNat_natCast]
            try with_reducible rfl
          simp only [Act.put, aq0, aq1, aq2]
          refine takeG (i := 6) (v := ?_) rfl (by kernel_rfl) (by kernel_rfl) (by kernel_rfl) (by kernel_rfl) (fun _ _ _ h => h) ?_ hHeld ?_
          rotate_left 1
          · intro w hSw; (try dsimp only at hSw); go_simp
            try simp only [HPB.out, HPD.out, if_false, HWM.out, hm0, hm1, and_self, if_true, Int.toNat_natCast]
            try with_reducible rfl
          simp only [Act.put, aq0, aq1, aq2]
          refine takeG (i := 7) (v := ?_) rfl (by kernel_rfl) (by kernel_rfl) (by kernel_rfl) (by kernel_rfl) (fun _ _ _ h => h) ?_ hHeld ?_
          rotate_left 1
          · intro w hSw; (try dsimp only at hSw); go_simp
            try simp only [HPB.out, HPD.out, if_false, HWM.out, hm0, hm1, and_self, if_true, Int.toNat_natCast]
            try with_reducible rfl
          simp only [Act.put, aq0, aq1, aq2]
          refine takeR (i := 8) (v := ?_) rfl rfl (by kernel_rfl) (by kernel_rfl) (by kernel_rfl) (fun _ _ _ h => h) ?_ hHeld ?_
          rotate_left 1
          · intro w hSw; (try dsimp only at hSw); go_simp
            try simp only [HPB.out, HPD.out, if_false, HWM.out, hm0, hm1, and_self, if_true, Int.toNat_natCast]
            try with_reducible rfl
          simp only [Act.put, aq0, aq1, aq2]
          refine takeR (i := 9) (v := ?_) rfl rfl (by kernel_rfl) (by kernel_rfl) (by kernel_rfl) (fun _ _ _ h => h) ?_ hHeld ?_
          rotate_left 1
          · intro w hSw; (try dsimp only at hSw); go_simp
            try simp only [HPB.out, HPD.out, if_false, HWM.out, hm0, hm1, and_self, if_true, Int.toNat_natCast]
            try with_reducible rfl
          simp only [Act.put, aq0, aq1, aq2]
          refine takeG (i := 10) (v := ?_) rfl (by kernel_rfl) (by kernel_rfl) (by kernel_rfl) (by kernel_rfl) (fun _ _ _ h => h) ?_ hHeld ?_
          rotate_left 1
          · intro w hSw; (try dsimp only at hSw); go_simp
            try simp only [HPB.out, HPD.out, if_false, HWM.out, hm0, hm1, and_self, if_true, Int.toNat_natCast]
            try with_reducible rfl
          simp only [Act.put, aq0, aq1, aq2]
          refine takeG (i := 11) (v := ?_) rfl (by kernel_rfl) (by kernel_rfl) (by kernel_rfl) (by kernel_rfl) (fun _ _ _ h => h) ?_ hHeld ?_
          rotate_left 1
          · intro w hSw; (try dsimp only at hSw); go_simp
            try simp only [HPB.out, HPD.out, if_false, HWM.out, hm0, hm1, and_self, if_true, Int.toNat_natCast]
            try with_reducible rfl
          simp only [Act.put, aq0, aq1, aq2]
          refine takeG (i := 12) (v := ?_) rfl (by kernel_rfl) (by kernel_rfl) (by kernel_rfl) (by kernel_rfl) (fun _ _ _ h => h) ?_ hHeld ?_
          rotate_left 1
          · intro w hSw; (try dsimp only at hSw); go_simp
            try simp only [HPB.out, HPD.out, if_false, HWM.out, hm0, hm1, and_self, if_true, Int.toNat_natCast]
            try with_reducible rfl
          simp only [Act.put, aq0, aq1, aq2]
          refine takeR (i := 13) (v := ?_) rfl rfl (by kernel_rfl) (by kernel_rfl) (by kernel_rfl) (fun _ _ _ h => h) ?_ hHeld ?_
          rotate_left 1
          · intro w hSw; (try dsimp only at hSw); go_simp
            try simp only [HPB.out, HPD.out, if_false, HWM.out, hm0, hm1, and_self, if_true, Int.toNat_natCast]
            try with_reducible rfl
          simp only [Act.put, aq0, aq1, aq2]
          refine takeR (i := 14) (v := ?_) rfl rfl (by kernel_rfl) (by kernel_rfl) (by kernel_rfl) (fun _ _ _ h => h) ?_ hHeld ?_
          rotate_left 1
          · intro w hSw; (try dsimp only at hSw); go_simp
            try simp only [HPB.out, HPD.out, if_false, HWM.out, hm0, hm1, and_self, if_true, Int.toNat_natCast]
            try with_reducible rfl
          simp only [Act.put, aq0, aq1, aq2]
          refine takeG (i := 15) (v := ?_) rfl (by kernel_rfl) (by kernel_rfl) (by kernel_rfl) (by kernel_rfl) (fun _ _ _ h => h) ?_ hHeld ?_
          rotate_left 1
          · intro w hSw; (try dsimp only at hSw); go_simp
            try simp only [HPB.out, HPD.out, if_false, HWM.out, hm0, hm1, and_self, if_true, Int.toNat_natCast]
            try with_reducible rfl
          simp only [Act.put, aq0, aq1, aq2]
          refine takeG (i := 16) (v := ?_) rfl (by kernel_rfl) (by kernel_rfl) (by kernel_rfl) (by kernel_rfl) (fun _ _ _ h => h) ?_ hHeld ?_
          rotate_left 1
          · intro w hSw; (try dsimp only at hSw); go_simp
            try simp only [HPB.out, HPD.out, if_false, HWM.out, hm0, hm1, and_self, if_true, Int.toNat_natCast]
            try with_reducible rfl
          simp only [Act.put, aq0, aq1, aq2]
          refine takeG (i := 17) (v := ?_) rfl (by kernel_rfl) (by kernel_rfl) (by kernel_rfl) (by kernel_rfl) (fun _ _ _ h => h) ?_ hHeld ?_
          rotate_left 1
          · intro w hSw; (try dsimp only at hSw); go_simp
            try simp only [HPB.out, HPD.out, if_false, HWM.out, hm0, hm1, and_self, if_true, Int.toNat_natCast]
            try with_reducible rfl
          simp only [Act.put, aq0, aq1, aq2]
          refine takeG (i := 18) (v := ?_) rfl (by kernel_rfl) (by kernel_rfl) (by kernel_rfl) (by kernel_rfl) (fun _ _ _ h => h) ?_ hHeld ?_
          rotate_left 1
          · intro w hSw; (try dsimp only at hSw); go_simp
            try simp only [HPB.out, HPD.out, if_false, HWM.out, hm0, hm1, and_self, if_true, Int.toNat_natCast]
            try with_reducible rfl
          simp only [Act.put, aq0, aq1, aq2]
          refine takeG (i := 19) (v := ?_) rfl (by kernel_rfl) (by kernel_rfl) (by kernel_rfl) (by kernel_rfl) (fun _ _ _ h => h) ?_ hHeld ?_
          rotate_left 1
          · intro w hSw; (try dsimp only at hSw); go_simp
            try simp only [HPB.out, HPD.out, if_false, HWM.out, hm0, hm1, and_self, if_true, Int.toNat_natCast]
            try with_reducible rfl
          simp only [Act.put, aq0, aq1, aq2]
          refine takeG (i := 20) (v := ?_) rfl (by kernel_rfl) (by kernel_rfl) (by kernel_rfl) (by kernel_rfl) (fun _ _ _ h => h) ?_ hHeld ?_
          rotate_left 1
          · intro w hSw; (try dsimp only at hSw); go_simp
            try simp only [HPB.out, HPD.out, if_false, HWM.out, hm0, hm1, and_self, if_true, Int.toNat_natCast]
            try with_reducible rfl
          simp only [Act.put, aq0, aq1, aq2]
          refine takeG (i := 21) (v := ?_) rfl (by kernel_rfl) (by kernel_rfl) (by kernel_rfl) (by kernel_rfl) (fun _ _ _ h => h) ?_ hHeld ?_
          rotate_left 1
          · intro w hSw; (try dsimp only at hSw); go_simp
            try simp only [HPB.out, HPD.out, if_false, HWM.out, hm0, hm1, and_self, if_true, Int.toNat_natCast]
            try with_reducible rfl
          simp only [Act.put, aq0, aq1, aq2]
          refine takeG (i := 22) (v := ?_) rfl (by kernel_rfl) (by kernel_rfl) (by kernel_rfl) (by kernel_rfl) (fun _ _ _ h => h) ?_ hHeld ?_
          rotate_left 1
          · intro w hSw; (try dsimp only at hSw); go_simp
            try simp only [HPB.out, HPD.out, if_false, HWM.out, hm0, hm1, and_self, if_true, Int.toNat_natCast]
            try with_reducible rfl
          simp only [Act.put, aq0, aq1, aq2]
          refine takeG (i := 23) (v := ?_) rfl (by kernel_rfl) (by kernel_rfl) (by kernel_rfl) (by kernel_rfl) (fun _ _ _ h => h) ?_ hHeld ?_
          rotate_left 1
          · intro w hSw; (try dsimp only at hSw); go_simp
            try simp only [HPB.out, HPD.out, if_false, HWM.out, hm0, hm1, and_self, if_true, Int.toNat_natCast]
            try with_reducible rfl
          simp only [Act.put, aq0, aq1, aq2]
          refine takeG (i := 24) (v := ?_) rfl (by kernel_rfl) (by kernel_rfl) (by kernel_rfl) (by kernel_rfl) (fun _ _ _ h => h) ?_ hHeld ?_
          rotate_left 1
          · intro w hSw; (try dsimp only at hSw); go_simp
            try simp only [HPB.out, HPD.out, if_false, HWM.out, hm0, hm1, and_self, if_true, Int.toNat_natCast]
            try with_reducible rfl
          simp only [Act.put, aq0, aq1, aq2]
          refine takeG (i := 25) (v := ?_) rfl (by kernel_rfl) (by kernel_rfl) (by kernel_rfl) (by kernel_rfl) (fun _ _ _ h => h) ?_ hHeld ?_
          rotate_left 1
          · intro w hSw; (try dsimp only at hSw); go_simp
            try simp only [HPB.out, HPD.out, if_false, HWM.out, hm0, hm1, and_self, if_true, Int.toNat_natCast]
            try with_reducible rfl
          simp only [Act.put, aq0, aq1, aq2]
          refine takeG (i := 26) (v := ?_) rfl (by kernel_rfl) (by kernel_rfl) (by kernel_rfl) (by kernel_rfl) (fun _ _ _ h => h) ?_ hHeld ?_
          rotate_left 1
          · intro w hSw; (try dsimp only at hSw); go_simp
            try simp only [HPB.out, HPD.out, if_false, HWM.out, hm0, hm1, and_self, if_true, Int.toNat_natCast]
            try with_reducible rfl
          simp only [Act.put, aq0, aq1, aq2]
          refine takeG (i := 27) (v := ?_) rfl (by kernel_rfl) (by kernel_rfl) (by kernel_rfl) (by kernel_rfl) (fun _ _ _ h => h) ?_ hHeld ?_
          rotate_left 1
          · intro w hSw; (try dsimp only at hSw); go_simp
            try simp only [HPB.out, HPD.out, if_false, HWM.out, hm0, hm1, and_self, if_true, Int.toNat_natCast]
            try with_reducible rfl
          simp only [Act.put, aq0, aq1, aq2]
          refine takeR (i := 28) (v := ?_) rfl rfl (by kernel_rfl) (by kernel_rfl) (by kernel_rfl) (fun _ _ _ h => h) ?_ hHeld ?_
          rotate_left 1
          · intro w hSw; (try dsimp only at hSw); go_simp
            try simp only [HPB.out, HPD.out, if_false, HWM.out, hm0, hm1, and_self, if_true, Int.toNat_natCast]
            try with_reducible rfl
          simp only [Act.put, aq0, aq1, aq2]
          refine takeR (i := 29) (v := ?_) rfl rfl (by kernel_rfl) (by kernel_rfl) (by kernel_rfl) (fun _ _ _ h => h) ?_ hHeld ?_
          rotate_left 1
          · intro w hSw; (try dsimp only at hSw); go_simp
            try simp only [HPB.out, HPD.out, if_false, HWM.out, hm0, hm1, and_self, if_true, Int.toNat_natCast]
            try with_reducible rfl
          simp only [Act.put, aq0, aq1, aq2]
          refine goS 30 hHeld ?_
          refine goS 31 hHeld ?_
          refine goS 32 hHeld ?_
          refine goS 33 hHeld ?_
          refine takeR (i := 34) (v := ?_) rfl rfl (by kernel_rfl) (by kernel_rfl) (by kernel_rfl) (fun _ _ _ h => h) ?_ hHeld ?_
          rotate_left 1
          · intro w hSw; (try dsimp only at hSw); go_simp
            try simp only [HPB.out, HPD.out, if_false, HWM.out, hm0, hm1, and_self, if_true, Int.toNat_natCast]
            try with_reducible rfl
          simp only [Act.put, aq0, aq1, aq2]
          refine takeR (i := 35) (v := ?_) rfl rfl (by kernel_rfl) (by kernel_rfl) (by kernel_rfl) (fun _ _ _ h => h) ?_ hHeld ?_
          rotate_left 1
          · intro w hSw; (try dsimp only at hSw); go_simp
            try simp only [HPB.out, HPD.out, if_false, HWM.out, hm0, hm1, and_self, if_true, Int.toNat_natCast]
            try with_reducible rfl
          simp only [Act.put, aq0, aq1, aq2]
          refine goS 36 hHeld ?_
          refine goS 37 hHeld ?_
          refine goS 38 hHeld ?_
          refine goS 39 hHeld ?_
          refine takeR (i := 40) (v := ?_) rfl rfl (by kernel_rfl) (by kernel_rfl) (by kernel_rfl) (fun _ _ _ h => h) ?_ hHeld ?_
          rotate_left 1
          · intro w hSw; (try dsimp only at hSw); go_simp
            try simp only [HPB.out, HPD.out, if_false, HWM.out, hm0, hm1, and_self, if_true, Int.toNat_natCast]
            try with_reducible rfl
          simp only [Act.put, aq0, aq1, aq2]
          refine wpAnyH_done (by kernel_rfl) ?_ _
          refine NoPanic.normal ?_
          go_wp2
          go_ret
          exact ⟨ret_bool HX.out.symm, SW.drew⟩
        | true =>
          have HA2 := Lib.hid (show arrAt xs (m + 1) = dimsOk xs[m + 1].dims by rw [HA.out, HV.out, HO.out, ho, Bool.true_and, Bool.true_and])
          have hbl1 := int_ge ho
          clear ho
          by_cases hl1 : xs[m + 1].dims.length < 1
          case pos =>
            have HL1 := Lib.hid (show decide ((xs[m + 1].dims.length : Int) < 1) = true from decide_eq_true (by omega))
            have HX := Lib.hid (arrsOk_no (HD.out.trans (by rw [HA2.out, HDI.out, show inB (xs[m + 1].dims.length : Int) 1 2 = false from (by first | exact inB_lo (by omega) | exact inB_hi (by omega)), Bool.false_and, Bool.false_and])))
            go_wp2_with fail
            rw [← HW.out]
            refine wp_region_noPanic ?_
            refine wp_region_held_drew (S := fun w' => Box2 w' wr.heap.size (.string xs[m + 1].name) (.slice A2e xs[m + 1].dims.length c2e) ∧ w'.cell? ⟨be, oe + m * 2, none⟩ = some (.string xs[m].name)) (by kernel_rfl) (⟨PW, F0⟩) (fun hHeld => ?_)
            refine takeR (i := 0) (v := ?_) rfl rfl (by kernel_rfl) (by kernel_rfl) (by kernel_rfl) (fun _ _ _ h => h) ?_ hHeld ?_
            rotate_left 1
            · intro w hSw; (try dsimp only at hSw); go_simp
              try simp only [HL1.out, HPB.out, HPD.out, if_false, HWM.out, hm0, hm1, and_self, if_true, Int.toNat_natCast]
              try with_reducible rfl
            simp only [Act.put, aq0, aq1, aq2]
            refine takeR (i := 1) (v := ?_) rfl rfl (by kernel_rfl) (by kernel_rfl) (by kernel_rfl) (fun _ _ _ h => h) ?_ hHeld ?_
            rotate_left 1
            · intro w hSw; (try dsimp only at hSw); go_simp
              try simp only [HL1.out, HPB.out, HPD.out, if_false, HWM.out, hm0, hm1, and_self, if_true, Int.toNat_natCast]
              try with_reducible rfl
            simp only [Act.put, aq0, aq1, aq2]
            refine takeR (i := 2) (v := ?_) rfl rfl (by kernel_rfl) (by kernel_rfl) (by kernel_rfl) (fun _ _ _ h => h) ?_ hHeld ?_
            rotate_left 1
            · intro w hSw; (try dsimp only at hSw); go_simp
              try simp only [HL1.out, HPB.out, HPD.out, if_false, HWM.out, hm0, hm1, and_self, if_true, Int.toNat_natCast]
              try with_reducible rfl
            simp only [Act.put, aq0, aq1, aq2]
            refine takeR (i := 3) (v := ?_) rfl rfl (by kernel_rfl) (by kernel_rfl) (by kernel_rfl) (fun _ _ _ h => h) ?_ hHeld ?_
            rotate_left 1
            · intro w hSw; (try dsimp only at hSw); go_simp
              try simp only [HL1.out, HPB.out, HPD.out, if_false, HWM.out, hm0, hm1, and_self, if_true, Int.toNat_natCast]
              try with_reducible rfl
            simp only [Act.put, aq0, aq1, aq2]
            refine takeR (i := 4) (v := ?_) rfl rfl (by kernel_rfl) (by kernel_rfl) (by kernel_rfl) (fun _ _ _ h => h) ?_ hHeld ?_
            rotate_left 1
            · intro w hSw; (try dsimp only at hSw); go_simp
              try simp only [HL1.out, HPB.out, HPD.out, if_false, HWM.out, hm0, hm1, and_self, if_true, Int.toNat_natCast]
              try with_reducible rfl
            simp only [Act.put, aq0, aq1, aq2]
            refine takeG (i := 5) (v := ?_) rfl (by kernel_rfl) (by kernel_rfl) (by kernel_rfl) (by kernel_rfl) (fun _ _ _ h => h) ?_ hHeld ?_
            rotate_left 1
            · intro w hSw; (try dsimp only at hSw); go_simp
              try simp only [HL1.out, HPB.out, HPD.out, if_false, HWM.out, hm0, hm1, and_self, if_true, Int.toNat_natCast]
              try with_reducible rfl
            simp only [Act.put, aq0, aq1, aq2]
            refine takeG (i := 6) (v := ?_) rfl (by kernel_rfl) (by kernel_rfl) (by kernel_rfl) (by kernel_rfl) (fun _ _ _ h => h) ?_ hHeld ?_
            rotate_left 1
            · intro w hSw; (try dsimp only at hSw); go_simp
              try simp only [HL1.out, HPB.out, HPD.out, if_false, HWM.out, hm0, hm1, and_self, if_true, Int.toNat_natCast]
              try with_reducible rfl
            simp only [Act.put, aq0, aq1, aq2]
            refine takeG (i := 7) (v := ?_) rfl (by kernel_rfl) (by kernel_rfl) (by kernel_rfl) (by kernel_rfl) (fun _ _ _ h => h) ?_ hHeld ?_
            rotate_left 1
            · intro w hSw; (try dsimp only at hSw); go_simp
              try simp only [HL1.out, HPB.out, HPD.out, if_false, HWM.out, hm0, hm1, and_self, if_true, Int.toNat_natCast]
              try with_reducible rfl
            simp only [Act.put, aq0, aq1, aq2]
            refine takeR (i := 8) (v := ?_) rfl rfl (by kernel_rfl) (by kernel_rfl) (by kernel_rfl) (fun _ _ _ h => h) ?_ hHeld ?_
            rotate_left 1
            · intro w hSw; (try dsimp only at hSw); go_simp
              try simp only [HL1.out, HPB.out, HPD.out, if_false, HWM.out, hm0, hm1, and_self, if_true, Int.toNat_natCast]
              try with_reducible rfl
            simp only [Act.put, aq0, aq1, aq2]
            refine takeR (i := 9) (v := ?_) rfl rfl (by kernel_rfl) (by kernel_rfl) (by kernel_rfl) (fun _ _ _ h => h) ?_ hHeld ?_
            rotate_left 1
            · intro w hSw; (try dsimp only at hSw); go_simp
              try simp only [HL1.out, HPB.out, HPD.out, if_false, HWM.out, hm0, hm1, and_self, if_true, Int.toNat_natCast]
              try with_reducible rfl
            simp only [Act.put, aq0, aq1, aq2]
            refine takeG (i := 10) (v := ?_) rfl (by kernel_rfl) (by kernel_rfl) (by kernel_rfl) (by kernel_rfl) (fun _ _ _ h => h) ?_ hHeld ?_
            rotate_left 1
            · intro w hSw; (try dsimp only at hSw); go_simp
              try simp only [HL1.out, HPB.out, HPD.out, if_false, HWM.out, hm0, hm1, and_self, if_true, Int.toNat_natCast]
              try with_reducible rfl
            simp only [Act.put, aq0, aq1, aq2]
            refine takeG (i := 11) (v := ?_) rfl (by kernel_rfl) (by kernel_rfl) (by kernel_rfl) (by kernel_rfl) (fun _ _ _ h => h) ?_ hHeld ?_
            rotate_left 1
            · intro w hSw; (try dsimp only at hSw); go_simp
              try simp only [HL1.out, HPB.out, HPD.out, if_false, HWM.out, hm0, hm1, and_self, if_true, Int.toNat_natCast]
              try with_reducible rfl
            simp only [Act.put, aq0, aq1, aq2]
            refine takeG (i := 12) (v := ?_) rfl (by kernel_rfl) (by kernel_rfl) (by kernel_rfl) (by kernel_rfl) (fun _ _ _ h => h) ?_ hHeld ?_
            rotate_left 1
            · intro w hSw; (try dsimp only at hSw); go_simp
              try simp only [HL1.out, HPB.out, HPD.out, if_false, HWM.out, hm0, hm1, and_self, if_true, Int.toNat_natCast]
              try with_reducible rfl
            simp only [Act.put, aq0, aq1, aq2]
            refine takeR (i := 13) (v := ?_) rfl rfl (by kernel_rfl) (by kernel_rfl) (by kernel_rfl) (fun _ _ _ h => h) ?_ hHeld ?_
            rotate_left 1
            · intro w hSw; (try dsimp only at hSw); go_simp
              try simp only [HL1.out, HPB.out, HPD.out, if_false, HWM.out, hm0, hm1, and_self, if_true, Int.toNat_natCast]
              try with_reducible rfl
            simp only [Act.put, aq0, aq1, aq2]
            refine takeR (i := 14) (v := ?_) rfl rfl (by kernel_rfl) (by kernel_rfl) (by kernel_rfl) (fun _ _ _ h => h) ?_ hHeld ?_
            rotate_left 1
            · intro w hSw; (try dsimp only at hSw); go_simp
              try simp only [HL1.out, HPB.out, HPD.out, if_false, HWM.out, hm0, hm1, and_self, if_true, Int.toNat_natCast]
              try with_reducible rfl
            simp only [Act.put, aq0, aq1, aq2]
            refine takeG (i := 15) (v := ?_) rfl (by kernel_rfl) (by kernel_rfl) (by kernel_rfl) (by kernel_rfl) (fun _ _ _ h => h) ?_ hHeld ?_
            rotate_left 1
            · intro w hSw; (try dsimp only at hSw); go_simp
              try simp only [HL1.out, HPB.out, HPD.out, if_false, HWM.out, hm0, hm1, and_self, if_true, Int.toNat_natCast]
              try with_reducible rfl
            simp only [Act.put, aq0, aq1, aq2]
            refine takeG (i := 16) (v := ?_) rfl (by kernel_rfl) (by kernel_rfl) (by kernel_rfl) (by kernel_rfl) (fun _ _ _ h => h) ?_ hHeld ?_
            rotate_left 1
            · intro w hSw; (try dsimp only at hSw); go_simp
              try simp only [HL1.out, HPB.out, HPD.out, if_false, HWM.out, hm0, hm1, and_self, if_true, Int.toNat_natCast]
              try with_reducible rfl
            simp only [Act.put, aq0, aq1, aq2]
            refine takeG (i := 17) (v := ?_) rfl (by kernel_rfl) (by kernel_rfl) (by kernel_rfl) (by kernel_rfl) (fun _ _ _ h => h) ?_ hHeld ?_
            rotate_left 1
            · intro w hSw; (try dsimp only at hSw); go_simp
              try simp only [HL1.out, HPB.out, HPD.out, if_false, HWM.out, hm0, hm1, and_self, if_true, Int.toNat_natCast]
              try with_reducible rfl
            simp only [Act.put, aq0, aq1, aq2]
            refine takeG (i := 18) (v := ?_) rfl (by kernel_rfl) (by kernel_rfl) (by kernel_rfl) (by kernel_rfl) (fun _ _ _ h => h) ?_ hHeld ?_
            rotate_left 1
            · intro w hSw; (try dsimp only at hSw); go_simp
              try simp only [HL1.out, HPB.out, HPD.out, if_false, HWM.out, hm0, hm1, and_self, if_true, Int.toNat_natCast]
              try with_reducible rfl
            simp only [Act.put, aq0, aq1, aq2]
            refine takeG (i := 19) (v := ?_) rfl (by kernel_rfl) (by kernel_rfl) (by kernel_rfl) (by kernel_rfl) (fun _ _ _ h => h) ?_ hHeld ?_
            rotate_left 1
            · intro w hSw; (try dsimp only at hSw); go_simp
              try simp only [HL1.out, HPB.out, HPD.out, if_false, HWM.out, hm0, hm1, and_self, if_true, Int.toNat_natCast]
              try with_reducible rfl
            simp only [Act.put, aq0, aq1, aq2]
            refine takeG (i := 20) (v := ?_) rfl (by kernel_rfl) (by kernel_rfl) (by kernel_rfl) (by kernel_rfl) (fun _ _ _ h => h) ?_ hHeld ?_
            rotate_left 1
            · intro w hSw; (try dsimp only at hSw); go_simp
              try simp only [HL1.out, HPB.out, HPD.out, if_false, HWM.out, hm0, hm1, and_self, if_true, Int.toNat_natCast]
              try with_reducible rfl
            simp only [Act.put, aq0, aq1, aq2]
            refine takeG (i := 21) (v := ?_) rfl (by kernel_rfl) (by kernel_rfl) (by kernel_rfl) (by kernel_rfl) (fun _ _ _ h => h) ?_ hHeld ?_
            rotate_left 1
            · intro w hSw; (try dsimp only at hSw); go_simp
              try simp only [HL1.out, HPB.out, HPD.out, if_false, HWM.out, hm0, hm1, and_self, if_true, Int.toNat_natCast]
              try with_reducible rfl
            simp only [Act.put, aq0, aq1, aq2]
            refine takeG (i := 22) (v := ?_) rfl (by kernel_rfl) (by kernel_rfl) (by kernel_rfl) (by kernel_rfl) (fun _ _ _ h => h) ?_ hHeld ?_
            rotate_left 1
            · intro w hSw; (try dsimp only at hSw); go_simp
              try simp only [HL1.out, HPB.out, HPD.out, if_false, HWM.out, hm0, hm1, and_self, if_true, Int.toNat_natCast]
              try with_reducible rfl
            simp only [Act.put, aq0, aq1, aq2]
            refine takeG (i := 23) (v := ?_) rfl (by kernel_rfl) (by kernel_rfl) (by kernel_rfl) (by kernel_rfl) (fun _ _ _ h => h) ?_ hHeld ?_
            rotate_left 1
            · intro w hSw; (try dsimp only at hSw); go_simp
              try simp only [HL1.out, HPB.out, HPD.out, if_false, HWM.out, hm0, hm1, and_self, if_true, Int.toNat_natCast]
              try with_reducible rfl
            simp only [Act.put, aq0, aq1, aq2]
            refine takeG (i := 24) (v := ?_) rfl (by kernel_rfl) (by kernel_rfl) (by kernel_rfl) (by kernel_rfl) (fun _ _ _ h => h) ?_ hHeld ?_
            rotate_left 1
            · intro w hSw; (try dsimp only at hSw); go_simp
              try simp only [HL1.out, HPB.out, HPD.out, if_false, HWM.out, hm0, hm1, and_self, if_true, Int.toNat_natCast]
              try with_reducible rfl
            simp only [Act.put, aq0, aq1, aq2]
            refine takeG (i := 25) (v := ?_) rfl (by kernel_rfl) (by kernel_rfl) (by kernel_rfl) (by kernel_rfl) (fun _ _ _ h => h) ?_ hHeld ?_
            rotate_left 1
            · intro w hSw; (try dsimp only at hSw); go_simp
              try simp only [HL1.out, HPB.out, HPD.out, if_false, HWM.out, hm0, hm1, and_self, if_true, Int.toNat_natCast]
              try with_reducible rfl
            simp only [Act.put, aq0, aq1, aq2]
            refine takeG (i := 26) (v := ?_) rfl (by kernel_rfl) (by kernel_rfl) (by kernel_rfl) (by kernel_rfl) (fun _ _ _ h => h) ?_ hHeld ?_
            rotate_left 1
            · intro w hSw; (try dsimp only at hSw); go_simp
              try simp only [HL1.out, HPB.out, HPD.out, if_false, HWM.out, hm0, hm1, and_self, if_true, Int.toNat_natCast]
              try with_reducible rfl
            simp only [Act.put, aq0, aq1, aq2]
            refine takeG (i := 27) (v := ?_) rfl (by kernel_rfl) (by kernel_rfl) (by kernel_rfl) (by kernel_rfl) (fun _ _ _ h => h) ?_ hHeld ?_
            rotate_left 1
            · intro w hSw; (try dsimp only at hSw); go_simp
              try simp only [HL1.out, HPB.out, HPD.out, if_false, HWM.out, hm0, hm1, and_self, if_true, Int.toNat_natCast]
              try with_reducible rfl
            simp only [Act.put, aq0, aq1, aq2]
            refine takeR (i := 28) (v := ?_) rfl rfl (by kernel_rfl) (by kernel_rfl) (by kernel_rfl) (fun _ _ _ h => h) ?_ hHeld ?_
            rotate_left 1
            · intro w hSw; (try dsimp only at hSw); go_simp
              try simp only [HL1.out, HPB.out, HPD.out, if_false, HWM.out, hm0, hm1, and_self, if_true, Int.toNat_natCast]
              try with_reducible rfl
            simp only [Act.put, aq0, aq1, aq2]
            refine takeR (i := 29) (v := ?_) rfl rfl (by kernel_rfl) (by kernel_rfl) (by kernel_rfl) (fun _ _ _ h => h) ?_ hHeld ?_
            rotate_left 1
            · intro w hSw; (try dsimp only at hSw); go_simp
              try simp only [HL1.out, HPB.out, HPD.out, if_false, HWM.out, hm0, hm1, and_self, if_true, Int.toNat_natCast]
              try with_reducible rfl
            simp only [Act.put, aq0, aq1, aq2]
            refine takeG (i := 30) (v := ?_) rfl (by kernel_rfl) (by kernel_rfl) (by kernel_rfl) (by kernel_rfl) (fun _ _ _ h => h) ?_ hHeld ?_
            rotate_left 1
            · intro w hSw; (try dsimp only at hSw); go_simp
              try simp only [HL1.out, HPB.out, HPD.out, if_false, HWM.out, hm0, hm1, and_self, if_true, Int.toNat_natCast]
              try with_reducible rfl
            simp only [Act.put, aq0, aq1, aq2]
            refine takeG (i := 31) (v := ?_) rfl (by kernel_rfl) (by kernel_rfl) (by kernel_rfl) (by kernel_rfl) (fun _ _ _ h => h) ?_ hHeld ?_
            rotate_left 1
            · intro w hSw; (try dsimp only at hSw); go_simp
              try simp only [HL1.out, HPB.out, HPD.out, if_false, HWM.out, hm0, hm1, and_self, if_true, Int.toNat_natCast]
              try with_reducible rfl
            simp only [Act.put, aq0, aq1, aq2]
            refine takeG (i := 32) (v := ?_) rfl (by kernel_rfl) (by kernel_rfl) (by kernel_rfl) (by kernel_rfl) (fun _ _ _ h => h) ?_ hHeld ?_
            rotate_left 1
            · intro w hSw; (try dsimp only at hSw); go_simp
              try simp only [HL1.out, HPB.out, HPD.out, if_false, HWM.out, hm0, hm1, and_self, if_true, Int.toNat_natCast]
              try with_reducible rfl
            simp only [Act.put, aq0, aq1, aq2]
            refine takeG (i := 33) (v := ?_) rfl (by kernel_rfl) (by kernel_rfl) (by kernel_rfl) (by kernel_rfl) (fun _ _ _ h => h) ?_ hHeld ?_
            rotate_left 1
            · intro w hSw; (try dsimp only at hSw); go_simp
              try simp only [HL1.out, HPB.out, HPD.out, if_false, HWM.out, hm0, hm1, and_self, if_true, Int.toNat_natCast]
              try with_reducible rfl
            simp only [Act.put, aq0, aq1, aq2]
            refine takeR (i := 34) (v := ?_) rfl rfl (by kernel_rfl) (by kernel_rfl) (by kernel_rfl) (fun _ _ _ h => h) ?_ hHeld ?_
            rotate_left 1
            · intro w hSw; (try dsimp only at hSw); go_simp
              try simp only [HL1.out, HPB.out, HPD.out, if_false, HWM.out, hm0, hm1, and_self, if_true, Int.toNat_natCast]
              try with_reducible rfl
            simp only [Act.put, aq0, aq1, aq2]
            refine takeR (i := 35) (v := ?_) rfl rfl (by kernel_rfl) (by kernel_rfl) (by kernel_rfl) (fun _ _ _ h => h) ?_ hHeld ?_
            rotate_left 1
            · intro w hSw; (try dsimp only at hSw); go_simp
              try simp only [HL1.out, HPB.out, HPD.out, if_false, HWM.out, hm0, hm1, and_self, if_true, Int.toNat_natCast]
              try with_reducible rfl
            simp only [Act.put, aq0, aq1, aq2]
            refine goS 36 hHeld ?_
            refine goS 37 hHeld ?_
            refine goS 38 hHeld ?_
            refine goS 39 hHeld ?_
            refine takeR (i := 40) (v := ?_) rfl rfl (by kernel_rfl) (by kernel_rfl) (by kernel_rfl) (fun _ _ _ h => h) ?_ hHeld ?_
            rotate_left 1
            · intro w hSw; (try dsimp only at hSw); go_simp
              try simp only [HL1.out, HPB.out, HPD.out, if_false, HWM.out, hm0, hm1, and_self, if_true, Int.toNat_natCast]
              try with_reducible rfl
            simp only [Act.put, aq0, aq1, aq2]
            refine wpAnyH_done (by kernel_rfl) ?_ _
            refine NoPanic.normal ?_
            go_wp2
            go_ret
            exact ⟨ret_bool HX.out.symm, SW.drew⟩
          have HL1 := Lib.hid (show decide ((xs[m + 1].dims.length : Int) < 1) = false from decide_eq_false (by omega))
          by_cases hl2 : 2 < xs[m + 1].dims.length
          case pos =>
            have HL2 := Lib.hid (show decide (2 < (xs[m + 1].dims.length : Int)) = true from decide_eq_true (by omega))
            have HX := Lib.hid (arrsOk_no (HD.out.trans (by rw [HA2.out, HDI.out, show inB (xs[m + 1].dims.length : Int) 1 2 = false from (by first | exact inB_lo (by omega) | exact inB_hi (by omega)), Bool.false_and, Bool.false_and])))
            go_wp2_with fail
            rw [← HW.out]
            refine wp_region_noPanic ?_
            refine wp_region_held_drew (S := fun w' => Box2 w' wr.heap.size (.string xs[m + 1].name) (.slice A2e xs[m + 1].dims.length c2e) ∧ w'.cell? ⟨be, oe + m * 2, none⟩ = some (.string xs[m].name)) (by kernel_rfl) (⟨PW, F0⟩) (fun hHeld => ?_)
            refine takeR (i := 0) (v := ?_) rfl rfl (by kernel_rfl) (by kernel_rfl) (by kernel_rfl) (fun _ _ _ h => h) ?_ hHeld ?_
            rotate_left 1
            · intro w hSw; (try dsimp only at hSw); go_simp
              try simp only [HL1.out, HL2.out, HPB.out, HPD.out, if_false, HWM.out, hm0, hm1, and_self, if_true, Int.toNat_natCast]
              try with_reducible rfl
            simp only [Act.put, aq0, aq1, aq2]
            refine takeR (i := 1) (v := ?_) rfl rfl (by kernel_rfl) (by kernel_rfl) (by kernel_rfl) (fun _ _ _ h => h) ?_ hHeld ?_
            rotate_left 1
            · intro w hSw; (try dsimp only at hSw); go_simp
              try simp only [HL1.out, HL2.out, HPB.out, HPD.out, if_false, HWM.out, hm0, hm1, and_self, if_true, Int.toNat_natCast]
              try with_reducible rfl
            simp only [Act.put, aq0, aq1, aq2]
            refine takeR (i := 2) (v := ?_) rfl rfl (by kernel_rfl) (by kernel_rfl) (by kernel_rfl) (fun _ _ _ h => h) ?_ hHeld ?_
            rotate_left 1
            · intro w hSw; (try dsimp only at hSw); go_simp
              try simp only [HL1.out, HL2.out, HPB.out, HPD.out, if_false, HWM.out, hm0, hm1, and_self, if_true, Int.toNat_natCast]
              try with_reducible rfl
            simp only [Act.put, aq0, aq1, aq2]
            refine takeR (i := 3) (v := ?_) rfl rfl (by kernel_rfl) (by kernel_rfl) (by kernel_rfl) (fun _ _ _ h => h) ?_ hHeld ?_
            rotate_left 1
            · intro w hSw; (try dsimp only at hSw); go_simp
              try simp only [HL1.out, HL2.out, HPB.out, HPD.out, if_false, HWM.out, hm0, hm1, and_self, if_true, Int.toNat_natCast]
              try with_reducible rfl
            simp only [Act.put, aq0, aq1, aq2]
            refine takeR (i := 4) (v := ?_) rfl rfl (by kernel_rfl) (by kernel_rfl) (by kernel_rfl) (fun _ _ _ h => h) ?_ hHeld ?_
            rotate_left 1
            · intro w hSw; (try dsimp only at hSw); go_simp
              try simp only [HL1.out, HL2.out, HPB.out, HPD.out, if_false, HWM.out, hm0, hm1, and_self, if_true, Int.toNat_natCast]
              try with_reducible rfl
            simp only [Act.put, aq0, aq1, aq2]
            refine takeG (i := 5) (v := ?_) rfl (by kernel_rfl) (by kernel_rfl) (by kernel_rfl) (by kernel_rfl) (fun _ _ _ h => h) ?_ hHeld ?_
            rotate_left 1
            · intro w hSw; (try dsimp only at hSw); go_simp
              try simp only [HL1.out, HL2.out, HPB.out, HPD.out, if_false, HWM.out, hm0, hm1, and_self, if_true, Int.toNat_natCast]
              try with_reducible rfl
            simp only [Act.put, aq0, aq1, aq2]
            refine takeG (i := 6) (v := ?_) rfl (by kernel_rfl) (by kernel_rfl) (by kernel_rfl) (by kernel_rfl) (fun _ _ _ h => h) ?_ hHeld ?_
            rotate_left 1
            · intro w hSw; (try dsimp only at hSw); go_simp
              try simp only [HL1.out, HL2.out, HPB.out, HPD.out, if_false, HWM.out, hm0, hm1, and_self, if_true, Int.toNat_natCast]
              try with_reducible rfl
            simp only [Act.put, aq0, aq1, aq2]
            refine takeG (i := 7) (v := ?_) rfl (by kernel_rfl) (by kernel_rfl) (by kernel_rfl) (by kernel_rfl) (fun _ _ _ h => h) ?_ hHeld ?_
            rotate_left 1
            · intro w hSw; (try dsimp only at hSw); go_simp
              try simp only [HL1.out, HL2.out, HPB.out, HPD.out, if_false, HWM.out, hm0, hm1, and_self, if_true, Int.toNat_natCast]
              try with_reducible rfl
            simp only [Act.put, aq0, aq1, aq2]
            refine takeR (i := 8) (v := ?_) rfl rfl (by kernel_rfl) (by kernel_rfl) (by kernel_rfl) (fun _ _ _ h => h) ?_ hHeld ?_
            rotate_left 1
            · intro w hSw; (try dsimp only at hSw); go_simp
              try simp only [HL1.out, HL2.out, HPB.out, HPD.out, if_false, HWM.out, hm0, hm1, and_self, if_true, Int.toNat_natCast]
              try with_reducible rfl
            simp only [Act.put, aq0, aq1, aq2]
            refine takeR (i := 9) (v := ?_) rfl rfl (by kernel_rfl) (by kernel_rfl) (by kernel_rfl) (fun _ _ _ h => h) ?_ hHeld ?_
            rotate_left 1
            · intro w hSw; (try dsimp only at hSw); go_simp
              try simp only [HL1.out, HL2.out, HPB.out, HPD.out, if_false, HWM.out, hm0, hm1, and_self, if_true, Int.toNat_natCast]
              try with_reducible rfl
            simp only [Act.put, aq0, aq1, aq2]
            refine takeG (i := 10) (v := ?_) rfl (by kernel_rfl) (by kernel_rfl) (by kernel_rfl) (by kernel_rfl) (fun _ _ _ h => h) ?_ hHeld ?_
            rotate_left 1
            · intro w hSw; (try dsimp only at hSw); go_simp
              try simp only [HL1.out, HL2.out, HPB.out, HPD.out, if_false, HWM.out, hm0, hm1, and_self, if_true, Int.toNat_natCast]
              try with_reducible rfl
            simp only [Act.put, aq0, aq1, aq2]
            refine takeG (i := 11) (v := ?_) rfl (by kernel_rfl) (by kernel_rfl) (by kernel_rfl) (by kernel_rfl) (fun _ _ _ h => h) ?_ hHeld ?_
            rotate_left 1
            · intro w hSw; (try dsimp only at hSw); go_simp
              try simp only [HL1.out, HL2.out, HPB.out, HPD.out, if_false, HWM.out, hm0, hm1, and_self, if_true, Int.toNat_natCast]
              try with_reducible rfl
            simp only [Act.put, aq0, aq1, aq2]
            refine takeG (i := 12) (v := ?_) rfl (by kernel_rfl) (by kernel_rfl) (by kernel_rfl) (by kernel_rfl) (fun _ _ _ h => h) ?_ hHeld ?_
            rotate_left 1
            · intro w hSw; (try dsimp only at hSw); go_simp
              try simp only [HL1.out, HL2.out, HPB.out, HPD.out, if_false, HWM.out, hm0, hm1, and_self, if_true, Int.toNat_natCast]
              try with_reducible rfl
            simp only [Act.put, aq0, aq1, aq2]
            refine takeR (i := 13) (v := ?_) rfl rfl (by kernel_rfl) (by kernel_rfl) (by kernel_rfl) (fun _ _ _ h => h) ?_ hHeld ?_
            rotate_left 1
            · intro w hSw; (try dsimp only at hSw); go_simp
              try simp only [HL1.out, HL2.out, HPB.out, HPD.out, if_false, HWM.out, hm0, hm1, and_self, if_true, Int.toNat_natCast]
              try with_reducible rfl
            simp only [Act.put, aq0, aq1, aq2]
            refine takeR (i := 14) (v := ?_) rfl rfl (by kernel_rfl) (by kernel_rfl) (by kernel_rfl) (fun _ _ _ h => h) ?_ hHeld ?_
            rotate_left 1
            · intro w hSw; (try dsimp only at hSw); go_simp
              try simp only [HL1.out, HL2.out, HPB.out, HPD.out, if_false, HWM.out, hm0, hm1, and_self, if_true, Int.toNat_natCast]
              try with_reducible rfl
            simp only [Act.put, aq0, aq1, aq2]
            refine takeG (i := 15) (v := ?_) rfl (by kernel_rfl) (by kernel_rfl) (by kernel_rfl) (by kernel_rfl) (fun _ _ _ h => h) ?_ hHeld ?_
            rotate_left 1
            · intro w hSw; (try dsimp only at hSw); go_simp
              try simp only [HL1.out, HL2.out, HPB.out, HPD.out, if_false, HWM.out, hm0, hm1, and_self, if_true, Int.toNat_natCast]
              try with_reducible rfl
            simp only [Act.put, aq0, aq1, aq2]
            refine takeG (i := 16) (v := ?_) rfl (by kernel_rfl) (by kernel_rfl) (by kernel_rfl) (by kernel_rfl) (fun _ _ _ h => h) ?_ hHeld ?_
            rotate_left 1
            · intro w hSw; (try dsimp only at hSw); go_simp
              try simp only [HL1.out, HL2.out, HPB.out, HPD.out, if_false, HWM.out, hm0, hm1, and_self, if_true, Int.toNat_natCast]
              try with_reducible rfl
            simp only [Act.put, aq0, aq1, aq2]
            refine takeG (i := 17) (v := ?_) rfl (by kernel_rfl) (by kernel_rfl) (by kernel_rfl) (by kernel_rfl) (fun _ _ _ h => h) ?_ hHeld ?_
            rotate_left 1
            · intro w hSw; (try dsimp only at hSw); go_simp
              try simp only [HL1.out, HL2.out, HPB.out, HPD.out, if_false, HWM.out, hm0, hm1, and_self, if_true, Int.toNat_natCast]
              try with_reducible rfl
            simp only [Act.put, aq0, aq1, aq2]
            refine takeG (i := 18) (v := ?_) rfl (by kernel_rfl) (by kernel_rfl) (by kernel_rfl) (by kernel_rfl) (fun _ _ _ h => h) ?_ hHeld ?_
            rotate_left 1
            · intro w hSw; (try dsimp only at hSw); go_simp
              try simp only [HL1.out, HL2.out, HPB.out, HPD.out, if_false, HWM.out, hm0, hm1, and_self, if_true, Int.toNat_natCast]
              try with_reducible rfl
            simp only [Act.put, aq0, aq1, aq2]
            refine takeG (i := 19) (v := ?_) rfl (by kernel_rfl) (by kernel_rfl) (by kernel_rfl) (by kernel_rfl) (fun _ _ _ h => h) ?_ hHeld ?_
            rotate_left 1
            · intro w hSw; (try dsimp only at hSw); go_simp
              try simp only [HL1.out, HL2.out, HPB.out, HPD.out, if_false, HWM.out, hm0, hm1, and_self, if_true, Int.toNat_natCast]
              try with_reducible rfl
            simp only [Act.put, aq0, aq1, aq2]
            refine takeG (i := 20) (v := ?_) rfl (by kernel_rfl) (by kernel_rfl) (by kernel_rfl) (by kernel_rfl) (fun _ _ _ h => h) ?_ hHeld ?_
            rotate_left 1
            · intro w hSw; (try dsimp only at hSw); go_simp
              try simp only [HL1.out, HL2.out, HPB.out, HPD.out, if_false, HWM.out, hm0, hm1, and_self, if_true, Int.toNat_natCast]
              try with_reducible rfl
            simp only [Act.put, aq0, aq1, aq2]
            refine takeG (i := 21) (v := ?_) rfl (by kernel_rfl) (by kernel_rfl) (by kernel_rfl) (by kernel_rfl) (fun _ _ _ h => h) ?_ hHeld ?_
            rotate_left 1
            · intro w hSw; (try dsimp only at hSw); go_simp
              try simp only [HL1.out, HL2.out, HPB.out, HPD.out, if_false, HWM.out, hm0, hm1, and_self, if_true, Int.toNat_natCast]
              try with_reducible rfl
            simp only [Act.put, aq0, aq1, aq2]
            refine takeG (i := 22) (v := ?_) rfl (by kernel_rfl) (by kernel_rfl) (by kernel_rfl) (by kernel_rfl) (fun _ _ _ h => h) ?_ hHeld ?_
            rotate_left 1
            · intro w hSw; (try dsimp only at hSw); go_simp
              try simp only [HL1.out, HL2.out, HPB.out, HPD.out, if_false, HWM.out, hm0, hm1, and_self, if_true, Int.toNat_natCast]
              try with_reducible rfl
            simp only [Act.put, aq0, aq1, aq2]
            refine takeG (i := 23) (v := ?_) rfl (by kernel_rfl) (by kernel_rfl) (by kernel_rfl) (by kernel_rfl) (fun _ _ _ h => h) ?_ hHeld ?_
            rotate_left 1
            · intro w hSw; (try dsimp only at hSw); go_simp
              try simp only [HL1.out, HL2.out, HPB.out, HPD.out, if_false, HWM.out, hm0, hm1, and_self, if_true, Int.toNat_natCast]
              try with_reducible rfl
            simp only [Act.put, aq0, aq1, aq2]
            refine takeG (i := 24) (v := ?_) rfl (by kernel_rfl) (by kernel_rfl) (by kernel_rfl) (by kernel_rfl) (fun _ _ _ h => h) ?_ hHeld ?_
            rotate_left 1
            · intro w hSw; (try dsimp only at hSw); go_simp
              try simp only [HL1.out, HL2.out, HPB.out, HPD.out, if_false, HWM.out, hm0, hm1, and_self, if_true, Int.toNat_natCast]
              try with_reducible rfl
            simp only [Act.put, aq0, aq1, aq2]
            refine takeG (i := 25) (v := ?_) rfl (by kernel_rfl) (by kernel_rfl) (by kernel_rfl) (by kernel_rfl) (fun _ _ _ h => h) ?_ hHeld ?_
            rotate_left 1
            · intro w hSw; (try dsimp only at hSw); go_simp
              try simp only [HL1.out, HL2.out, HPB.out, HPD.out, if_false, HWM.out, hm0, hm1, and_self, if_true, Int.toNat_natCast]
              try with_reducible rfl
            simp only [Act.put, aq0, aq1, aq2]
            refine takeG (i := 26) (v := ?_) rfl (by kernel_rfl) (by kernel_rfl) (by kernel_rfl) (by kernel_rfl) (fun _ _ _ h => h) ?_ hHeld ?_
            rotate_left 1
            · intro w hSw; (try dsimp only at hSw); go_simp
              try simp only [HL1.out, HL2.out, HPB.out, HPD.out, if_false, HWM.out, hm0, hm1, and_self, if_true, Int.toNat_natCast]
              try with_reducible rfl
            simp only [Act.put, aq0, aq1, aq2]
            refine takeG (i := 27) (v := ?_) rfl (by kernel_rfl) (by kernel_rfl) (by kernel_rfl) (by kernel_rfl) (fun _ _ _ h => h) ?_ hHeld ?_
            rotate_left 1
            · intro w hSw; (try dsimp only at hSw); go_simp
              try simp only [HL1.out, HL2.out, HPB.out, HPD.out, if_false, HWM.out, hm0, hm1, and_self, if_true, Int.toNat_natCast]
              try with_reducible rfl
            simp only [Act.put, aq0, aq1, aq2]
            refine takeR (i := 28) (v := ?_) rfl rfl (by kernel_rfl) (by kernel_rfl) (by kernel_rfl) (fun _ _ _ h => h) ?_ hHeld ?_
            rotate_left 1
            · intro w hSw; (try dsimp only at hSw); go_simp
              try simp only [HL1.out, HL2.out, HPB.out, HPD.out, if_false, HWM.out, hm0, hm1, and_self, if_true, Int.toNat_natCast]
              try with_reducible rfl
            simp only [Act.put, aq0, aq1, aq2]
            refine takeR (i := 29) (v := ?_) rfl rfl (by kernel_rfl) (by kernel_rfl) (by kernel_rfl) (fun _ _ _ h => h) ?_ hHeld ?_
            rotate_left 1
            · intro w hSw; (try dsimp only at hSw); go_simp
              try simp only [HL1.out, HL2.out, HPB.out, HPD.out, if_false, HWM.out, hm0, hm1, and_self, if_true, Int.toNat_natCast]
              try with_reducible rfl
            simp only [Act.put, aq0, aq1, aq2]
            refine takeG (i := 30) (v := ?_) rfl (by kernel_rfl) (by kernel_rfl) (by kernel_rfl) (by kernel_rfl) (fun _ _ _ h => h) ?_ hHeld ?_
            rotate_left 1
            · intro w hSw; (try dsimp only at hSw); go_simp
              try simp only [HL1.out, HL2.out, HPB.out, HPD.out, if_false, HWM.out, hm0, hm1, and_self, if_true, Int.toNat_natCast]
              try with_reducible rfl
            simp only [Act.put, aq0, aq1, aq2]
            refine takeG (i := 31) (v := ?_) rfl (by kernel_rfl) (by kernel_rfl) (by kernel_rfl) (by kernel_rfl) (fun _ _ _ h => h) ?_ hHeld ?_
            rotate_left 1
            · intro w hSw; (try dsimp only at hSw); go_simp
              try simp only [HL1.out, HL2.out, HPB.out, HPD.out, if_false, HWM.out, hm0, hm1, and_self, if_true, Int.toNat_natCast]
              try with_reducible rfl
            simp only [Act.put, aq0, aq1, aq2]
            refine takeG (i := 32) (v := ?_) rfl (by kernel_rfl) (by kernel_rfl) (by kernel_rfl) (by kernel_rfl) (fun _ _ _ h => h) ?_ hHeld ?_
            rotate_left 1
            · intro w hSw; (try dsimp only at hSw); go_simp
              try simp only [HL1.out, HL2.out, HPB.out, HPD.out, if_false, HWM.out, hm0, hm1, and_self, if_true, Int.toNat_natCast]
              try with_reducible rfl
            simp only [Act.put, aq0, aq1, aq2]
            refine takeG (i := 33) (v := ?_) rfl (by kernel_rfl) (by kernel_rfl) (by kernel_rfl) (by kernel_rfl) (fun _ _ _ h => h) ?_ hHeld ?_
            rotate_left 1
            · intro w hSw; (try dsimp only at hSw); go_simp
              try simp only [HL1.out, HL2.out, HPB.out, HPD.out, if_false, HWM.out, hm0, hm1, and_self, if_true, Int.toNat_natCast]
              try with_reducible rfl
            simp only [Act.put, aq0, aq1, aq2]
            refine takeR (i := 34) (v := ?_) rfl rfl (by kernel_rfl) (by kernel_rfl) (by kernel_rfl) (fun _ _ _ h => h) ?_ hHeld ?_
            rotate_left 1
            · intro w hSw; (try dsimp only at hSw); go_simp
              try simp only [HL1.out, HL2.out, HPB.out, HPD.out, if_false, HWM.out, hm0, hm1, and_self, if_true, Int.toNat_natCast]
              try with_reducible rfl
            simp only [Act.put, aq0, aq1, aq2]
            refine takeR (i := 35) (v := ?_) rfl rfl (by kernel_rfl) (by kernel_rfl) (by kernel_rfl) (fun _ _ _ h => h) ?_ hHeld ?_
            rotate_left 1
            · intro w hSw; (try dsimp only at hSw); go_simp
              try simp only [HL1.out, HL2.out, HPB.out, HPD.out, if_false, HWM.out, hm0, hm1, and_self, if_true, Int.toNat_natCast]
              try with_reducible rfl
            simp only [Act.put, aq0, aq1, aq2]
            refine takeG (i := 36) (v := ?_) rfl (by kernel_rfl) (by kernel_rfl) (by kernel_rfl) (by kernel_rfl) (fun _ _ _ h => h) ?_ hHeld ?_
            rotate_left 1
            · intro w hSw; (try dsimp only at hSw); go_simp
              try simp only [HL1.out, HL2.out, HPB.out, HPD.out, if_false, HWM.out, hm0, hm1, and_self, if_true, Int.toNat_natCast]
              try with_reducible rfl
            simp only [Act.put, aq0, aq1, aq2]
            refine takeG (i := 37) (v := ?_) rfl (by kernel_rfl) (by kernel_rfl) (by kernel_rfl) (by kernel_rfl) (fun _ _ _ h => h) ?_ hHeld ?_
            rotate_left 1
            · intro w hSw; (try dsimp only at hSw); go_simp
              try simp only [HL1.out, HL2.out, HPB.out, HPD.out, if_false, HWM.out, hm0, hm1, and_self, if_true, Int.toNat_natCast]
              try with_reducible rfl
            simp only [Act.put, aq0, aq1, aq2]
            refine takeG (i := 38) (v := ?_) rfl (by kernel_rfl) (by kernel_rfl) (by kernel_rfl) (by kernel_rfl) (fun _ _ _ h => h) ?_ hHeld ?_
            rotate_left 1
            · intro w hSw; (try dsimp only at hSw); go_simp
              try simp only [HL1.out, HL2.out, HPB.out, HPD.out, if_false, HWM.out, hm0, hm1, and_self, if_true, Int.toNat_natCast]
              try with_reducible rfl
            simp only [Act.put, aq0, aq1, aq2]
            refine takeG (i := 39) (v := ?_) rfl (by kernel_rfl) (by kernel_rfl) (by kernel_rfl) (by kernel_rfl) (fun _ _ _ h => h) ?_ hHeld ?_
            rotate_left 1
            · intro w hSw; (try dsimp only at hSw); go_simp
              try simp only [HL1.out, HL2.out, HPB.out, HPD.out, if_false, HWM.out, hm0, hm1, and_self, if_true, Int.toNat_natCast]
              try with_reducible rfl
            simp only [Act.put, aq0, aq1, aq2]
            refine takeR (i := 40) (v := ?_) rfl rfl (by kernel_rfl) (by kernel_rfl) (by kernel_rfl) (fun _ _ _ h => h) ?_ hHeld ?_
            rotate_left 1
            · intro w hSw; (try dsimp only at hSw); go_simp
              try simp only [HL1.out, HL2.out, HPB.out, HPD.out, if_false, HWM.out, hm0, hm1, and_self, if_true, Int.toNat_natCast]
              try with_reducible rfl
            simp only [Act.put, aq0, aq1, aq2]
            refine wpAnyH_done (by kernel_rfl) ?_ _
            refine NoPanic.normal ?_
            go_wp2
            go_ret
            exact ⟨ret_bool HX.out.symm, SW.drew⟩
          have HWI := Lib.hid (show inB (xs[m + 1].dims.length : Int) 1 2 = true from inB_true (by omega) (by omega))
          have HL2 := Lib.hid (show decide (2 < (xs[m + 1].dims.length : Int)) = false from decide_eq_false (by omega))
          go_wp2_with fail
          rw [← HW.out]
          refine wp_region_noPanic ?_
          refine wp_region_held_drew (S := fun w' => Box2 w' wr.heap.size (.string xs[m + 1].name) (.slice A2e xs[m + 1].dims.length c2e) ∧ w'.cell? ⟨be, oe + m * 2, none⟩ = some (.string xs[m].name)) (by kernel_rfl) (⟨PW, F0⟩) (fun hHeld => ?_)
          refine takeR (i := 0) (v := ?_) rfl rfl (by kernel_rfl) (by kernel_rfl) (by kernel_rfl) (fun _ _ _ h => h) ?_ hHeld ?_
          rotate_left 1
          · intro w hSw; (try dsimp only at hSw); go_simp
            try simp only [HL1.out, HL2.out, HPB.out, HPD.out, if_false, HWM.out, hm0, hm1, and_self, if_true, Int.toNat_natCast]
            try with_reducible rfl
          simp only [Act.put, aq0, aq1, aq2]
          refine takeR (i := 1) (v := ?_) rfl rfl (by kernel_rfl) (by kernel_rfl) (by kernel_rfl) (fun _ _ _ h => h) ?_ hHeld ?_
          rotate_left 1
          · intro w hSw; (try dsimp only at hSw); go_simp
            try simp only [HL1.out, HL2.out, HPB.out, HPD.out, if_false, HWM.out, hm0, hm1, and_self, if_true, Int.toNat_natCast]
            try with_reducible rfl
          simp only [Act.put, aq0, aq1, aq2]
          refine takeR (i := 2) (v := ?_) rfl rfl (by kernel_rfl) (by kernel_rfl) (by kernel_rfl) (fun _ _ _ h => h) ?_ hHeld ?_
          rotate_left 1
          · intro w hSw; (try dsimp only at hSw); go_simp
            try simp only [HL1.out, HL2.out, HPB.out, HPD.out, if_false, HWM.out, hm0, hm1, and_self, if_true, Int.toNat_natCast]
            try with_reducible rfl
          simp only [Act.put, aq0, aq1, aq2]
          refine takeR (i := 3) (v := ?_) rfl rfl (by kernel_rfl) (by kernel_rfl) (by kernel_rfl) (fun _ _ _ h => h) ?_ hHeld ?_
          rotate_left 1
          · intro w hSw; (try dsimp only at hSw); go_simp
            try simp only [HL1.out, HL2.out, HPB.out, HPD.out, if_false, HWM.out, hm0, hm1, and_self, if_true, Int.toNat_natCast]
            try with_reducible rfl
          simp only [Act.put, aq0, aq1, aq2]
          refine takeR (i := 4) (v := ?_) rfl rfl (by kernel_rfl) (by kernel_rfl) (by kernel_rfl) (fun _ _ _ h => h) ?_ hHeld ?_
          rotate_left 1
          · intro w hSw; (try dsimp only at hSw); go_simp
            try simp only [HL1.out, HL2.out, HPB.out, HPD.out, if_false, HWM.out, hm0, hm1, and_self, if_true, Int.toNat_natCast]
            try with_reducible rfl
          simp only [Act.put, aq0, aq1, aq2]
          refine takeG (i := 5) (v := ?_) rfl (by kernel_rfl) (by kernel_rfl) (by kernel_rfl) (by kernel_rfl) (fun _ _ _ h => h) ?_ hHeld ?_
          rotate_left 1
          · intro w hSw; (try dsimp only at hSw); go_simp
            try simp only [HL1.out, HL2.out, HPB.out, HPD.out, if_false, HWM.out, hm0, hm1, and_self, if_true, Int.toNat_natCast]
            try with_reducible rfl
          simp only [Act.put, aq0, aq1, aq2]
          refine takeG (i := 6) (v := ?_) rfl (by kernel_rfl) (by kernel_rfl) (by kernel_rfl) (by kernel_rfl) (fun _ _ _ h => h) ?_ hHeld ?_
          rotate_left 1
          · intro w hSw; (try dsimp only at hSw); go_simp
            try simp only [HL1.out, HL2.out, HPB.out, HPD.out, if_false, HWM.out, hm0, hm1, and_self, if_true, Int.toNat_natCast]
            try with_reducible rfl
          simp only [Act.put, aq0, aq1, aq2]
          refine takeG (i := 7) (v := ?_) rfl (by kernel_rfl) (by kernel_rfl) (by kernel_rfl) (by kernel_rfl) (fun _ _ _ h => h) ?_ hHeld ?_
          rotate_left 1
          · intro w hSw; (try dsimp only at hSw); go_simp
            try simp only [HL1.out, HL2.out, HPB.out, HPD.out, if_false, HWM.out, hm0, hm1, and_self, if_true, Int.toNat_natCast]
            try with_reducible rfl
          simp only [Act.put, aq0, aq1, aq2]
          refine takeR (i := 8) (v := ?_) rfl rfl (by kernel_rfl) (by kernel_rfl) (by kernel_rfl) (fun _ _ _ h => h) ?_ hHeld ?_
          rotate_left 1
          · intro w hSw; (try dsimp only at hSw); go_simp
            try simp only [HL1.out, HL2.out, HPB.out, HPD.out, if_false, HWM.out, hm0, hm1, and_self, if_true, Int.toNat_natCast]
            try with_reducible rfl
          simp only [Act.put, aq0, aq1, aq2]
          refine takeR (i := 9) (v := ?_) rfl rfl (by kernel_rfl) (by kernel_rfl) (by kernel_rfl) (fun _ _ _ h => h) ?_ hHeld ?_
          rotate_left 1
          · intro w hSw; (try dsimp only at hSw); go_simp
            try simp only [HL1.out, HL2.out, HPB.out, HPD.out, if_false, HWM.out, hm0, hm1, and_self, if_true, Int.toNat_natCast]
            try with_reducible rfl
          simp only [Act.put, aq0, aq1, aq2]
          refine takeG (i := 10) (v := ?_) rfl (by kernel_rfl) (by kernel_rfl) (by kernel_rfl) (by kernel_rfl) (fun _ _ _ h => h) ?_ hHeld ?_
          rotate_left 1
          · intro w hSw; (try dsimp only at hSw); go_simp
            try simp only [HL1.out, HL2.out, HPB.out, HPD.out, if_false, HWM.out, hm0, hm1, and_self, if_true, Int.toNat_natCast]
            try with_reducible rfl
          simp only [Act.put, aq0, aq1, aq2]
          refine takeG (i := 11) (v := ?_) rfl (by kernel_rfl) (by kernel_rfl) (by kernel_rfl) (by kernel_rfl) (fun _ _ _ h => h) ?_ hHeld ?_
          rotate_left 1
          · intro w hSw; (try dsimp only at hSw); go_simp
            try simp only [HL1.out, HL2.out, HPB.out, HPD.out, if_false, HWM.out, hm0, hm1, and_self, if_true, Int.toNat_natCast]
            try with_reducible rfl
          simp only [Act.put, aq0, aq1, aq2]
          refine takeG (i := 12) (v := ?_) rfl (by kernel_rfl) (by kernel_rfl) (by kernel_rfl) (by kernel_rfl) (fun _ _ _ h => h) ?_ hHeld ?_
          rotate_left 1
          · intro w hSw; (try dsimp only at hSw); go_simp
            try simp only [HL1.out, HL2.out, HPB.out, HPD.out, if_false, HWM.out, hm0, hm1, and_self, if_true, Int.toNat_natCast]
            try with_reducible rfl
          simp only [Act.put, aq0, aq1, aq2]
          refine takeR (i := 13) (v := ?_) rfl rfl (by kernel_rfl) (by kernel_rfl) (by kernel_rfl) (fun _ _ _ h => h) ?_ hHeld ?_
          rotate_left 1
          · intro w hSw; (try dsimp only at hSw); go_simp
            try simp only [HL1.out, HL2.out, HPB.out, HPD.out, if_false, HWM.out, hm0, hm1, and_self, if_true, Int.toNat_natCast]
            try with_reducible rfl
          simp only [Act.put, aq0, aq1, aq2]
          refine takeR (i := 14) (v := ?_) rfl rfl (by kernel_rfl) (by kernel_rfl) (by kernel_rfl) (fun _ _ _ h => h) ?_ hHeld ?_
          rotate_left 1
          · intro w hSw; (try dsimp only at hSw); go_simp
            try simp only [HL1.out, HL2.out, HPB.out, HPD.out, if_false, HWM.out, hm0, hm1, and_self, if_true, Int.toNat_natCast]
            try with_reducible rfl
          simp only [Act.put, aq0, aq1, aq2]
          refine takeG (i := 15) (v := ?_) rfl (by kernel_rfl) (by kernel_rfl) (by kernel_rfl) (by kernel_rfl) (fun _ _ _ h => h) ?_ hHeld ?_
          rotate_left 1
          · intro w hSw; (try dsimp only at hSw); go_simp
            try simp only [HL1.out, HL2.out, HPB.out, HPD.out, if_false, HWM.out, hm0, hm1, and_self, if_true, Int.toNat_natCast]
            try with_reducible rfl
          simp only [Act.put, aq0, aq1, aq2]
          refine takeG (i := 16) (v := ?_) rfl (by kernel_rfl) (by kernel_rfl) (by kernel_rfl) (by kernel_rfl) (fun _ _ _ h => h) ?_ hHeld ?_
          rotate_left 1
          · intro w hSw; (try dsimp only at hSw); go_simp
            try simp only [HL1.out, HL2.out, HPB.out, HPD.out, if_false, HWM.out, hm0, hm1, and_self, if_true, Int.toNat_natCast]
            try with_reducible rfl
          simp only [Act.put, aq0, aq1, aq2]
          refine takeG (i := 17) (v := ?_) rfl (by kernel_rfl) (by kernel_rfl) (by kernel_rfl) (by kernel_rfl) (fun _ _ _ h => h) ?_ hHeld ?_
          rotate_left 1
          · intro w hSw; (try dsimp only at hSw); go_simp
            try simp only [HL1.out, HL2.out, HPB.out, HPD.out, if_false, HWM.out, hm0, hm1, and_self, if_true, Int.toNat_natCast]
            try with_reducible rfl
          simp only [Act.put, aq0, aq1, aq2]
          refine takeG (i := 18) (v := ?_) rfl (by kernel_rfl) (by kernel_rfl) (by kernel_rfl) (by kernel_rfl) (fun _ _ _ h => h) ?_ hHeld ?_
          rotate_left 1
          · intro w hSw; (try dsimp only at hSw); go_simp
            try simp only [HL1.out, HL2.out, HPB.out, HPD.out, if_false, HWM.out, hm0, hm1, and_self, if_true, Int.toNat_natCast]
            try with_reducible rfl
          simp only [Act.put, aq0, aq1, aq2]
          refine takeG (i := 19) (v := ?_) rfl (by kernel_rfl) (by kernel_rfl) (by kernel_rfl) (by kernel_rfl) (fun _ _ _ h => h) ?_ hHeld ?_
          rotate_left 1
          · intro w hSw; (try dsimp only at hSw); go_simp
            try simp only [HL1.out, HL2.out, HPB.out, HPD.out, if_false, HWM.out, hm0, hm1, and_self, if_true, Int.toNat_natCast]
            try with_reducible rfl
          simp only [Act.put, aq0, aq1, aq2]
          refine takeG (i := 20) (v := ?_) rfl (by kernel_rfl) (by kernel_rfl) (by kernel_rfl) (by kernel_rfl) (fun _ _ _ h => h) ?_ hHeld ?_
          rotate_left 1
          · intro w hSw; (try dsimp only at hSw); go_simp
            try simp only [HL1.out, HL2.out, HPB.out, HPD.out, if_false, HWM.out, hm0, hm1, and_self, if_true, Int.toNat_natCast]
            try with_reducible rfl
          simp only [Act.put, aq0, aq1, aq2]
          refine takeG (i := 21) (v := ?_) rfl (by kernel_rfl) (by kernel_rfl) (by kernel_rfl) (by kernel_rfl) (fun _ _ _ h => h) ?_ hHeld ?_
          rotate_left 1
          · intro w hSw; (try dsimp only at hSw); go_simp
            try simp only [HL1.out, HL2.out, HPB.out, HPD.out, if_false, HWM.out, hm0, hm1, and_self, if_true, Int.toNat_natCast]
            try with_reducible rfl
          simp only [Act.put, aq0, aq1, aq2]
          refine takeG (i := 22) (v := ?_) rfl (by kernel_rfl) (by kernel_rfl) (by kernel_rfl) (by kernel_rfl) (fun _ _ _ h => h) ?_ hHeld ?_
          rotate_left 1
          · intro w hSw; (try dsimp only at hSw); go_simp
            try simp only [HL1.out, HL2.out, HPB.out, HPD.out, if_false, HWM.out, hm0, hm1, and_self, if_true, Int.toNat_natCast]
            try with_reducible rfl
          simp only [Act.put, aq0, aq1, aq2]
          refine takeG (i := 23) (v := ?_) rfl (by kernel_rfl) (by kernel_rfl) (by kernel_rfl) (by kernel_rfl) (fun _ _ _ h => h) ?_ hHeld ?_
          rotate_left 1
          · intro w hSw; (try dsimp only at hSw); go_simp
            try simp only [HL1.out, HL2.out, HPB.out, HPD.out, if_false, HWM.out, hm0, hm1, and_self, if_true, Int.toNat_natCast]
            try with_reducible rfl
          simp only [Act.put, aq0, aq1, aq2]
          refine takeG (i := 24) (v := ?_) rfl (by kernel_rfl) (by kernel_rfl) (by kernel_rfl) (by kernel_rfl) (fun _ _ _ h => h) ?_ hHeld ?_
          rotate_left 1
          · intro w hSw; (try dsimp only at hSw); go_simp
            try simp only [HL1.out, HL2.out, HPB.out, HPD.out, if_false, HWM.out, hm0, hm1, and_self, if_true, Int.toNat_natCast]
            try with_reducible rfl
          simp only [Act.put, aq0, aq1, aq2]
          refine takeG (i := 25) (v := ?_) rfl (by kernel_rfl) (by kernel_rfl) (by kernel_rfl) (by kernel_rfl) (fun _ _ _ h => h) ?_ hHeld ?_
          rotate_left 1
          · intro w hSw; (try dsimp only at hSw); go_simp
            try simp only [HL1.out, HL2.out, HPB.out, HPD.out, if_false, HWM.out, hm0, hm1, and_self, if_true, Int.toNat_natCast]
            try with_reducible rfl
          simp only [Act.put, aq0, aq1, aq2]
          refine takeG (i := 26) (v := ?_) rfl (by kernel_rfl) (by kernel_rfl) (by kernel_rfl) (by kernel_rfl) (fun _ _ _ h => h) ?_ hHeld ?_
          rotate_left 1
          · intro w hSw; (try dsimp only at hSw); go_simp
            try simp only [HL1.out, HL2.out, HPB.out, HPD.out, if_false, HWM.out, hm0, hm1, and_self, if_true, Int.toNat_natCast]
            try with_reducible rfl
          simp only [Act.put, aq0, aq1, aq2]
          refine takeG (i := 27) (v := ?_) rfl (by kernel_rfl) (by kernel_rfl) (by kernel_rfl) (by kernel_rfl) (fun _ _ _ h => h) ?_ hHeld ?_
          rotate_left 1
          · intro w hSw; (try dsimp only at hSw); go_simp
            try simp only [HL1.out, HL2.out, HPB.out, HPD.out, if_false, HWM.out, hm0, hm1, and_self, if_true, Int.toNat_natCast]
            try with_reducible rfl
          simp only [Act.put, aq0, aq1, aq2]
          refine takeR (i := 28) (v := ?_) rfl rfl (by kernel_rfl) (by kernel_rfl) (by kernel_rfl) (fun _ _ _ h => h) ?_ hHeld ?_
          rotate_left 1
          · intro w hSw; (try dsimp only at hSw); go_simp
            try simp only [HL1.out, HL2.out, HPB.out, HPD.out, if_false, HWM.out, hm0, hm1, and_self, if_true, Int.toNat_natCast]
            try with_reducible rfl
          simp only [Act.put, aq0, aq1, aq2]
          refine takeR (i := 29) (v := ?_) rfl rfl (by kernel_rfl) (by kernel_rfl) (by kernel_rfl) (fun _ _ _ h => h) ?_ hHeld ?_
          rotate_left 1
          · intro w hSw; (try dsimp only at hSw); go_simp
            try simp only [HL1.out, HL2.out, HPB.out, HPD.out, if_false, HWM.out, hm0, hm1, and_self, if_true, Int.toNat_natCast]
            try with_reducible rfl
          simp only [Act.put, aq0, aq1, aq2]
          refine takeG (i := 30) (v := ?_) rfl (by kernel_rfl) (by kernel_rfl) (by kernel_rfl) (by kernel_rfl) (fun _ _ _ h => h) ?_ hHeld ?_
          rotate_left 1
          · intro w hSw; (try dsimp only at hSw); go_simp
            try simp only [HL1.out, HL2.out, HPB.out, HPD.out, if_false, HWM.out, hm0, hm1, and_self, if_true, Int.toNat_natCast]
            try with_reducible rfl
          simp only [Act.put, aq0, aq1, aq2]
          refine takeG (i := 31) (v := ?_) rfl (by kernel_rfl) (by kernel_rfl) (by kernel_rfl) (by kernel_rfl) (fun _ _ _ h => h) ?_ hHeld ?_
          rotate_left 1
          · intro w hSw; (try dsimp only at hSw); go_simp
            try simp only [HL1.out, HL2.out, HPB.out, HPD.out, if_false, HWM.out, hm0, hm1, and_self, if_true, Int.toNat_natCast]
            try with_reducible rfl
          simp only [Act.put, aq0, aq1, aq2]
          refine takeG (i := 32) (v := ?_) rfl (by kernel_rfl) (by kernel_rfl) (by kernel_rfl) (by kernel_rfl) (fun _ _ _ h => h) ?_ hHeld ?_
          rotate_left 1
          · intro w hSw; (try dsimp only at hSw); go_simp
            try simp only [HL1.out, HL2.out, HPB.out, HPD.out, if_false, HWM.out, hm0, hm1, and_self, if_true, Int.toNat_natCast]
            try with_reducible rfl
          simp only [Act.put, aq0, aq1, aq2]
          refine takeG (i := 33) (v := ?_) rfl (by kernel_rfl) (by kernel_rfl) (by kernel_rfl) (by kernel_rfl) (fun _ _ _ h => h) ?_ hHeld ?_
          rotate_left 1
          · intro w hSw; (try dsimp only at hSw); go_simp
            try simp only [HL1.out, HL2.out, HPB.out, HPD.out, if_false, HWM.out, hm0, hm1, and_self, if_true, Int.toNat_natCast]
            try with_reducible rfl
          simp only [Act.put, aq0, aq1, aq2]
          refine takeR (i := 34) (v := ?_) rfl rfl (by kernel_rfl) (by kernel_rfl) (by kernel_rfl) (fun _ _ _ h => h) ?_ hHeld ?_
          rotate_left 1
          · intro w hSw; (try dsimp only at hSw); go_simp
            try simp only [HL1.out, HL2.out, HPB.out, HPD.out, if_false, HWM.out, hm0, hm1, and_self, if_true, Int.toNat_natCast]
            try with_reducible rfl
          simp only [Act.put, aq0, aq1, aq2]
          refine takeR (i := 35) (v := ?_) rfl rfl (by kernel_rfl) (by kernel_rfl) (by kernel_rfl) (fun _ _ _ h => h) ?_ hHeld ?_
          rotate_left 1
          · intro w hSw; (try dsimp only at hSw); go_simp
            try simp only [HL1.out, HL2.out, HPB.out, HPD.out, if_false, HWM.out, hm0, hm1, and_self, if_true, Int.toNat_natCast]
            try with_reducible rfl
          simp only [Act.put, aq0, aq1, aq2]
          refine takeG (i := 36) (v := ?_) rfl (by kernel_rfl) (by kernel_rfl) (by kernel_rfl) (by kernel_rfl) (fun _ _ _ h => h) ?_ hHeld ?_
          rotate_left 1
          · intro w hSw; (try dsimp only at hSw); go_simp
            try simp only [HL1.out, HL2.out, HPB.out, HPD.out, if_false, HWM.out, hm0, hm1, and_self, if_true, Int.toNat_natCast]
            try with_reducible rfl
          simp only [Act.put, aq0, aq1, aq2]
          refine takeG (i := 37) (v := ?_) rfl (by kernel_rfl) (by kernel_rfl) (by kernel_rfl) (by kernel_rfl) (fun _ _ _ h => h) ?_ hHeld ?_
          rotate_left 1
          · intro w hSw; (try dsimp only at hSw); go_simp
            try simp only [HL1.out, HL2.out, HPB.out, HPD.out, if_false, HWM.out, hm0, hm1, and_self, if_true, Int.toNat_natCast]
            try with_reducible rfl
          simp only [Act.put, aq0, aq1, aq2]
          refine takeG (i := 38) (v := ?_) rfl (by kernel_rfl) (by kernel_rfl) (by kernel_rfl) (by kernel_rfl) (fun _ _ _ h => h) ?_ hHeld ?_
          rotate_left 1
          · intro w hSw; (try dsimp only at hSw); go_simp
            try simp only [HL1.out, HL2.out, HPB.out, HPD.out, if_false, HWM.out, hm0, hm1, and_self, if_true, Int.toNat_natCast]
            try with_reducible rfl
          simp only [Act.put, aq0, aq1, aq2]
          refine takeG (i := 39) (v := ?_) rfl (by kernel_rfl) (by kernel_rfl) (by kernel_rfl) (by kernel_rfl) (fun _ _ _ h => h) ?_ hHeld ?_
          rotate_left 1
          · intro w hSw; (try dsimp only at hSw); go_simp
            try simp only [HL1.out, HL2.out, HPB.out, HPD.out, if_false, HWM.out, hm0, hm1, and_self, if_true, Int.toNat_natCast]
            try with_reducible rfl
          simp only [Act.put, aq0, aq1, aq2]
          refine takeR (i := 40) (v := ?_) rfl rfl (by kernel_rfl) (by kernel_rfl) (by kernel_rfl) (fun _ _ _ h => h) ?_ hHeld ?_
          rotate_left 1
          · intro w hSw; (try dsimp only at hSw); go_simp
            try simp only [HL1.out, HL2.out, HPB.out, HPD.out, if_false, HWM.out, hm0, hm1, and_self, if_true, Int.toNat_natCast]
            try with_reducible rfl
          simp only [Act.put, aq0, aq1, aq2]
          refine wpAnyH_done (by kernel_rfl) ?_ _
          refine NoPanic.normal ?_
          obtain ⟨g, hg⟩ : ∃ g, g = wr.heap.size := ⟨_, rfl⟩
          have HG := Lib.hid hg
          have Pg := hHeld.1
          have hgw : w.heap.size ≤ g := by rw [HG.out]; exact HG0.out
          go_wp2
          rw [← HG.out]
          rw [← HG.out] at Pg
          go_loopw [5] (fun i wq => ∃ k : Nat, k ≤ xs[m + 1].dims.length ∧ i = .int .i64 k ∧ xs[m + 1].dims.any dimBad = (xs[m + 1].dims.drop k).any dimBad ∧ Box2 wq g (.string xs[m + 1].name) (.slice A2e xs[m + 1].dims.length c2e) ∧ Rep wq (ints xs[m + 1].dims) [.slice A2e xs[m + 1].dims.length c2e] le ∧ Below w.heap.size w wq) (fun i _ => xs[m + 1].dims.length - (intOf i).toNat)
          case atStart => exact ⟨0, Nat.zero_le _, rfl, by simp, Pg, Q2w.out.drewN 1, SW.drew⟩
          case round =>
            clear Pg Q2w SW hg BW PW hHeld
            obtain ⟨k, hk, rfl, hi2, Pr, hr, hb3⟩ := hrel
            have HI2 := Lib.hid hi2; clear hi2
            have HR := Lib.hid hr; clear hr
            by_cases hkt : k < xs[m + 1].dims.length
            · obtain ⟨bd, od, hAd, _, hbd, hcd, _⟩ := HR.out.ints_at hkt
              subst hAd
              have HAS := Lib.hid (HI2.out.trans (any_step xs[m + 1].dims k hkt))
              by_cases hd1 : gi xs[m + 1].dims k < 1
              case pos =>
                have HX := Lib.hid (arrsOk_no (HD.out.trans (by rw [HA2.out, HDI.out, HAS.out, show dimBad (gi xs[m + 1].dims k) = true from (by rw [dimBad, inB_lo (by omega)]; rfl), Bool.true_or, Bool.not_true, Bool.and_false, Bool.false_and])))
                go_wp2
                go_ret
                exact ⟨ret_bool HX.out.symm, hb3⟩
              by_cases hd2 : 6 < gi xs[m + 1].dims k
              case pos =>
                have HX := Lib.hid (arrsOk_no (HD.out.trans (by rw [HA2.out, HDI.out, HAS.out, show dimBad (gi xs[m + 1].dims k) = true from (by rw [dimBad, inB_hi (by omega)]; rfl), Bool.true_or, Bool.not_true, Bool.and_false, Bool.false_and])))
                go_wp2
                go_ret
                exact ⟨ret_bool HX.out.symm, hb3⟩
              have HX := Lib.hid (HAS.out.trans (by rw [show dimBad (gi xs[m + 1].dims k) = false from (by rw [dimBad, inB_true (by omega) (by omega)]; rfl), Bool.false_or]))
              go_wp2
              go_roundw
              case rel => exact ⟨k + 1, by omega, by go_num, HX.out, Pr, HR.out, hb3⟩
              case measure => simp [intOf]; omega
            · have hkk : k = xs[m + 1].dims.length := by omega
              subst hkk
              have HX := Lib.hid (HD.out.trans (by rw [HA2.out, HDI.out, HWI.out, HI2.out, List.drop_length] <;> simp))
              go_wp2
              go_roundw
              case rel => exact ⟨m + 1 + 1, by omega, by go_num, HX.out, hb3⟩
              case measure => simp [intOf]; omega
    · have hjj : j = xs.length := by omega
      subst hjj
      have HX := Lib.hid (show arrsOk xs = decide (xs.length ≤ 4) by rw [arrsOk, HI.out, allN_end, Bool.true_and])
      go_wp2
      go_ret
      exact ⟨ret_bool (by rw [HX.out] <;> first | rfl | (rw [decide_eq_decide]; omega)), hb⟩
end
end Go.Proofs.YtbhniobgaoncaaaGreatDoor
