/- Arrays of both sides: how many cells one has, which lists of arrays are valid. -/
import Derived.Test.YtbhniobgaoncaaaGreatDoorZpCells
import Derived.Test.YtbhniobgaoncaaaGreatDoorZpCore
import Derived.IntWalk
set_option linter.all false
set_option linter.unusedSimpArgs false
set_option linter.unusedVariables false
namespace Go.Proofs.YtbhniobgaoncaaaGreatDoor
open Go.ChangeShapes Go.WideShapes Go.ChangeAt Go.RowKit Go.Deep

section
variable {w : World} {bs : List Nat}
theorem prod_step {l : List Int} (h : dimsOk l = true) {j : Nat} (hj : j < l.length) : (1 ≤ prodTo l j ∧ prodTo l j ≤ 36) ∧ (1 ≤ gi l j ∧ gi l j ≤ 6) ∧ 0 ≤ prodTo l j * gi l j ∧ prodTo l j * gi l j ≤ 36 := by
  have h1 := prod_bd36 h (Nat.le_of_lt hj)
  have h2 := (dims_bd h).2 j hj
  have h3 := prod_bd36 h (j := j + 1) hj
  simp only [prodTo] at h3
  omega

set_option maxHeartbeats 2000000 in
theorem size_c {x : Ar} {cs : List Value} (h : Rep w x.d cs bs) (hd : dimsOk x.dims = true) :
    Calls Tryz.prog 231 #[.agg cs.toArray] w fun e w' => e = .returned (.int .i64 (szF x)) ∧ Below w.heap.size w w' := by
  obtain ⟨A2, c2, d2, rfl, rfl, g1, g2⟩ := Rep.ar_iff.1 h
  have Gname := Lib.hid g1
  have Gdims := Lib.hid g2
  clear h g1 g2
  have hn : x.dims.length ≤ 9223372036854775807 := Nat.le_trans Gdims.out.ints_len.2.1 Gdims.out.ints_len.2.2
  have HD := Lib.hid hd; clear hd
  go_enter Tryz.func231, Tryz.ntmps231
  go_wp2
  go_loop [3, 9] (fun u i => ∃ j : Nat, j ≤ x.dims.length ∧ i = .int .i64 j ∧ u = .int .i64 (prodTo x.dims j)) (fun _ i => x.dims.length - (intOf i).toNat)
  case atStart => exact ⟨0, Nat.zero_le _, rfl, rfl⟩
  case round =>
    obtain ⟨j, hj, rfl, rfl⟩ := hrel
    by_cases hlt : j < x.dims.length
    · obtain ⟨b, o, rfl, _, hbl, hc, _⟩ := Gdims.out.ints_at hlt
      have hst := prod_step HD.out hlt
      have HP := Lib.hid (show prodTo x.dims (j + 1) = prodTo x.dims j * gi x.dims j from rfl)
      go_wp2
      go_round
      case rel => exact ⟨j + 1, by omega, by go_num, int_eq (by rw [HP.out])⟩
      case measure => simp [intOf]; omega
    · have hjj : j = x.dims.length := by omega
      subst hjj
      go_wp2
      go_ret
      exact ⟨rfl, bel⟩

set_option maxHeartbeats 2000000 in
theorem l4Size_c {x : Ar} {cs : List Value} (h : Rep w x.d cs bs) (hd : dimsOk x.dims = true) :
    Calls Tryz.prog 223 #[.agg cs.toArray] w fun e w' => e = .returned (.int .i64 (szF x)) ∧ Below w.heap.size w w' := by
  obtain ⟨A2, c2, d2, rfl, rfl, g1, g2⟩ := Rep.ar_iff.1 h
  have Gname := Lib.hid g1
  have Gdims := Lib.hid g2
  clear h g1 g2
  have hn : x.dims.length ≤ 9223372036854775807 := Nat.le_trans Gdims.out.ints_len.2.1 Gdims.out.ints_len.2.2
  have HD := Lib.hid hd; clear hd
  go_enter Tryz.func223, Tryz.ntmps223
  go_wp2
  go_loop [3, 4] (fun u i => ∃ j : Nat, j ≤ x.dims.length ∧ i = .int .i64 j ∧ u = .int .i64 (prodTo x.dims j)) (fun _ i => x.dims.length - (intOf i).toNat)
  case atStart => exact ⟨0, Nat.zero_le _, rfl, rfl⟩
  case round =>
    obtain ⟨j, hj, rfl, rfl⟩ := hrel
    by_cases hlt : j < x.dims.length
    · obtain ⟨b, o, rfl, _, hbl, hc, _⟩ := Gdims.out.ints_at hlt
      have hst := prod_step HD.out hlt
      have HP := Lib.hid (show prodTo x.dims (j + 1) = prodTo x.dims j * gi x.dims j from rfl)
      go_wp2
      go_round
      case rel => exact ⟨j + 1, by omega, by go_num, int_eq (by rw [HP.out])⟩
      case measure => simp [intOf]; omega
    · have hjj : j = x.dims.length := by omega
      subst hjj
      go_wp2
      go_ret
      exact ⟨rfl, bel⟩

theorem arraysOk1_c (x : Int) (W : World) : Calls Tryz.prog 177 (#[.int .i64 x] ++ #[]) W fun e w' => e = .returned (.bool (dimBad x)) ∧ W = w' := by
  show Calls Tryz.prog 177 #[.int .i64 x] W _
  go_enter Tryz.func177, Tryz.ntmps177
  go_wp2_with fail
  refine (within_c _ _ _ _).mono ?_
  rintro e w' ⟨rfl, rfl⟩
  go_wp2
  go_ret
  exact ⟨rfl, rfl⟩
theorem arraysOk1_e : Enters Tryz.prog 177 := fun args W => by go_simp
theorem arrsOk_no {xs : List Ar} (h : allN (arrAt xs) xs.length 0 = false) : arrsOk xs = false := by rw [arrsOk, h, Bool.false_and]
theorem int_ge {s t : ByteArray} {b : Bool} (h : ltB s t = b) : Op.bytesLess s.toList t.toList = b := h
set_option maxRecDepth 100000 in
set_option maxHeartbeats 8000000 in
theorem arraysOk_c {xs : List Ar} {A : Option Addr} {n c : Nat} (h : Rep w (sls Ar.d xs) [.slice A n c] bs) :
    Calls Tryz.prog 127 #[.slice A n c] w fun e w' => e = .returned (.bool (arrsOk xs)) ∧ Below w.heap.size w w' := by
  obtain ⟨rfl, h1, h2⟩ := h.sls_len
  have hn : xs.length ≤ 9223372036854775807 := Nat.le_trans h1 h2
  clear h1 h2
  have H := Lib.hid h; clear h
  go_enter Tryz.func127, Tryz.ntmps127
  go_wp2
  go_loopw [7] (fun i wr => ∃ j : Nat, j ≤ xs.length ∧ i = .int .i64 j ∧ allN (arrAt xs) xs.length 0 = allN (arrAt xs) (xs.length - j) j ∧ Below w.heap.size w wr) (fun i _ => xs.length - (intOf i).toNat)
  case atStart => exact ⟨0, Nat.zero_le _, rfl, rfl, bel⟩
  case round =>
    obtain ⟨j, hj, rfl, hi, hb⟩ := hrel
    have HI := Lib.hid hi; clear hi
    by_cases hlt : j < xs.length
    · have HD := Lib.hid (HI.out.trans (allN_step (f := arrAt xs) hlt))
      have HA := Lib.hid (show arrAt xs j = (arrOk xs[j].name && (ordAt xs j && dimsOk xs[j].dims)) by rw [arrAt, nthA_eq hlt])
      have HDI := Lib.hid (show dimsOk xs[j].dims = (inB (xs[j].dims.length : Int) 1 2 && !xs[j].dims.any dimBad) from rfl)
      obtain ⟨be, oe, cse, le, rfl, hble, hre, _, _, hce⟩ := (H.out.below hb).sls_at Ar.d_size (k := j) hlt
      have Ge := Lib.hid hre
      obtain ⟨A2e, c2e, d2e, rfl, rfl, g1e, g2e⟩ := Rep.ar_iff.1 hre
      have k0e := (hce 0 _ rfl).1; rw [Nat.add_zero] at k0e
      have k1e := (hce 1 _ rfl).1
      have Q1e := Lib.hid g1e
      have Q2e := Lib.hid g2e
      clear hce hre g1e g2e
      have hne : xs[j].dims.length ≤ 9223372036854775807 := Nat.le_trans Q2e.out.ints_len.2.1 Q2e.out.ints_len.2.2
      have Q2w := Lib.hid (Q2e.out.below (show Below wr.heap.size wr (wr.alloc (.cells #[.string xs[j].name, .slice A2e xs[j].dims.length c2e] 63)) from bel))
      obtain ⟨W, hW⟩ : ∃ W, W = wr.alloc (.cells #[.string xs[j].name, .slice A2e xs[j].dims.length c2e] 63) := ⟨_, rfl⟩
      have PW : Box2 W wr.heap.size (.string xs[j].name) (.slice A2e xs[j].dims.length c2e) := by rw [hW]; exact Box2.new _ _ _ _
      have BW : Below wr.heap.size wr W := by rw [hW]; exact bel
      rw [← hW] at Q2w
      have HW := Lib.hid hW; clear hW
      have SW := below_tr hb BW
      cases hv : arrOk xs[j].name with
      | false =>
        have HX := Lib.hid (arrsOk_no (HD.out.trans (by rw [HA.out, hv, Bool.false_and, Bool.false_and])))
        have HV := Lib.hid hv; clear hv
        go_wp2_with fail
        rw [← HW.out]
        refine wp_region_noPanic ?_
        refine wp_region_held_drew (S := fun w' => Box2 w' wr.heap.size (.string xs[j].name) (.slice A2e xs[j].dims.length c2e)) (by kernel_rfl) (PW) (fun hHeld => ?_)
        refine goR 0 hHeld ?_
        refine goR 1 hHeld ?_
        refine stepR (i := 2) rfl (by kernel_rfl) (wanted_none rfl) (fun K hK => ?_)
        go_simp
        (refine (isArray_c _ Q1e.out _).mono ?_; rintro e w' ⟨he, rfl⟩; rw [HV.out] at he; subst he)
        go_wp2_with fail
        refine hK.out _ _ (PW) (fun hHeld => ?_)
        clear hK K
        try simp only [Act.put, aq0, aq1, aq2]
        refine goR 3 hHeld ?_
        refine goR 4 hHeld ?_
        refine goS 5 hHeld ?_
        refine goS 6 hHeld ?_
        refine goS 7 hHeld ?_
        refine goS 8 hHeld ?_
        refine goS 9 hHeld ?_
        refine goS 10 hHeld ?_
        refine goS 11 hHeld ?_
        refine goS 12 hHeld ?_
        refine goS 13 hHeld ?_
        refine goS 14 hHeld ?_
        refine goS 15 hHeld ?_
        refine goS 16 hHeld ?_
        refine goS 17 hHeld ?_
        refine goR 18 hHeld ?_
        refine goR 19 hHeld ?_
        refine goS 20 hHeld ?_
        refine goS 21 hHeld ?_
        refine goS 22 hHeld ?_
        refine goS 23 hHeld ?_
        refine goS 24 hHeld ?_
        refine goR 25 hHeld ?_
        refine goR 26 hHeld ?_
        refine goS 27 hHeld ?_
        refine goS 28 hHeld ?_
        refine goS 29 hHeld ?_
        refine goR 30 hHeld ?_
        refine wpAnyH_done (by kernel_rfl) ?_ _
        refine NoPanic.normal ?_
        go_wp2
        go_ret
        exact ⟨ret_bool HX.out.symm, SW.drew⟩
      | true =>
        have HV := Lib.hid hv; clear hv
        cases hj0 : decide (j = 0) with
        | true =>
          have hj00 := of_decide_eq_true hj0
          have hz : (0 < j) = False := eq_false (by omega)
          have hz2 : ((0 : Int) < (j : Int)) = False := eq_false (by omega)
          have HA2 := Lib.hid (show arrAt xs j = dimsOk xs[j].dims by rw [HA.out, HV.out, Bool.true_and, ordAt, hj0, Bool.true_or, Bool.true_and])
          clear hj0 hj00
          cases hwi : inB (xs[j].dims.length : Int) 1 2 with
          | false =>
            have HX := Lib.hid (arrsOk_no (HD.out.trans (by rw [HA2.out, HDI.out, hwi, Bool.false_and, Bool.false_and])))
            have HWI := Lib.hid hwi; clear hwi
            go_wp2_with fail
            rw [← HW.out]
            refine wp_region_noPanic ?_
            refine wp_region_held_drew (S := fun w' => Box2 w' wr.heap.size (.string xs[j].name) (.slice A2e xs[j].dims.length c2e)) (by kernel_rfl) (PW) (fun hHeld => ?_)
            refine goR 0 hHeld ?_
            refine goR 1 hHeld ?_
            refine stepR (i := 2) rfl (by kernel_rfl) (wanted_none rfl) (fun K hK => ?_)
            go_simp
            (refine (isArray_c _ Q1e.out _).mono ?_; rintro e w' ⟨he, rfl⟩; rw [HV.out] at he; subst he)
            go_wp2_with fail
            refine hK.out _ _ (PW) (fun hHeld => ?_)
            clear hK K
            try simp only [Act.put, aq0, aq1, aq2]
            refine goR 3 hHeld ?_
            refine goR 4 hHeld ?_
            refine goG 5 hHeld ?_
            refine goG 6 hHeld ?_
            refine goG 7 hHeld ?_
            refine goS 8 hHeld ?_
            refine goS 9 hHeld ?_
            refine goS 10 hHeld ?_
            refine goS 11 hHeld ?_
            refine goS 12 hHeld ?_
            refine goS 13 hHeld ?_
            refine goS 14 hHeld ?_
            refine goS 15 hHeld ?_
            refine goS 16 hHeld ?_
            refine goG 17 hHeld ?_
            refine goR 18 hHeld ?_
            refine goR 19 hHeld ?_
            refine goG 20 hHeld ?_
            refine goG 21 hHeld ?_
            refine goG 22 hHeld ?_
            refine stepR (i := 23) rfl (by kernel_rfl) (by kernel_rfl) (fun K hK => ?_)
            go_simp
            (refine (within_c _ _ _ _).mono ?_; rintro e w' ⟨he, rfl⟩; rw [HWI.out] at he; subst he)
            go_wp2_with fail
            refine hK.out _ _ (PW) (fun hHeld => ?_)
            clear hK K
            try simp only [Act.put, aq0, aq1, aq2]
            refine goG 24 hHeld ?_
            refine goR 25 hHeld ?_
            refine goR 26 hHeld ?_
            refine goS 27 hHeld ?_
            refine goS 28 hHeld ?_
            refine goS 29 hHeld ?_
            refine goR 30 hHeld ?_
            refine wpAnyH_done (by kernel_rfl) ?_ _
            refine NoPanic.normal ?_
            go_wp2
            go_ret
            exact ⟨ret_bool HX.out.symm, SW.drew⟩
          | true =>
            have HWI := Lib.hid hwi; clear hwi
            cases han : xs[j].dims.any dimBad with
            | true =>
              have HX := Lib.hid (arrsOk_no (HD.out.trans (by rw [HA2.out, HDI.out, HWI.out, han, Bool.not_true, Bool.and_false, Bool.false_and])))
              have HAN := Lib.hid han; clear han
              go_wp2_with fail
              rw [← HW.out]
              refine wp_region_noPanic ?_
              refine wp_region_held_drew (S := fun w' => Box2 w' wr.heap.size (.string xs[j].name) (.slice A2e xs[j].dims.length c2e)) (by kernel_rfl) (PW) (fun hHeld => ?_)
              refine goR 0 hHeld ?_
              refine goR 1 hHeld ?_
              refine stepR (i := 2) rfl (by kernel_rfl) (wanted_none rfl) (fun K hK => ?_)
              go_simp
              (refine (isArray_c _ Q1e.out _).mono ?_; rintro e w' ⟨he, rfl⟩; rw [HV.out] at he; subst he)
              go_wp2_with fail
              refine hK.out _ _ (PW) (fun hHeld => ?_)
              clear hK K
              try simp only [Act.put, aq0, aq1, aq2]
              refine goR 3 hHeld ?_
              refine goR 4 hHeld ?_
              refine goG 5 hHeld ?_
              refine goG 6 hHeld ?_
              refine goG 7 hHeld ?_
              refine goS 8 hHeld ?_
              refine goS 9 hHeld ?_
              refine goS 10 hHeld ?_
              refine goS 11 hHeld ?_
              refine goS 12 hHeld ?_
              refine goS 13 hHeld ?_
              refine goS 14 hHeld ?_
              refine goS 15 hHeld ?_
              refine goS 16 hHeld ?_
              refine goG 17 hHeld ?_
              refine goR 18 hHeld ?_
              refine goR 19 hHeld ?_
              refine goG 20 hHeld ?_
              refine goG 21 hHeld ?_
              refine goG 22 hHeld ?_
              refine stepR (i := 23) rfl (by kernel_rfl) (by kernel_rfl) (fun K hK => ?_)
              go_simp
              (refine (within_c _ _ _ _).mono ?_; rintro e w' ⟨he, rfl⟩; rw [HWI.out] at he; subst he)
              go_wp2_with fail
              refine hK.out _ _ (PW) (fun hHeld => ?_)
              clear hK K
              try simp only [Act.put, aq0, aq1, aq2]
              refine goG 24 hHeld ?_
              refine goR 25 hHeld ?_
              refine goR 26 hHeld ?_
              refine goG 27 hHeld ?_
              refine goG 28 hHeld ?_
              refine stepR (i := 29) rfl (by kernel_rfl) (by kernel_rfl) (fun K hK => ?_)
              go_simp
              (refine (ContainsFunc_int_c (p := dimBad) (Q2w.out.drewN 1) arraysOk1_e (fun x W _ => arraysOk1_c x W)).mono ?_; rintro e w' ⟨he, rfl⟩; rw [HAN.out] at he; subst he)
              go_wp2_with fail
              refine hK.out _ _ (PW) (fun hHeld => ?_)
              clear hK K
              try simp only [Act.put, aq0, aq1, aq2]
              refine goR 30 hHeld ?_
              refine wpAnyH_done (by kernel_rfl) ?_ _
              refine NoPanic.normal ?_
              go_wp2
              go_ret
              exact ⟨ret_bool HX.out.symm, SW.drew⟩
            | false =>
              have HX := Lib.hid (HD.out.trans (by rw [HA2.out, HDI.out, HWI.out, han, Bool.not_false, Bool.true_and, Bool.true_and]))
              have HAN := Lib.hid han; clear han
              go_wp2_with fail
              rw [← HW.out]
              refine wp_region_noPanic ?_
              refine wp_region_held_drew (S := fun w' => Box2 w' wr.heap.size (.string xs[j].name) (.slice A2e xs[j].dims.length c2e)) (by kernel_rfl) (PW) (fun hHeld => ?_)
              refine goR 0 hHeld ?_
              refine goR 1 hHeld ?_
              refine stepR (i := 2) rfl (by kernel_rfl) (wanted_none rfl) (fun K hK => ?_)
              go_simp
              (refine (isArray_c _ Q1e.out _).mono ?_; rintro e w' ⟨he, rfl⟩; rw [HV.out] at he; subst he)
              go_wp2_with fail
              refine hK.out _ _ (PW) (fun hHeld => ?_)
              clear hK K
              try simp only [Act.put, aq0, aq1, aq2]
              refine goR 3 hHeld ?_
              refine goR 4 hHeld ?_
              refine goG 5 hHeld ?_
              refine goG 6 hHeld ?_
              refine goG 7 hHeld ?_
              refine goS 8 hHeld ?_
              refine goS 9 hHeld ?_
              refine goS 10 hHeld ?_
              refine goS 11 hHeld ?_
              refine goS 12 hHeld ?_
              refine goS 13 hHeld ?_
              refine goS 14 hHeld ?_
              refine goS 15 hHeld ?_
              refine goS 16 hHeld ?_
              refine goG 17 hHeld ?_
              refine goR 18 hHeld ?_
              refine goR 19 hHeld ?_
              refine goG 20 hHeld ?_
              refine goG 21 hHeld ?_
              refine goG 22 hHeld ?_
              refine stepR (i := 23) rfl (by kernel_rfl) (by kernel_rfl) (fun K hK => ?_)
              go_simp
              (refine (within_c _ _ _ _).mono ?_; rintro e w' ⟨he, rfl⟩; rw [HWI.out] at he; subst he)
              go_wp2_with fail
              refine hK.out _ _ (PW) (fun hHeld => ?_)
              clear hK K
              try simp only [Act.put, aq0, aq1, aq2]
              refine goG 24 hHeld ?_
              refine goR 25 hHeld ?_
              refine goR 26 hHeld ?_
              refine goG 27 hHeld ?_
              refine goG 28 hHeld ?_
              refine stepR (i := 29) rfl (by kernel_rfl) (by kernel_rfl) (fun K hK => ?_)
              go_simp
              (refine (ContainsFunc_int_c (p := dimBad) (Q2w.out.drewN 1) arraysOk1_e (fun x W _ => arraysOk1_c x W)).mono ?_; rintro e w' ⟨he, rfl⟩; rw [HAN.out] at he; subst he)
              go_wp2_with fail
              refine hK.out _ _ (PW) (fun hHeld => ?_)
              clear hK K
              try simp only [Act.put, aq0, aq1, aq2]
              refine goR 30 hHeld ?_
              refine wpAnyH_done (by kernel_rfl) ?_ _
              refine NoPanic.normal ?_
              go_wp2
              go_roundw
              case rel => exact ⟨j + 1, by omega, by go_num, HX.out, SW.drew⟩
              case measure => simp [intOf]; omega
        | false =>
          obtain ⟨m, rfl⟩ : ∃ m, j = m + 1 := ⟨j - 1, by have := of_decide_eq_false hj0; omega⟩
          have hm : m < xs.length := by omega
          have HWM := Lib.hid (show IntKind.i64.wrap (m : Int) = (m : Int) from IntWalk.i64_in _ (by omega))
          have hm0 : (0 ≤ (m : Int)) = True := eq_true (by omega)
          have hm1 : ((m : Int) < (xs.length : Int)) = True := eq_true (by omega)
          have HO := Lib.hid (show ordAt xs (m + 1) = ltB xs[m].name xs[m + 1].name by rw [ordAt, hj0, Bool.false_or, Nat.add_sub_cancel, nthA_eq hm, nthA_eq hlt])
          clear hj0
          obtain ⟨bf, of, csf, lf, heqf, hblf, hrf, _, _, hcf⟩ := (H.out.below hb).sls_at Ar.d_size (k := m) hm
          obtain ⟨rfl, rfl⟩ : be = bf ∧ oe = of := by simpa using heqf
          have Gf := Lib.hid hrf
          obtain ⟨A2f, c2f, d2f, rfl, rfl, g1f, g2f⟩ := Rep.ar_iff.1 hrf
          have k0f := (hcf 0 _ rfl).1; rw [Nat.add_zero] at k0f
          have k1f := (hcf 1 _ rfl).1
          have Q1f := Lib.hid g1f
          have Q2f := Lib.hid g2f
          clear hcf hrf g1f g2f
          have F0 := (BW.cell hblf).trans k0f
          clear k0f k1f
          cases ho : ltB xs[m].name xs[m + 1].name with
          | false =>
            have HX := Lib.hid (arrsOk_no (HD.out.trans (by rw [HA.out, HV.out, HO.out, ho, Bool.false_and, Bool.and_false, Bool.false_and])))
            have hbl1 := int_ge ho
            clear ho
            go_wp2_with fail
            rw [← HW.out]
            refine wp_region_noPanic ?_
            refine wp_region_held_drew (S := fun w' => Box2 w' wr.heap.size (.string xs[m + 1].name) (.slice A2e xs[m + 1].dims.length c2e) ∧ w'.cell? ⟨be, oe + m * 2, none⟩ = some (.string xs[m].name)) (by kernel_rfl) (⟨PW, F0⟩) (fun hHeld => ?_)
            refine takeR (i := 0) (v := ?_) rfl rfl (by kernel_rfl) (by kernel_rfl) (by kernel_rfl) (fun _ _ _ h => h) ?_ hHeld ?_
            rotate_left 1
            · intro w hSw; (try dsimp only at hSw); go_simp
              try simp only [HWM.out, hm0, hm1, and_self, if_true, Int.toNat_natCast]
              try with_reducible rfl
            simp only [Act.put, aq0, aq1, aq2]
            refine takeR (i := 1) (v := ?_) rfl rfl (by kernel_rfl) (by kernel_rfl) (by kernel_rfl) (fun _ _ _ h => h) ?_ hHeld ?_
            rotate_left 1
            · intro w hSw; (try dsimp only at hSw); go_simp
              try simp only [HWM.out, hm0, hm1, and_self, if_true, Int.toNat_natCast]
              try with_reducible rfl
            simp only [Act.put, aq0, aq1, aq2]
            refine stepR (i := 2) rfl (by kernel_rfl) (wanted_none rfl) (fun K hK => ?_)
            go_simp
            (refine (isArray_c _ Q1e.out _).mono ?_; rintro e w' ⟨he, rfl⟩; rw [HV.out] at he; subst he)
            go_wp2_with fail
            refine hK.out _ _ (⟨PW, F0⟩) (fun hHeld => ?_)
            clear hK K
            try simp only [Act.put, aq0, aq1, aq2]
            refine takeR (i := 3) (v := ?_) rfl rfl (by kernel_rfl) (by kernel_rfl) (by kernel_rfl) (fun _ _ _ h => h) ?_ hHeld ?_
            rotate_left 1
            · intro w hSw; (try dsimp only at hSw); go_simp
              try simp only [HWM.out, hm0, hm1, and_self, if_true, Int.toNat_natCast]
              try with_reducible rfl
            simp only [Act.put, aq0, aq1, aq2]
            refine takeR (i := 4) (v := ?_) rfl rfl (by kernel_rfl) (by kernel_rfl) (by kernel_rfl) (fun _ _ _ h => h) ?_ hHeld ?_
            rotate_left 1
            · intro w hSw; (try dsimp only at hSw); go_simp
              try simp only [HWM.out, hm0, hm1, and_self, if_true, Int.toNat_natCast]
              try with_reducible rfl
            simp only [Act.put, aq0, aq1, aq2]
            refine takeG (i := 5) (v := ?_) rfl (by kernel_rfl) (by kernel_rfl) (by kernel_rfl) (by kernel_rfl) (fun _ _ _ h => h) ?_ hHeld ?_
            rotate_left 1
            · intro w hSw; (try dsimp only at hSw); go_simp
              try simp only [HWM.out, hm0, hm1, and_self, if_true, Int.toNat_natCast]
              try with_reducible rfl
            simp only [Act.put, aq0, aq1, aq2]
            refine takeG (i := 6) (v := ?_) rfl (by kernel_rfl) (by kernel_rfl) (by kernel_rfl) (by kernel_rfl) (fun _ _ _ h => h) ?_ hHeld ?_
            rotate_left 1
            · intro w hSw; (try dsimp only at hSw); go_simp
              try simp only [HWM.out, hm0, hm1, and_self, if_true, Int.toNat_natCast]
              try with_reducible rfl
            simp only [Act.put, aq0, aq1, aq2]
            refine takeG (i := 7) (v := ?_) rfl (by kernel_rfl) (by kernel_rfl) (by kernel_rfl) (by kernel_rfl) (fun _ _ _ h => h) ?_ hHeld ?_
            rotate_left 1
            · intro w hSw; (try dsimp only at hSw); go_simp
              try simp only [HWM.out, hm0, hm1, and_self, if_true, Int.toNat_natCast]
              try with_reducible rfl
            simp only [Act.put, aq0, aq1, aq2]
            refine takeG (i := 8) (v := ?_) rfl (by kernel_rfl) (by kernel_rfl) (by kernel_rfl) (by kernel_rfl) (fun _ _ _ h => h) ?_ hHeld ?_
            rotate_left 1
            · intro w hSw; (try dsimp only at hSw); go_simp
              try simp only [HWM.out, hm0, hm1, and_self, if_true, Int.toNat_natCast]
              try with_reducible rfl
            simp only [Act.put, aq0, aq1, aq2]
            refine takeG (i := 9) (v := ?_) rfl (by kernel_rfl) (by kernel_rfl) (by kernel_rfl) (by kernel_rfl) (fun _ _ _ h => h) ?_ hHeld ?_
            rotate_left 1
            · intro w hSw; (try dsimp only at hSw); go_simp
              try simp only [HWM.out, hm0, hm1, and_self, if_true, Int.toNat_natCast]
              try with_reducible rfl
            simp only [Act.put, aq0, aq1, aq2]
            refine takeG (i := 10) (v := ?_) rfl (by kernel_rfl) (by kernel_rfl) (by kernel_rfl) (by kernel_rfl) (fun _ _ _ h => h) ?_ hHeld ?_
            rotate_left 1
            · intro w hSw; (try dsimp only at hSw); go_simp
              try simp only [HWM.out, hm0, hm1, and_self, if_true, Int.toNat_natCast]
              try with_reducible rfl
            simp only [Act.put, aq0, aq1, aq2]
            refine takeG (i := 11) (v := ?_) rfl (by kernel_rfl) (by kernel_rfl) (by kernel_rfl) (by kernel_rfl) (fun _ _ _ h => h) ?_ hHeld ?_
            rotate_left 1
            · intro w hSw; (try dsimp only at hSw); go_simp
              try simp only [HWM.out, hm0, hm1, and_self, if_true, Int.toNat_natCast]
              try with_reducible rfl
            simp only [Act.put, aq0, aq1, aq2]
            refine takeG (i := 12) (v := ?_) rfl (by kernel_rfl) (by kernel_rfl) (by kernel_rfl) (by kernel_rfl) (fun _ _ _ h => h) ?_ hHeld ?_
            rotate_left 1
            · intro w hSw; (try dsimp only at hSw); go_simp
              try simp only [HWM.out, hm0, hm1, and_self, if_true, Int.toNat_natCast]
              try with_reducible rfl
            simp only [Act.put, aq0, aq1, aq2]
            refine takeG (i := 13) (v := ?_) rfl (by kernel_rfl) (by kernel_rfl) (by kernel_rfl) (by kernel_rfl) (fun _ _ _ h => h) ?_ hHeld ?_
            rotate_left 1
            · intro w hSw; (try dsimp only at hSw); go_simp
              try simp only [HWM.out, hm0, hm1, and_self, if_true, Int.toNat_natCast]
              try with_reducible rfl
            simp only [Act.put, aq0, aq1, aq2]
            refine takeG (i := 14) (v := ?_) rfl (by kernel_rfl) (by kernel_rfl) (by kernel_rfl) (by kernel_rfl) (fun _ _ _ h => h) ?_ hHeld ?_
            rotate_left 1
            · intro w hSw; (try dsimp only at hSw); go_simp
              try simp only [HWM.out, hm0, hm1, and_self, if_true, Int.toNat_natCast]
              try with_reducible rfl
            simp only [Act.put, aq0, aq1, aq2]
            refine takeG (i := 15) (v := ?_) rfl (by kernel_rfl) (by kernel_rfl) (by kernel_rfl) (by kernel_rfl) (fun _ _ _ h => h) ?_ hHeld ?_
            rotate_left 1
            · intro w hSw; (try dsimp only at hSw); go_simp
              try simp only [HWM.out, hm0, hm1, and_self, if_true, Int.toNat_natCast]
              try with_reducible rfl
            simp only [Act.put, aq0, aq1, aq2]
            refine takeG (i := 16) (v := ?_) rfl (by kernel_rfl) (by kernel_rfl) (by kernel_rfl) (by kernel_rfl) (fun _ _ _ h => h) ?_ hHeld ?_
            rotate_left 1
            · intro w hSw; (try dsimp only at hSw); go_simp
              try simp only [HWM.out, hm0, hm1, and_self, if_true, Int.toNat_natCast]
              try with_reducible rfl
            simp only [Act.put, aq0, aq1, aq2]
            refine takeG (i := 17) (v := ?_) rfl (by kernel_rfl) (by kernel_rfl) (by kernel_rfl) (by kernel_rfl) (fun _ _ _ h => h) ?_ hHeld ?_
            rotate_left 1
            · intro w hSw; (try dsimp only at hSw); go_simp
              try simp only [HWM.out, hm0, hm1, and_self, if_true, Int.toNat_natCast]
              try with_reducible rfl
            simp only [Act.put, aq0, aq1, aq2]
            refine takeR (i := 18) (v := ?_) rfl rfl (by kernel_rfl) (by kernel_rfl) (by kernel_rfl) (fun _ _ _ h => h) ?_ hHeld ?_
            rotate_left 1
            · intro w hSw; (try dsimp only at hSw); go_simp
              try simp only [HWM.out, hm0, hm1, and_self, if_true, Int.toNat_natCast]
              try with_reducible rfl
            simp only [Act.put, aq0, aq1, aq2]
            refine takeR (i := 19) (v := ?_) rfl rfl (by kernel_rfl) (by kernel_rfl) (by kernel_rfl) (fun _ _ _ h => h) ?_ hHeld ?_
            rotate_left 1
            · intro w hSw; (try dsimp only at hSw); go_simp
              try simp only [HWM.out, hm0, hm1, and_self, if_true, Int.toNat_natCast]
              try with_reducible rfl
            simp only [Act.put, aq0, aq1, aq2]
            refine goS 20 hHeld ?_
            refine goS 21 hHeld ?_
            refine goS 22 hHeld ?_
            refine goS 23 hHeld ?_
            refine goS 24 hHeld ?_
            refine takeR (i := 25) (v := ?_) rfl rfl (by kernel_rfl) (by kernel_rfl) (by kernel_rfl) (fun _ _ _ h => h) ?_ hHeld ?_
            rotate_left 1
            · intro w hSw; (try dsimp only at hSw); go_simp
              try simp only [HWM.out, hm0, hm1, and_self, if_true, Int.toNat_natCast]
              try with_reducible rfl
            simp only [Act.put, aq0, aq1, aq2]
            refine takeR (i := 26) (v := ?_) rfl rfl (by kernel_rfl) (by kernel_rfl) (by kernel_rfl) (fun _ _ _ h => h) ?_ hHeld ?_
            rotate_left 1
            · intro w hSw; (try dsimp only at hSw); go_simp
              try simp only [HWM.out, hm0, hm1, and_self, if_true, Int.toNat_natCast]
              try with_reducible rfl
            simp only [Act.put, aq0, aq1, aq2]
            refine goS 27 hHeld ?_
            refine goS 28 hHeld ?_
            refine goS 29 hHeld ?_
            refine takeR (i := 30) (v := ?_) rfl rfl (by kernel_rfl) (by kernel_rfl) (by kernel_rfl) (fun _ _ _ h => h) ?_ hHeld ?_
            rotate_left 1
            · intro w hSw; (try dsimp only at hSw); go_simp
              try simp only [HWM.out, hm0, hm1, and_self, if_true, Int.toNat_natCast]
              try with_reducible rfl
            simp only [Act.put, aq0, aq1, aq2]
            refine wpAnyH_done (by kernel_rfl) ?_ _
            refine NoPanic.normal ?_
            go_wp2
            go_ret
            exact ⟨ret_bool HX.out.symm, SW.drew⟩
          | true =>
            have HO2 := Lib.hid (show arrAt xs (m + 1) = dimsOk xs[m + 1].dims by rw [HA.out, HV.out, HO.out, ho, Bool.true_and, Bool.true_and])
            have hbl1 := int_ge ho
            clear ho
            cases hwi : inB (xs[m + 1].dims.length : Int) 1 2 with
            | false =>
              have HX := Lib.hid (arrsOk_no (HD.out.trans (by rw [HO2.out, HDI.out, hwi, Bool.false_and, Bool.false_and])))
              have HWI := Lib.hid hwi; clear hwi
              go_wp2_with fail
              rw [← HW.out]
              refine wp_region_noPanic ?_
              refine wp_region_held_drew (S := fun w' => Box2 w' wr.heap.size (.string xs[m + 1].name) (.slice A2e xs[m + 1].dims.length c2e) ∧ w'.cell? ⟨be, oe + m * 2, none⟩ = some (.string xs[m].name)) (by kernel_rfl) (⟨PW, F0⟩) (fun hHeld => ?_)
              refine takeR (i := 0) (v := ?_) rfl rfl (by kernel_rfl) (by kernel_rfl) (by kernel_rfl) (fun _ _ _ h => h) ?_ hHeld ?_
              rotate_left 1
              · intro w hSw; (try dsimp only at hSw); go_simp
                try simp only [HWM.out, hm0, hm1, and_self, if_true, Int.toNat_natCast]
                try with_reducible rfl
              simp only [Act.put, aq0, aq1, aq2]
              refine takeR (i := 1) (v := ?_) rfl rfl (by kernel_rfl) (by kernel_rfl) (by kernel_rfl) (fun _ _ _ h => h) ?_ hHeld ?_
              rotate_left 1
              · intro w hSw; (try dsimp only at hSw); go_simp
                try simp only [HWM.out, hm0, hm1, and_self, if_true, Int.toNat_natCast]
                try with_reducible rfl
              simp only [Act.put, aq0, aq1, aq2]
              refine stepR (i := 2) rfl (by kernel_rfl) (wanted_none rfl) (fun K hK => ?_)
              go_simp
              (refine (isArray_c _ Q1e.out _).mono ?_; rintro e w' ⟨he, rfl⟩; rw [HV.out] at he; subst he)
              go_wp2_with fail
              refine hK.out _ _ (⟨PW, F0⟩) (fun hHeld => ?_)
              clear hK K
              try simp only [Act.put, aq0, aq1, aq2]
              refine takeR (i := 3) (v := ?_) rfl rfl (by kernel_rfl) (by kernel_rfl) (by kernel_rfl) (fun _ _ _ h => h) ?_ hHeld ?_
              rotate_left 1
              · intro w hSw; (try dsimp only at hSw); go_simp
                try simp only [HWM.out, hm0, hm1, and_self, if_true, Int.toNat_natCast]
                try with_reducible rfl
              simp only [Act.put, aq0, aq1, aq2]
              refine takeR (i := 4) (v := ?_) rfl rfl (by kernel_rfl) (by kernel_rfl) (by kernel_rfl) (fun _ _ _ h => h) ?_ hHeld ?_
              rotate_left 1
              · intro w hSw; (try dsimp only at hSw); go_simp
                try simp only [HWM.out, hm0, hm1, and_self, if_true, Int.toNat_natCast]
                try with_reducible rfl
              simp only [Act.put, aq0, aq1, aq2]
              refine takeG (i := 5) (v := ?_) rfl (by kernel_rfl) (by kernel_rfl) (by kernel_rfl) (by kernel_rfl) (fun _ _ _ h => h) ?_ hHeld ?_
              rotate_left 1
              · intro w hSw; (try dsimp only at hSw); go_simp
                try simp only [HWM.out, hm0, hm1, and_self, if_true, Int.toNat_natCast]
                try with_reducible rfl
              simp only [Act.put, aq0, aq1, aq2]
              refine takeG (i := 6) (v := ?_) rfl (by kernel_rfl) (by kernel_rfl) (by kernel_rfl) (by kernel_rfl) (fun _ _ _ h => h) ?_ hHeld ?_
              rotate_left 1
              · intro w hSw; (try dsimp only at hSw); go_simp
                try simp only [HWM.out, hm0, hm1, and_self, if_true, Int.toNat_natCast]
                try with_reducible rfl
              simp only [Act.put, aq0, aq1, aq2]
              refine takeG (i := 7) (v := ?_) rfl (by kernel_rfl) (by kernel_rfl) (by kernel_rfl) (by kernel_rfl) (fun _ _ _ h => h) ?_ hHeld ?_
              rotate_left 1
              · intro w hSw; (try dsimp only at hSw); go_simp
                try simp only [HWM.out, hm0, hm1, and_self, if_true, Int.toNat_natCast]
                try with_reducible rfl
              simp only [Act.put, aq0, aq1, aq2]
              refine takeG (i := 8) (v := ?_) rfl (by kernel_rfl) (by kernel_rfl) (by kernel_rfl) (by kernel_rfl) (fun _ _ _ h => h) ?_ hHeld ?_
              rotate_left 1
              · intro w hSw; (try dsimp only at hSw); go_simp
                try simp only [HWM.out, hm0, hm1, and_self, if_true, Int.toNat_natCast]
                try with_reducible rfl
              simp only [Act.put, aq0, aq1, aq2]
              refine takeG (i := 9) (v := ?_) rfl (by kernel_rfl) (by kernel_rfl) (by kernel_rfl) (by kernel_rfl) (fun _ _ _ h => h) ?_ hHeld ?_
              rotate_left 1
              · intro w hSw; (try dsimp only at hSw); go_simp
                try simp only [HWM.out, hm0, hm1, and_self, if_true, Int.toNat_natCast]
                try with_reducible rfl
              simp only [Act.put, aq0, aq1, aq2]
              refine takeG (i := 10) (v := ?_) rfl (by kernel_rfl) (by kernel_rfl) (by kernel_rfl) (by kernel_rfl) (fun _ _ _ h => h) ?_ hHeld ?_
              rotate_left 1
              · intro w hSw; (try dsimp only at hSw); go_simp
                try simp only [HWM.out, hm0, hm1, and_self, if_true, Int.toNat_natCast]
                try with_reducible rfl
              simp only [Act.put, aq0, aq1, aq2]
              refine takeG (i := 11) (v := ?_) rfl (by kernel_rfl) (by kernel_rfl) (by kernel_rfl) (by kernel_rfl) (fun _ _ _ h => h) ?_ hHeld ?_
              rotate_left 1
              · intro w hSw; (try dsimp only at hSw); go_simp
                try simp only [HWM.out, hm0, hm1, and_self, if_true, Int.toNat_natCast]
                try with_reducible rfl
              simp only [Act.put, aq0, aq1, aq2]
              refine takeG (i := 12) (v := ?_) rfl (by kernel_rfl) (by kernel_rfl) (by kernel_rfl) (by kernel_rfl) (fun _ _ _ h => h) ?_ hHeld ?_
              rotate_left 1
              · intro w hSw; (try dsimp only at hSw); go_simp
                try simp only [HWM.out, hm0, hm1, and_self, if_true, Int.toNat_natCast]
                try with_reducible rfl
              simp only [Act.put, aq0, aq1, aq2]
              refine takeG (i := 13) (v := ?_) rfl (by kernel_rfl) (by kernel_rfl) (by kernel_rfl) (by kernel_rfl) (fun _ _ _ h => h) ?_ hHeld ?_
              rotate_left 1
              · intro w hSw; (try dsimp only at hSw); go_simp
                try simp only [HWM.out, hm0, hm1, and_self, if_true, Int.toNat_natCast]
                try with_reducible rfl
              simp only [Act.put, aq0, aq1, aq2]
              refine takeG (i := 14) (v := ?_) rfl (by kernel_rfl) (by kernel_rfl) (by kernel_rfl) (by kernel_rfl) (fun _ _ _ h => h) ?_ hHeld ?_
              rotate_left 1
              · intro w hSw; (try dsimp only at hSw); go_simp
                try simp only [HWM.out, hm0, hm1, and_self, if_true, Int.toNat_natCast]
                try with_reducible rfl
              simp only [Act.put, aq0, aq1, aq2]
              refine takeG (i := 15) (v := ?_) rfl (by kernel_rfl) (by kernel_rfl) (by kernel_rfl) (by kernel_rfl) (fun _ _ _ h => h) ?_ hHeld ?_
              rotate_left 1
              · intro w hSw; (try dsimp only at hSw); go_simp
                try simp only [HWM.out, hm0, hm1, and_self, if_true, Int.toNat_natCast]
                try with_reducible rfl
              simp only [Act.put, aq0, aq1, aq2]
              refine takeG (i := 16) (v := ?_) rfl (by kernel_rfl) (by kernel_rfl) (by kernel_rfl) (by kernel_rfl) (fun _ _ _ h => h) ?_ hHeld ?_
              rotate_left 1
              · intro w hSw; (try dsimp only at hSw); go_simp
                try simp only [HWM.out, hm0, hm1, and_self, if_true, Int.toNat_natCast]
                try with_reducible rfl
              simp only [Act.put, aq0, aq1, aq2]
              refine takeG (i := 17) (v := ?_) rfl (by kernel_rfl) (by kernel_rfl) (by kernel_rfl) (by kernel_rfl) (fun _ _ _ h => h) ?_ hHeld ?_
              rotate_left 1
              · intro w hSw; (try dsimp only at hSw); go_simp
                try simp only [HWM.out, hm0, hm1, and_self, if_true, Int.toNat_natCast]
                try with_reducible rfl
              simp only [Act.put, aq0, aq1, aq2]
              refine takeR (i := 18) (v := ?_) rfl rfl (by kernel_rfl) (by kernel_rfl) (by kernel_rfl) (fun _ _ _ h => h) ?_ hHeld ?_
              rotate_left 1
              · intro w hSw; (try dsimp only at hSw); go_simp
                try simp only [HWM.out, hm0, hm1, and_self, if_true, Int.toNat_natCast]
                try with_reducible rfl
              simp only [Act.put, aq0, aq1, aq2]
              refine takeR (i := 19) (v := ?_) rfl rfl (by kernel_rfl) (by kernel_rfl) (by kernel_rfl) (fun _ _ _ h => h) ?_ hHeld ?_
              rotate_left 1
              · intro w hSw; (try dsimp only at hSw); go_simp
                try simp only [HWM.out, hm0, hm1, and_self, if_true, Int.toNat_natCast]
                try with_reducible rfl
              simp only [Act.put, aq0, aq1, aq2]
              refine takeG (i := 20) (v := ?_) rfl (by kernel_rfl) (by kernel_rfl) (by kernel_rfl) (by kernel_rfl) (fun _ _ _ h => h) ?_ hHeld ?_
              rotate_left 1
              · intro w hSw; (try dsimp only at hSw); go_simp
                try simp only [HWM.out, hm0, hm1, and_self, if_true, Int.toNat_natCast]
                try with_reducible rfl
              simp only [Act.put, aq0, aq1, aq2]
              refine takeG (i := 21) (v := ?_) rfl (by kernel_rfl) (by kernel_rfl) (by kernel_rfl) (by kernel_rfl) (fun _ _ _ h => h) ?_ hHeld ?_
              rotate_left 1
              · intro w hSw; (try dsimp only at hSw); go_simp
                try simp only [HWM.out, hm0, hm1, and_self, if_true, Int.toNat_natCast]
                try with_reducible rfl
              simp only [Act.put, aq0, aq1, aq2]
              refine takeG (i := 22) (v := ?_) rfl (by kernel_rfl) (by kernel_rfl) (by kernel_rfl) (by kernel_rfl) (fun _ _ _ h => h) ?_ hHeld ?_
              rotate_left 1
              · intro w hSw; (try dsimp only at hSw); go_simp
                try simp only [HWM.out, hm0, hm1, and_self, if_true, Int.toNat_natCast]
                try with_reducible rfl
              simp only [Act.put, aq0, aq1, aq2]
              refine stepR (i := 23) rfl (by kernel_rfl) (by kernel_rfl) (fun K hK => ?_)
              go_simp
              (refine (within_c _ _ _ _).mono ?_; rintro e w' ⟨he, rfl⟩; rw [HWI.out] at he; subst he)
              go_wp2_with fail
              refine hK.out _ _ (⟨PW, F0⟩) (fun hHeld => ?_)
              clear hK K
              try simp only [Act.put, aq0, aq1, aq2]
              refine takeG (i := 24) (v := ?_) rfl (by kernel_rfl) (by kernel_rfl) (by kernel_rfl) (by kernel_rfl) (fun _ _ _ h => h) ?_ hHeld ?_
              rotate_left 1
              · intro w hSw; (try dsimp only at hSw); go_simp
                try simp only [HWM.out, hm0, hm1, and_self, if_true, Int.toNat_natCast]
                try with_reducible rfl
              simp only [Act.put, aq0, aq1, aq2]
              refine takeR (i := 25) (v := ?_) rfl rfl (by kernel_rfl) (by kernel_rfl) (by kernel_rfl) (fun _ _ _ h => h) ?_ hHeld ?_
              rotate_left 1
              · intro w hSw; (try dsimp only at hSw); go_simp
                try simp only [HWM.out, hm0, hm1, and_self, if_true, Int.toNat_natCast]
                try with_reducible rfl
              simp only [Act.put, aq0, aq1, aq2]
              refine takeR (i := 26) (v := ?_) rfl rfl (by kernel_rfl) (by kernel_rfl) (by kernel_rfl) (fun _ _ _ h => h) ?_ hHeld ?_
              rotate_left 1
              · intro w hSw; (try dsimp only at hSw); go_simp
                try simp only [HWM.out, hm0, hm1, and_self, if_true, Int.toNat_natCast]
                try with_reducible rfl
              simp only [Act.put, aq0, aq1, aq2]
              refine goS 27 hHeld ?_
              refine goS 28 hHeld ?_
              refine goS 29 hHeld ?_
              refine takeR (i := 30) (v := ?_) rfl rfl (by kernel_rfl) (by kernel_rfl) (by kernel_rfl) (fun _ _ _ h => h) ?_ hHeld ?_
              rotate_left 1
              · intro w hSw; (try dsimp only at hSw); go_simp
                try simp only [HWM.out, hm0, hm1, and_self, if_true, Int.toNat_natCast]
                try with_reducible rfl
              simp only [Act.put, aq0, aq1, aq2]
              refine wpAnyH_done (by kernel_rfl) ?_ _
              refine NoPanic.normal ?_
              go_wp2
              go_ret
              exact ⟨ret_bool HX.out.symm, SW.drew⟩
            | true =>
              have HWI := Lib.hid hwi; clear hwi
              cases han : xs[m + 1].dims.any dimBad with
              | true =>
                have HX := Lib.hid (arrsOk_no (HD.out.trans (by rw [HO2.out, HDI.out, HWI.out, han, Bool.not_true, Bool.and_false, Bool.false_and])))
                have HAN := Lib.hid han; clear han
                go_wp2_with fail
                rw [← HW.out]
                refine wp_region_noPanic ?_
                refine wp_region_held_drew (S := fun w' => Box2 w' wr.heap.size (.string xs[m + 1].name) (.slice A2e xs[m + 1].dims.length c2e) ∧ w'.cell? ⟨be, oe + m * 2, none⟩ = some (.string xs[m].name)) (by kernel_rfl) (⟨PW, F0⟩) (fun hHeld => ?_)
                refine takeR (i := 0) (v := ?_) rfl rfl (by kernel_rfl) (by kernel_rfl) (by kernel_rfl) (fun _ _ _ h => h) ?_ hHeld ?_
                rotate_left 1
                · intro w hSw; (try dsimp only at hSw); go_simp
                  try simp only [HWM.out, hm0, hm1, and_self, if_true, Int.toNat_natCast]
                  try with_reducible rfl
                simp only [Act.put, aq0, aq1, aq2]
                refine takeR (i := 1) (v := ?_) rfl rfl (by kernel_rfl) (by kernel_rfl) (by kernel_rfl) (fun _ _ _ h => h) ?_ hHeld ?_
                rotate_left 1
                · intro w hSw; (try dsimp only at hSw); go_simp
                  try simp only [HWM.out, hm0, hm1, and_self, if_true, Int.toNat_natCast]
                  try with_reducible rfl
                simp only [Act.put, aq0, aq1, aq2]
                refine stepR (i := 2) rfl (by kernel_rfl) (wanted_none rfl) (fun K hK => ?_)
                go_simp
                (refine (isArray_c _ Q1e.out _).mono ?_; rintro e w' ⟨he, rfl⟩; rw [HV.out] at he; subst he)
                go_wp2_with fail
                refine hK.out _ _ (⟨PW, F0⟩) (fun hHeld => ?_)
                clear hK K
                try simp only [Act.put, aq0, aq1, aq2]
                refine takeR (i := 3) (v := ?_) rfl rfl (by kernel_rfl) (by kernel_rfl) (by kernel_rfl) (fun _ _ _ h => h) ?_ hHeld ?_
                rotate_left 1
                · intro w hSw; (try dsimp only at hSw); go_simp
                  try simp only [HWM.out, hm0, hm1, and_self, if_true, Int.toNat_natCast]
                  try with_reducible rfl
                simp only [Act.put, aq0, aq1, aq2]
                refine takeR (i := 4) (v := ?_) rfl rfl (by kernel_rfl) (by kernel_rfl) (by kernel_rfl) (fun _ _ _ h => h) ?_ hHeld ?_
                rotate_left 1
                · intro w hSw; (try dsimp only at hSw); go_simp
                  try simp only [HWM.out, hm0, hm1, and_self, if_true, Int.toNat_natCast]
                  try with_reducible rfl
                simp only [Act.put, aq0, aq1, aq2]
                refine takeG (i := 5) (v := ?_) rfl (by kernel_rfl) (by kernel_rfl) (by kernel_rfl) (by kernel_rfl) (fun _ _ _ h => h) ?_ hHeld ?_
                rotate_left 1
                · intro w hSw; (try dsimp only at hSw); go_simp
                  try simp only [HWM.out, hm0, hm1, and_self, if_true, Int.toNat_natCast]
                  try with_reducible rfl
                simp only [Act.put, aq0, aq1, aq2]
                refine takeG (i := 6) (v := ?_) rfl (by kernel_rfl) (by kernel_rfl) (by kernel_rfl) (by kernel_rfl) (fun _ _ _ h => h) ?_ hHeld ?_
                rotate_left 1
                · intro w hSw; (try dsimp only at hSw); go_simp
                  try simp only [HWM.out, hm0, hm1, and_self, if_true, Int.toNat_natCast]
                  try with_reducible rfl
                simp only [Act.put, aq0, aq1, aq2]
                refine takeG (i := 7) (v := ?_) rfl (by kernel_rfl) (by kernel_rfl) (by kernel_rfl) (by kernel_rfl) (fun _ _ _ h => h) ?_ hHeld ?_
                rotate_left 1
                · intro w hSw; (try dsimp only at hSw); go_simp
                  try simp only [HWM.out, hm0, hm1, and_self, if_true, Int.toNat_natCast]
                  try with_reducible rfl
                simp only [Act.put, aq0, aq1, aq2]
                refine takeG (i := 8) (v := ?_) rfl (by kernel_rfl) (by kernel_rfl) (by kernel_rfl) (by kernel_rfl) (fun _ _ _ h => h) ?_ hHeld ?_
                rotate_left 1
                · intro w hSw; (try dsimp only at hSw); go_simp
                  try simp only [HWM.out, hm0, hm1, and_self, if_true, Int.toNat_natCast]
                  try with_reducible rfl
                simp only [Act.put, aq0, aq1, aq2]
                refine takeG (i := 9) (v := ?_) rfl (by kernel_rfl) (by kernel_rfl) (by kernel_rfl) (by kernel_rfl) (fun _ _ _ h => h) ?_ hHeld ?_
                rotate_left 1
                · intro w hSw; (try dsimp only at hSw); go_simp
                  try simp only [HWM.out, hm0, hm1, and_self, if_true, Int.toNat_natCast]
                  try with_reducible rfl
                simp only [Act.put, aq0, aq1, aq2]
                refine takeG (i := 10) (v := ?_) rfl (by kernel_rfl) (by kernel_rfl) (by kernel_rfl) (by kernel_rfl) (fun _ _ _ h => h) ?_ hHeld ?_
                rotate_left 1
                · intro w hSw; (try dsimp only at hSw); go_simp
                  try simp only [HWM.out, hm0, hm1, and_self, if_true, Int.toNat_natCast]
                  try with_reducible rfl
                simp only [Act.put, aq0, aq1, aq2]
                refine takeG (i := 11) (v := ?_) rfl (by kernel_rfl) (by kernel_rfl) (by kernel_rfl) (by kernel_rfl) (fun _ _ _ h => h) ?_ hHeld ?_
                rotate_left 1
                · intro w hSw; (try dsimp only at hSw); go_simp
                  try simp only [HWM.out, hm0, hm1, and_self, if_true, Int.toNat_natCast]
                  try with_reducible rfl
                simp only [Act.put, aq0, aq1, aq2]
                refine takeG (i := 12) (v := ?_) rfl (by kernel_rfl) (by kernel_rfl) (by kernel_rfl) (by kernel_rfl) (fun _ _ _ h => h) ?_ hHeld ?_
                rotate_left 1
                · intro w hSw; (try dsimp only at hSw); go_simp
                  try simp only [HWM.out, hm0, hm1, and_self, if_true, Int.toNat_natCast]
                  try with_reducible rfl
                simp only [Act.put, aq0, aq1, aq2]
                refine takeG (i := 13) (v := ?_) rfl (by kernel_rfl) (by kernel_rfl) (by kernel_rfl) (by kernel_rfl) (fun _ _ _ h => h) ?_ hHeld ?_
                rotate_left 1
                · intro w hSw; (try dsimp only at hSw); go_simp
                  try simp only [HWM.out, hm0, hm1, and_self, if_true, Int.toNat_natCast]
                  try with_reducible rfl
                simp only [Act.put, aq0, aq1, aq2]
                refine takeG (i := 14) (v := ?_) rfl (by kernel_rfl) (by kernel_rfl) (by kernel_rfl) (by kernel_rfl) (fun _ _ _ h => h) ?_ hHeld ?_
                rotate_left 1
                · intro w hSw; (try dsimp only at hSw); go_simp
                  try simp only [HWM.out, hm0, hm1, and_self, if_true, Int.toNat_natCast]
                  try with_reducible rfl
                simp only [Act.put, aq0, aq1, aq2]
                refine takeG (i := 15) (v := ?_) rfl (by kernel_rfl) (by kernel_rfl) (by kernel_rfl) (by kernel_rfl) (fun _ _ _ h => h) ?_ hHeld ?_
                rotate_left 1
                · intro w hSw; (try dsimp only at hSw); go_simp
                  try simp only [HWM.out, hm0, hm1, and_self, if_true, Int.toNat_natCast]
                  try with_reducible rfl
                simp only [Act.put, aq0, aq1, aq2]
                refine takeG (i := 16) (v := ?_) rfl (by kernel_rfl) (by kernel_rfl) (by kernel_rfl) (by kernel_rfl) (fun _ _ _ h => h) ?_ hHeld ?_
                rotate_left 1
                · intro w hSw; (try dsimp only at hSw); go_simp
                  try simp only [HWM.out, hm0, hm1, and_self, if_true, Int.toNat_natCast]
                  try with_reducible rfl
                simp only [Act.put, aq0, aq1, aq2]
                refine takeG (i := 17) (v := ?_) rfl (by kernel_rfl) (by kernel_rfl) (by kernel_rfl) (by kernel_rfl) (fun _ _ _ h => h) ?_ hHeld ?_
                rotate_left 1
                · intro w hSw; (try dsimp only at hSw); go_simp
                  try simp only [HWM.out, hm0, hm1, and_self, if_true, Int.toNat_natCast]
                  try with_reducible rfl
                simp only [Act.put, aq0, aq1, aq2]
                refine takeR (i := 18) (v := ?_) rfl rfl (by kernel_rfl) (by kernel_rfl) (by kernel_rfl) (fun _ _ _ h => h) ?_ hHeld ?_
                rotate_left 1
                · intro w hSw; (try dsimp only at hSw); go_simp
                  try simp only [HWM.out, hm0, hm1, and_self, if_true, Int.toNat_natCast]
                  try with_reducible rfl
                simp only [Act.put, aq0, aq1, aq2]
                refine takeR (i := 19) (v := ?_) rfl rfl (by kernel_rfl) (by kernel_rfl) (by kernel_rfl) (fun _ _ _ h => h) ?_ hHeld ?_
                rotate_left 1
                · intro w hSw; (try dsimp only at hSw); go_simp
                  try simp only [HWM.out, hm0, hm1, and_self, if_true, Int.toNat_natCast]
                  try with_reducible rfl
                simp only [Act.put, aq0, aq1, aq2]
                refine takeG (i := 20) (v := ?_) rfl (by kernel_rfl) (by kernel_rfl) (by kernel_rfl) (by kernel_rfl) (fun _ _ _ h => h) ?_ hHeld ?_
                rotate_left 1
                · intro w hSw; (try dsimp only at hSw); go_simp
                  try simp only [HWM.out, hm0, hm1, and_self, if_true, Int.toNat_natCast]
                  try with_reducible rfl
                simp only [Act.put, aq0, aq1, aq2]
                refine takeG (i := 21) (v := ?_) rfl (by kernel_rfl) (by kernel_rfl) (by kernel_rfl) (by kernel_rfl) (fun _ _ _ h => h) ?_ hHeld ?_
                rotate_left 1
                · intro w hSw; (try dsimp only at hSw); go_simp
                  try simp only [HWM.out, hm0, hm1, and_self, if_true, Int.toNat_natCast]
                  try with_reducible rfl
                simp only [Act.put, aq0, aq1, aq2]
                refine takeG (i := 22) (v := ?_) rfl (by kernel_rfl) (by kernel_rfl) (by kernel_rfl) (by kernel_rfl) (fun _ _ _ h => h) ?_ hHeld ?_
                rotate_left 1
                · intro w hSw; (try dsimp only at hSw); go_simp
                  try simp only [HWM.out, hm0, hm1, and_self, if_true, Int.toNat_natCast]
                  try with_reducible rfl
                simp only [Act.put, aq0, aq1, aq2]
                refine stepR (i := 23) rfl (by kernel_rfl) (by kernel_rfl) (fun K hK => ?_)
                go_simp
                (refine (within_c _ _ _ _).mono ?_; rintro e w' ⟨he, rfl⟩; rw [HWI.out] at he; subst he)
                go_wp2_with fail
                refine hK.out _ _ (⟨PW, F0⟩) (fun hHeld => ?_)
                clear hK K
                try simp only [Act.put, aq0, aq1, aq2]
                refine takeG (i := 24) (v := ?_) rfl (by kernel_rfl) (by kernel_rfl) (by kernel_rfl) (by kernel_rfl) (fun _ _ _ h => h) ?_ hHeld ?_
                rotate_left 1
                · intro w hSw; (try dsimp only at hSw); go_simp
                  try simp only [HWM.out, hm0, hm1, and_self, if_true, Int.toNat_natCast]
                  try with_reducible rfl
                simp only [Act.put, aq0, aq1, aq2]
                refine takeR (i := 25) (v := ?_) rfl rfl (by kernel_rfl) (by kernel_rfl) (by kernel_rfl) (fun _ _ _ h => h) ?_ hHeld ?_
                rotate_left 1
                · intro w hSw; (try dsimp only at hSw); go_simp
                  try simp only [HWM.out, hm0, hm1, and_self, if_true, Int.toNat_natCast]
                  try with_reducible rfl
                simp only [Act.put, aq0, aq1, aq2]
                refine takeR (i := 26) (v := ?_) rfl rfl (by kernel_rfl) (by kernel_rfl) (by kernel_rfl) (fun _ _ _ h => h) ?_ hHeld ?_
                rotate_left 1
                · intro w hSw; (try dsimp only at hSw); go_simp
                  try simp only [HWM.out, hm0, hm1, and_self, if_true, Int.toNat_natCast]
                  try with_reducible rfl
                simp only [Act.put, aq0, aq1, aq2]
                refine takeG (i := 27) (v := ?_) rfl (by kernel_rfl) (by kernel_rfl) (by kernel_rfl) (by kernel_rfl) (fun _ _ _ h => h) ?_ hHeld ?_
                rotate_left 1
                · intro w hSw; (try dsimp only at hSw); go_simp
                  try simp only [HWM.out, hm0, hm1, and_self, if_true, Int.toNat_natCast]
                  try with_reducible rfl
                simp only [Act.put, aq0, aq1, aq2]
                refine takeG (i := 28) (v := ?_) rfl (by kernel_rfl) (by kernel_rfl) (by kernel_rfl) (by kernel_rfl) (fun _ _ _ h => h) ?_ hHeld ?_
                rotate_left 1
                · intro w hSw; (try dsimp only at hSw); go_simp
                  try simp only [HWM.out, hm0, hm1, and_self, if_true, Int.toNat_natCast]
                  try with_reducible rfl
                simp only [Act.put, aq0, aq1, aq2]
                refine stepR (i := 29) rfl (by kernel_rfl) (by kernel_rfl) (fun K hK => ?_)
                go_simp
                (refine (ContainsFunc_int_c (p := dimBad) (Q2w.out.drewN 1) arraysOk1_e (fun x W _ => arraysOk1_c x W)).mono ?_; rintro e w' ⟨he, rfl⟩; rw [HAN.out] at he; subst he)
                go_wp2_with fail
                refine hK.out _ _ (⟨PW, F0⟩) (fun hHeld => ?_)
                clear hK K
                try simp only [Act.put, aq0, aq1, aq2]
                refine takeR (i := 30) (v := ?_) rfl rfl (by kernel_rfl) (by kernel_rfl) (by kernel_rfl) (fun _ _ _ h => h) ?_ hHeld ?_
                rotate_left 1
                · intro w hSw; (try dsimp only at hSw); go_simp
                  try simp only [HWM.out, hm0, hm1, and_self, if_true, Int.toNat_natCast]
                  try with_reducible rfl
                simp only [Act.put, aq0, aq1, aq2]
                refine wpAnyH_done (by kernel_rfl) ?_ _
                refine NoPanic.normal ?_
                go_wp2
                go_ret
                exact ⟨ret_bool HX.out.symm, SW.drew⟩
              | false =>
                have HX := Lib.hid (HD.out.trans (by rw [HO2.out, HDI.out, HWI.out, han, Bool.not_false, Bool.true_and, Bool.true_and]))
                have HAN := Lib.hid han; clear han
                go_wp2_with fail
                rw [← HW.out]
                refine wp_region_noPanic ?_
                refine wp_region_held_drew (S := fun w' => Box2 w' wr.heap.size (.string xs[m + 1].name) (.slice A2e xs[m + 1].dims.length c2e) ∧ w'.cell? ⟨be, oe + m * 2, none⟩ = some (.string xs[m].name)) (by kernel_rfl) (⟨PW, F0⟩) (fun hHeld => ?_)
                refine takeR (i := 0) (v := ?_) rfl rfl (by kernel_rfl) (by kernel_rfl) (by kernel_rfl) (fun _ _ _ h => h) ?_ hHeld ?_
                rotate_left 1
                · intro w hSw; (try dsimp only at hSw); go_simp
                  try simp only [HWM.out, hm0, hm1, and_self, if_true, Int.toNat_natCast]
                  try with_reducible rfl
                simp only [Act.put, aq0, aq1, aq2]
                refine takeR (i := 1) (v := ?_) rfl rfl (by kernel_rfl) (by kernel_rfl) (by kernel_rfl) (fun _ _ _ h => h) ?_ hHeld ?_
                rotate_left 1
                · intro w hSw; (try dsimp only at hSw); go_simp
                  try simp only [HWM.out, hm0, hm1, and_self, if_true, Int.toNat_natCast]
                  try with_reducible rfl
                simp only [Act.put, aq0, aq1, aq2]
                refine stepR (i := 2) rfl (by kernel_rfl) (wanted_none rfl) (fun K hK => ?_)
                go_simp
                (refine (isArray_c _ Q1e.out _).mono ?_; rintro e w' ⟨he, rfl⟩; rw [HV.out] at he; subst he)
                go_wp2_with fail
                refine hK.out _ _ (⟨PW, F0⟩) (fun hHeld => ?_)
                clear hK K
                try simp only [Act.put, aq0, aq1, aq2]
                refine takeR (i := 3) (v := ?_) rfl rfl (by kernel_rfl) (by kernel_rfl) (by kernel_rfl) (fun _ _ _ h => h) ?_ hHeld ?_
                rotate_left 1
                · intro w hSw; (try dsimp only at hSw); go_simp
                  try simp only [HWM.out, hm0, hm1, and_self, if_true, Int.toNat_natCast]
                  try with_reducible rfl
                simp only [Act.put, aq0, aq1, aq2]
                refine takeR (i := 4) (v := ?_) rfl rfl (by kernel_rfl) (by kernel_rfl) (by kernel_rfl) (fun _ _ _ h => h) ?_ hHeld ?_
                rotate_left 1
                · intro w hSw; (try dsimp only at hSw); go_simp
                  try simp only [HWM.out, hm0, hm1, and_self, if_true, Int.toNat_natCast]
                  try with_reducible rfl
                simp only [Act.put, aq0, aq1, aq2]
                refine takeG (i := 5) (v := ?_) rfl (by kernel_rfl) (by kernel_rfl) (by kernel_rfl) (by kernel_rfl) (fun _ _ _ h => h) ?_ hHeld ?_
                rotate_left 1
                · intro w hSw; (try dsimp only at hSw); go_simp
                  try simp only [HWM.out, hm0, hm1, and_self, if_true, Int.toNat_natCast]
                  try with_reducible rfl
                simp only [Act.put, aq0, aq1, aq2]
                refine takeG (i := 6) (v := ?_) rfl (by kernel_rfl) (by kernel_rfl) (by kernel_rfl) (by kernel_rfl) (fun _ _ _ h => h) ?_ hHeld ?_
                rotate_left 1
                · intro w hSw; (try dsimp only at hSw); go_simp
                  try simp only [HWM.out, hm0, hm1, and_self, if_true, Int.toNat_natCast]
                  try with_reducible rfl
                simp only [Act.put, aq0, aq1, aq2]
                refine takeG (i := 7) (v := ?_) rfl (by kernel_rfl) (by kernel_rfl) (by kernel_rfl) (by kernel_rfl) (fun _ _ _ h => h) ?_ hHeld ?_
                rotate_left 1
                · intro w hSw; (try dsimp only at hSw); go_simp
                  try simp only [HWM.out, hm0, hm1, and_self, if_true, Int.toNat_natCast]
                  try with_reducible rfl
                simp only [Act.put, aq0, aq1, aq2]
                refine takeG (i := 8) (v := ?_) rfl (by kernel_rfl) (by kernel_rfl) (by kernel_rfl) (by kernel_rfl) (fun _ _ _ h => h) ?_ hHeld ?_
                rotate_left 1
                · intro w hSw; (try dsimp only at hSw); go_simp
                  try simp only [HWM.out, hm0, hm1, and_self, if_true, Int.toNat_natCast]
                  try with_reducible rfl
                simp only [Act.put, aq0, aq1, aq2]
                refine takeG (i := 9) (v := ?_) rfl (by kernel_rfl) (by kernel_rfl) (by kernel_rfl) (by kernel_rfl) (fun _ _ _ h => h) ?_ hHeld ?_
                rotate_left 1
                · intro w hSw; (try dsimp only at hSw); go_simp
                  try simp only [HWM.out, hm0, hm1, and_self, if_true, Int.toNat_natCast]
                  try with_reducible rfl
                simp only [Act.put, aq0, aq1, aq2]
                refine takeG (i := 10) (v := ?_) rfl (by kernel_rfl) (by kernel_rfl) (by kernel_rfl) (by kernel_rfl) (fun _ _ _ h => h) ?_ hHeld ?_
                rotate_left 1
                · intro w hSw; (try dsimp only at hSw); go_simp
                  try simp only [HWM.out, hm0, hm1, and_self, if_true, Int.toNat_natCast]
                  try with_reducible rfl
                simp only [Act.put, aq0, aq1, aq2]
                refine takeG (i := 11) (v := ?_) rfl (by kernel_rfl) (by kernel_rfl) (by kernel_rfl) (by kernel_rfl) (fun _ _ _ h => h) ?_ hHeld ?_
                rotate_left 1
                · intro w hSw; (try dsimp only at hSw); go_simp
                  try simp only [HWM.out, hm0, hm1, and_self, if_true, Int.toNat_natCast]
                  try with_reducible rfl
                simp only [Act.put, aq0, aq1, aq2]
                refine takeG (i := 12) (v := ?_) rfl (by kernel_rfl) (by kernel_rfl) (by kernel_rfl) (by kernel_rfl) (fun _ _ _ h => h) ?_ hHeld ?_
                rotate_left 1
                · intro w hSw; (try dsimp only at hSw); go_simp
                  try simp only [HWM.out, hm0, hm1, and_self, if_true, Int.toNat_natCast]
                  try with_reducible rfl
                simp only [Act.put, aq0, aq1, aq2]
                refine takeG (i := 13) (v := ?_) rfl (by kernel_rfl) (by kernel_rfl) (by kernel_rfl) (by kernel_rfl) (fun _ _ _ h => h) ?_ hHeld ?_
                rotate_left 1
                · intro w hSw; (try dsimp only at hSw); go_simp
                  try simp only [HWM.out, hm0, hm1, and_self, if_true, Int.toNat_natCast]
                  try with_reducible rfl
                simp only [Act.put, aq0, aq1, aq2]
                refine takeG (i := 14) (v := ?_) rfl (by kernel_rfl) (by kernel_rfl) (by kernel_rfl) (by kernel_rfl) (fun _ _ _ h => h) ?_ hHeld ?_
                rotate_left 1
                · intro w hSw; (try dsimp only at hSw); go_simp
                  try simp only [HWM.out, hm0, hm1, and_self, if_true, Int.toNat_natCast]
                  try with_reducible rfl
                simp only [Act.put, aq0, aq1, aq2]
                refine takeG (i := 15) (v := ?_) rfl (by kernel_rfl) (by kernel_rfl) (by kernel_rfl) (by kernel_rfl) (fun _ _ _ h => h) ?_ hHeld ?_
                rotate_left 1
                · intro w hSw; (try dsimp only at hSw); go_simp
                  try simp only [HWM.out, hm0, hm1, and_self, if_true, Int.toNat_natCast]
                  try with_reducible rfl
                simp only [Act.put, aq0, aq1, aq2]
                refine takeG (i := 16) (v := ?_) rfl (by kernel_rfl) (by kernel_rfl) (by kernel_rfl) (by kernel_rfl) (fun _ _ _ h => h) ?_ hHeld ?_
                rotate_left 1
                · intro w hSw; (try dsimp only at hSw); go_simp
                  try simp only [HWM.out, hm0, hm1, and_self, if_true, Int.toNat_natCast]
                  try with_reducible rfl
                simp only [Act.put, aq0, aq1, aq2]
                refine takeG (i := 17) (v := ?_) rfl (by kernel_rfl) (by kernel_rfl) (by kernel_rfl) (by kernel_rfl) (fun _ _ _ h => h) ?_ hHeld ?_
                rotate_left 1
                · intro w hSw; (try dsimp only at hSw); go_simp
                  try simp only [HWM.out, hm0, hm1, and_self, if_true, Int.toNat_natCast]
                  try with_reducible rfl
                simp only [Act.put, aq0, aq1, aq2]
                refine takeR (i := 18) (v := ?_) rfl rfl (by kernel_rfl) (by kernel_rfl) (by kernel_rfl) (fun _ _ _ h => h) ?_ hHeld ?_
                rotate_left 1
                · intro w hSw; (try dsimp only at hSw); go_simp
                  try simp only [HWM.out, hm0, hm1, and_self, if_true, Int.toNat_natCast]
                  try with_reducible rfl
                simp only [Act.put, aq0, aq1, aq2]
                refine takeR (i := 19) (v := ?_) rfl rfl (by kernel_rfl) (by kernel_rfl) (by kernel_rfl) (fun _ _ _ h => h) ?_ hHeld ?_
                rotate_left 1
                · intro w hSw; (try dsimp only at hSw); go_simp
                  try simp only [HWM.out, hm0, hm1, and_self, if_true, Int.toNat_natCast]
                  try with_reducible rfl
                simp only [Act.put, aq0, aq1, aq2]
                refine takeG (i := 20) (v := ?_) rfl (by kernel_rfl) (by kernel_rfl) (by kernel_rfl) (by kernel_rfl) (fun _ _ _ h => h) ?_ hHeld ?_
                rotate_left 1
                · intro w hSw; (try dsimp only at hSw); go_simp
                  try simp only [HWM.out, hm0, hm1, and_self, if_true, Int.toNat_natCast]
                  try with_reducible rfl
                simp only [Act.put, aq0, aq1, aq2]
                refine takeG (i := 21) (v := ?_) rfl (by kernel_rfl) (by kernel_rfl) (by kernel_rfl) (by kernel_rfl) (fun _ _ _ h => h) ?_ hHeld ?_
                rotate_left 1
                · intro w hSw; (try dsimp only at hSw); go_simp
                  try simp only [HWM.out, hm0, hm1, and_self, if_true, Int.toNat_natCast]
                  try with_reducible rfl
                simp only [Act.put, aq0, aq1, aq2]
                refine takeG (i := 22) (v := ?_) rfl (by kernel_rfl) (by kernel_rfl) (by kernel_rfl) (by kernel_rfl) (fun _ _ _ h => h) ?_ hHeld ?_
                rotate_left 1
                · intro w hSw; (try dsimp only at hSw); go_simp
                  try simp only [HWM.out, hm0, hm1, and_self, if_true, Int.toNat_natCast]
                  try with_reducible rfl
                simp only [Act.put, aq0, aq1, aq2]
                refine stepR (i := 23) rfl (by kernel_rfl) (by kernel_rfl) (fun K hK => ?_)
                go_simp
                (refine (within_c _ _ _ _).mono ?_; rintro e w' ⟨he, rfl⟩; rw [HWI.out] at he; subst he)
                go_wp2_with fail
                refine hK.out _ _ (⟨PW, F0⟩) (fun hHeld => ?_)
                clear hK K
                try simp only [Act.put, aq0, aq1, aq2]
                refine takeG (i := 24) (v := ?_) rfl (by kernel_rfl) (by kernel_rfl) (by kernel_rfl) (by kernel_rfl) (fun _ _ _ h => h) ?_ hHeld ?_
                rotate_left 1
                · intro w hSw; (try dsimp only at hSw); go_simp
                  try simp only [HWM.out, hm0, hm1, and_self, if_true, Int.toNat_natCast]
                  try with_reducible rfl
                simp only [Act.put, aq0, aq1, aq2]
                refine takeR (i := 25) (v := ?_) rfl rfl (by kernel_rfl) (by kernel_rfl) (by kernel_rfl) (fun _ _ _ h => h) ?_ hHeld ?_
                rotate_left 1
                · intro w hSw; (try dsimp only at hSw); go_simp
                  try simp only [HWM.out, hm0, hm1, and_self, if_true, Int.toNat_natCast]
                  try with_reducible rfl
                simp only [Act.put, aq0, aq1, aq2]
                refine takeR (i := 26) (v := ?_) rfl rfl (by kernel_rfl) (by kernel_rfl) (by kernel_rfl) (fun _ _ _ h => h) ?_ hHeld ?_
                rotate_left 1
                · intro w hSw; (try dsimp only at hSw); go_simp
                  try simp only [HWM.out, hm0, hm1, and_self, if_true, Int.toNat_natCast]
                  try with_reducible rfl
                simp only [Act.put, aq0, aq1, aq2]
                refine takeG (i := 27) (v := ?_) rfl (by kernel_rfl) (by kernel_rfl) (by kernel_rfl) (by kernel_rfl) (fun _ _ _ h => h) ?_ hHeld ?_
                rotate_left 1
                · intro w hSw; (try dsimp only at hSw); go_simp
                  try simp only [HWM.out, hm0, hm1, and_self, if_true, Int.toNat_natCast]
                  try with_reducible rfl
                simp only [Act.put, aq0, aq1, aq2]
                refine takeG (i := 28) (v := ?_) rfl (by kernel_rfl) (by kernel_rfl) (by kernel_rfl) (by kernel_rfl) (fun _ _ _ h => h) ?_ hHeld ?_
                rotate_left 1
                · intro w hSw; (try dsimp only at hSw); go_simp
                  try simp only [HWM.out, hm0, hm1, and_self, if_true, Int.toNat_natCast]
                  try with_reducible rfl
                simp only [Act.put, aq0, aq1, aq2]
                refine stepR (i := 29) rfl (by kernel_rfl) (by kernel_rfl) (fun K hK => ?_)
                go_simp
                (refine (ContainsFunc_int_c (p := dimBad) (Q2w.out.drewN 1) arraysOk1_e (fun x W _ => arraysOk1_c x W)).mono ?_; rintro e w' ⟨he, rfl⟩; rw [HAN.out] at he; subst he)
                go_wp2_with fail
                refine hK.out _ _ (⟨PW, F0⟩) (fun hHeld => ?_)
                clear hK K
                try simp only [Act.put, aq0, aq1, aq2]
                refine takeR (i := 30) (v := ?_) rfl rfl (by kernel_rfl) (by kernel_rfl) (by kernel_rfl) (fun _ _ _ h => h) ?_ hHeld ?_
                rotate_left 1
                · intro w hSw; (try dsimp only at hSw); go_simp
                  try simp only [HWM.out, hm0, hm1, and_self, if_true, Int.toNat_natCast]
                  try with_reducible rfl
                simp only [Act.put, aq0, aq1, aq2]
                refine wpAnyH_done (by kernel_rfl) ?_ _
                refine NoPanic.normal ?_
                go_wp2
                go_roundw
                case rel => exact ⟨m + 1 + 1, by omega, by go_num, HX.out, SW.drew⟩
                case measure => simp [intOf]; omega
    · have hjj : j = xs.length := by omega
      subst hjj
      have HX := Lib.hid (show arrsOk xs = decide (xs.length ≤ 4) by rw [arrsOk, HI.out, allN_end, Bool.true_and])
      go_wp2
      go_ret
      exact ⟨ret_bool (by rw [HX.out] <;> first | rfl | (rw [decide_eq_decide]; omega)), hb⟩
end
end Go.Proofs.YtbhniobgaoncaaaGreatDoor
