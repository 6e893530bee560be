/- Dead instances, on both sides. -/
import Derived.Test.YtimocdpfnncnlaaGreatFlowF
import Derived.Test.YtimocdpfnncnlaaGreatDeps1
import Derived.Test.YtimocdpfnncnlaaGreatFlag
set_option linter.all false
set_option linter.unusedSimpArgs false
set_option linter.unusedVariables false
namespace Go.Proofs.YtimocdpfnncnlaaGreat
open Go.ChangeShapes Go.WideShapes Go.ChangeAt Go.RowKit Go.Deep

theorem deadF_0 (us : List Us) (c : Int) : deadF us c (us.length - us.length) us.length = false := by rw [Nat.sub_self]; rfl
theorem deadF_h {us : List Us} {c : Int} {k : Nat} (h : k < us.length) (h1 : (nthU us k).reads.contains c = true) : deadF us c (us.length - k) k = false := by rw [deadF_step h, if_pos h1]
theorem deadF_w {us : List Us} {c : Int} {k : Nat} (h : k < us.length) (h1 : (nthU us k).reads.contains c = false) (h2 : (nthU us k).write = c) : deadF us c (us.length - k) k = true := by
  rw [deadF_step h, h1, if_neg (by simp), if_pos h2]
theorem deadF_n {us : List Us} {c : Int} {k : Nat} (h : k < us.length) (h1 : (nthU us k).reads.contains c = false) (h2 : ¬ (nthU us k).write = c) : deadF us c (us.length - k) k = deadF us c (us.length - (k + 1)) (k + 1) := by
  rw [deadF_step h, h1, if_neg (by simp), if_neg h2]
theorem DeadF_n {p : Pgm} (h : progOk p = false) : DeadF p = [] := by unfold DeadF; rw [h]; rfl
theorem DeadF_y {p : Pgm} (h : progOk p = true) : DeadF p = chF (deadI (usesF p)) (usesF p).length := by unfold DeadF; rw [h]; rfl
theorem DeadF_len (p : Pgm) : (DeadF p).length ≤ 1000000 := by
  cases h : progOk p with
  | false => rw [DeadF_n h]; simp
  | true =>
    rw [DeadF_y h]
    have h1 := chF_len (deadI (usesF p)) (usesF p).length
    have h2 : (usesF p).length ≤ 120 := by rw [usesF_len]; exact (progOk_all h).2.2
    omega

set_option maxRecDepth 100000 in
set_option maxHeartbeats 4000000 in
theorem l6Dead_c {w : World} {us : List Us} {A : Option Addr} {n c t : Nat} {bs : List Nat} (h : Rep w (sls Us.d us) [.slice A n c] bs) (ht : t < us.length) (hu : us.length ≤ 120) :
    Calls Tryz.prog 41 #[.slice A n c, .int .i64 (t : Int)] w fun e w' => e = .returned (.bool (deadI us t)) ∧ Below w.heap.size w w' := by
  obtain ⟨rfl, _, _⟩ := h.sls_len
  have H := Lib.hid h; clear h
  obtain ⟨b4, o4, cs4, l4, rfl, hl4, h4, _, _, hc4⟩ := H.out.sls_at Us.d_size (k := t) ht
  rw [← nthU_eq ht] at h4
  obtain ⟨A6, c6, d6, rfl, rfl, _⟩ := Rep.us_iff.1 h4
  have kt := (hc4 1 _ rfl).1
  clear hc4 h4
  have HDI := Lib.hid (show deadI us t = deadF us (nthU us t).write (us.length - (t + 1)) (t + 1) from rfl)
  obtain ⟨x, hx⟩ : ∃ x, x = (nthU us t).write := ⟨_, rfl⟩
  rw [← hx] at kt HDI
  clear hx
  go_enter Tryz.func41, Tryz.ntmps41
  go_wp2
  go_loopw [5] (fun i wr => ∃ k : Nat, t + 1 ≤ k ∧ k ≤ us.length ∧ i = .int .i64 k ∧ deadI us t = deadF us x (us.length - k) k ∧ Below w.heap.size w wr) (fun i _ => us.length - (intOf i).toNat)
  case atStart => exact ⟨t + 1, Nat.le_refl _, ht, by go_num, HDI.out, Below.refl _ _⟩
  case round =>
    obtain ⟨k, htk, hk, rfl, hd, hb⟩ := hrel
    have HD := Lib.hid hd; clear hd
    by_cases hlt : k < us.length
    case neg =>
      have hjj : k = us.length := by omega
      subst hjj
      have HX := Lib.hid (HD.out.trans (deadF_0 _ _))
      go_wp2
      go_ret
      exact ⟨ret_bool HX.out.symm, hb⟩
    obtain ⟨b5, o5, cs5, l5, he, hl5, h5, _, _, hc5⟩ := H.out.sls_at Us.d_size (k := k) hlt
    obtain ⟨rfl, rfl⟩ : b4 = b5 ∧ o4 = o5 := by simpa using he
    rw [← nthU_eq hlt] at h5
    obtain ⟨A7, c7, d7, rfl, rfl, r7, _⟩ := Rep.us_iff.1 h5
    have k0 := cell_to (hc5 0 _ rfl).1 hb
    rw [Nat.add_zero] at k0
    have k1 := cell_to (hc5 1 _ rfl).1 hb
    have ktr := cell_to kt hb
    have R7 := Lib.hid (r7.below hb)
    clear hc5 h5 he r7
    cases hc : (nthU us k).reads.contains x with
    | true =>
      have HX := Lib.hid (HD.out.trans (deadF_h hlt hc))
      have HC := Lib.hid hc; clear hc
      go_wp2_with fail
      refine wp_region_noPanic ?_
      refine wp_region_held_drew (S := fun w' => w'.cell? ⟨b4, o4 + k * 2, none⟩ = some (.slice A7 (nthU us k).reads.length c7) ∧ w'.cell? ⟨b4, o4 + t * 2 + 1, none⟩ = some (.int .i64 x)) (by kernel_rfl) (⟨k0, ktr⟩) (fun hHeld => ?_)
      refine goR 0 hHeld ?_
      refine goR 1 hHeld ?_
      refine goR 2 hHeld ?_
      refine goR 3 hHeld ?_
      refine goR 4 hHeld ?_
      refine goR 5 hHeld ?_
      refine goR 6 hHeld ?_
      refine goR 7 hHeld ?_
      refine goR 8 hHeld ?_
      refine goR 9 hHeld ?_
      refine stepR (i := 10) rfl (by kernel_rfl) (wanted_none rfl) (fun K hK => ?_)
      go_simp
      (refine (l6Has_c (R7.out.drewN 1)).mono ?_; rintro e w' ⟨rfl, rfl⟩; rw [HC.out])
      go_wp2_with fail
      refine hK.out _ _ (hHeld) (fun hHeld => ?_)
      clear hK K
      try simp only [Act.put, List.setIfInBounds_toArray, List.set_cons_zero, List.set_cons_succ]
      refine wpAnyH_done (by kernel_rfl) ?_ _
      refine NoPanic.normal ?_
      go_wp2
      go_ret
      exact ⟨ret_bool HX.out.symm, bel⟩
    | false =>
      by_cases hw : (nthU us k).write = x
      case pos =>
        have HX := Lib.hid (HD.out.trans (deadF_w hlt hc hw))
        have q : ((nthU us k).write == x) = true := ieq_t hw
        have HC := Lib.hid hc; clear hc hw
        go_wp2_with fail
        refine wp_region_noPanic ?_
        refine wp_region_held_drew (S := fun w' => w'.cell? ⟨b4, o4 + k * 2, none⟩ = some (.slice A7 (nthU us k).reads.length c7) ∧ w'.cell? ⟨b4, o4 + t * 2 + 1, none⟩ = some (.int .i64 x)) (by kernel_rfl) (⟨k0, ktr⟩) (fun hHeld => ?_)
        refine goR 0 hHeld ?_
        refine goR 1 hHeld ?_
        refine goR 2 hHeld ?_
        refine goR 3 hHeld ?_
        refine goR 4 hHeld ?_
        refine goR 5 hHeld ?_
        refine goR 6 hHeld ?_
        refine goR 7 hHeld ?_
        refine goR 8 hHeld ?_
        refine goR 9 hHeld ?_
        refine stepR (i := 10) rfl (by kernel_rfl) (wanted_none rfl) (fun K hK => ?_)
        go_simp
        (refine (l6Has_c (R7.out.drewN 1)).mono ?_; rintro e w' ⟨rfl, rfl⟩; rw [HC.out])
        go_wp2_with fail
        refine hK.out _ _ (hHeld) (fun hHeld => ?_)
        clear hK K
        try simp only [Act.put, List.setIfInBounds_toArray, List.set_cons_zero, List.set_cons_succ]
        refine wpAnyH_done (by kernel_rfl) ?_ _
        refine NoPanic.normal ?_
        go_wp2_with fail
        go_quiet (fail)
        go_wp2
        go_ret
        exact ⟨ret_bool HX.out.symm, bel⟩
      have HX := Lib.hid (HD.out.trans (deadF_n hlt hc hw))
      have q : ((nthU us k).write == x) = false := ieq_f hw
      have HC := Lib.hid hc; clear hc hw
      go_wp2_with fail
      refine wp_region_noPanic ?_
      refine wp_region_held_drew (S := fun w' => w'.cell? ⟨b4, o4 + k * 2, none⟩ = some (.slice A7 (nthU us k).reads.length c7) ∧ w'.cell? ⟨b4, o4 + t * 2 + 1, none⟩ = some (.int .i64 x)) (by kernel_rfl) (⟨k0, ktr⟩) (fun hHeld => ?_)
      refine goR 0 hHeld ?_
      refine goR 1 hHeld ?_
      refine goR 2 hHeld ?_
      refine goR 3 hHeld ?_
      refine goR 4 hHeld ?_
      refine goR 5 hHeld ?_
      refine goR 6 hHeld ?_
      refine goR 7 hHeld ?_
      refine goR 8 hHeld ?_
      refine goR 9 hHeld ?_
      refine stepR (i := 10) rfl (by kernel_rfl) (wanted_none rfl) (fun K hK => ?_)
      go_simp
      (refine (l6Has_c (R7.out.drewN 1)).mono ?_; rintro e w' ⟨rfl, rfl⟩; rw [HC.out])
      go_wp2_with fail
      refine hK.out _ _ (hHeld) (fun hHeld => ?_)
      clear hK K
      try simp only [Act.put, List.setIfInBounds_toArray, List.set_cons_zero, List.set_cons_succ]
      refine wpAnyH_done (by kernel_rfl) ?_ _
      refine NoPanic.normal ?_
      go_wp2_with fail
      go_quiet (fail)
      go_wp2
      go_roundw
      case rel => exact ⟨k + 1, by omega, by omega, by go_num, HX.out, bel⟩
      case measure => simp [intOf]; omega
set_option maxRecDepth 100000 in
set_option maxHeartbeats 4000000 in
theorem isDead_c {w : World} {p : Pgm} {g t : Nat} (h : Trc w p g) (ht : t < (usesF p).length) (hul : (usesF p).length ≤ 120) :
    Calls Tryz.prog 42 #[.pointer (some ⟨g, 0, none⟩), .int .i64 (t : Int)] w fun e w' => e = .returned (.bool (deadI (usesF p) t)) ∧ Below w.heap.size w w' := by
  have ul := usesF_len p
  obtain ⟨u0, u1, A3, b4, o4, c3, c4, b5, o5, c5, ⟨x0, x1, x2, x3, x4⟩, hl4, hl5, hR, hW⟩ := h.open (by omega)
  have lg := lt_of_cell x3
  obtain ⟨us, hus⟩ : ∃ us, us = usesF p := ⟨_, rfl⟩
  rw [← ul] at x2
  rw [← hus] at x2 x3 x4 hR hW ht hul ⊢
  have kt := (hW t ht).1
  have HW := Lib.hid hW
  have HR := Lib.hid hR
  clear hR hW h x0 x1 hus ul
  have HDI := Lib.hid (show deadI us t = deadF us (nthU us t).write (us.length - (t + 1)) (t + 1) from rfl)
  obtain ⟨x, hx⟩ : ∃ x, x = (nthU us t).write := ⟨_, rfl⟩
  rw [← hx] at kt HDI
  clear hx
  go_enter Tryz.func42, Tryz.ntmps42
  go_wp2
  go_loopw [5] (fun i wr => ∃ k : Nat, t + 1 ≤ k ∧ k ≤ us.length ∧ i = .int .i64 k ∧ deadI us t = deadF us x (us.length - k) k ∧ Below w.heap.size w wr) (fun i _ => us.length - (intOf i).toNat)
  case atStart => exact ⟨t + 1, Nat.le_refl _, ht, by go_num, HDI.out, Below.refl _ _⟩
  case round =>
    obtain ⟨k, htk, hk, rfl, hd, hb⟩ := hrel
    have HD := Lib.hid hd; clear hd
    have x2r := cell_to x2 hb
    have x3r := cell_to x3 hb
    have x4r := cell_to x4 hb
    have ktr := cell_to kt hb
    by_cases hlt : k < us.length
    case neg =>
      have hjj : k = us.length := by omega
      subst hjj
      have HX := Lib.hid (HD.out.trans (deadF_0 _ _))
      go_wp2
      go_ret
      exact ⟨ret_bool HX.out.symm, hb⟩
    obtain ⟨A7, c7, bs7, k0w, r7⟩ := HR.out k hlt
    have k0 := cell_to k0w hb
    have k1 := cell_to (HW.out k hlt).1 hb
    have R7 := Lib.hid (r7.below hb)
    clear k0w r7
    cases hc : (nthU us k).reads.contains x with
    | true =>
      have HX := Lib.hid (HD.out.trans (deadF_h hlt hc))
      have HC := Lib.hid hc; clear hc
      go_wp2_with fail
      refine wp_region_noPanic ?_
      refine wp_region_held_drew (S := fun w' => w'.cell? ⟨g, 3, none⟩ = some (.slice (some ⟨b4, o4, none⟩) us.length c4) ∧ w'.cell? ⟨g, 4, none⟩ = some (.slice (some ⟨b5, o5, none⟩) us.length c5) ∧ w'.cell? ⟨b4, o4 + k, none⟩ = some (.slice A7 (nthU us k).reads.length c7) ∧ w'.cell? ⟨b5, o5 + t, none⟩ = some (.int .i64 x)) (by kernel_rfl) (⟨x3r, x4r, k0, ktr⟩) (fun hHeld => ?_)
      refine goR 0 hHeld ?_
      refine goR 1 hHeld ?_
      refine goR 2 hHeld ?_
      refine goR 3 hHeld ?_
      refine goR 4 hHeld ?_
      refine goR 5 hHeld ?_
      refine goR 6 hHeld ?_
      refine goR 7 hHeld ?_
      refine goR 8 hHeld ?_
      refine goR 9 hHeld ?_
      refine goR 10 hHeld ?_
      refine goR 11 hHeld ?_
      refine goR 12 hHeld ?_
      refine goR 13 hHeld ?_
      refine stepR (i := 14) rfl (by kernel_rfl) (wanted_none rfl) (fun K hK => ?_)
      go_simp
      (refine (Contains_int_c (R7.out.drewN 1)).mono ?_; rintro e w' ⟨rfl, rfl⟩; rw [HC.out])
      go_wp2_with fail
      refine hK.out _ _ (hHeld) (fun hHeld => ?_)
      clear hK K
      try simp only [Act.put, List.setIfInBounds_toArray, List.set_cons_zero, List.set_cons_succ]
      refine wpAnyH_done (by kernel_rfl) ?_ _
      refine NoPanic.normal ?_
      go_wp2
      go_ret
      exact ⟨ret_bool HX.out.symm, bel⟩
    | false =>
      by_cases hw : (nthU us k).write = x
      case pos =>
        have HX := Lib.hid (HD.out.trans (deadF_w hlt hc hw))
        have q : ((nthU us k).write == x) = true := ieq_t hw
        have HC := Lib.hid hc; clear hc hw
        go_wp2_with fail
        refine wp_region_noPanic ?_
        refine wp_region_held_drew (S := fun w' => w'.cell? ⟨g, 3, none⟩ = some (.slice (some ⟨b4, o4, none⟩) us.length c4) ∧ w'.cell? ⟨g, 4, none⟩ = some (.slice (some ⟨b5, o5, none⟩) us.length c5) ∧ w'.cell? ⟨b4, o4 + k, none⟩ = some (.slice A7 (nthU us k).reads.length c7) ∧ w'.cell? ⟨b5, o5 + t, none⟩ = some (.int .i64 x)) (by kernel_rfl) (⟨x3r, x4r, k0, ktr⟩) (fun hHeld => ?_)
        refine goR 0 hHeld ?_
        refine goR 1 hHeld ?_
        refine goR 2 hHeld ?_
        refine goR 3 hHeld ?_
        refine goR 4 hHeld ?_
        refine goR 5 hHeld ?_
        refine goR 6 hHeld ?_
        refine goR 7 hHeld ?_
        refine goR 8 hHeld ?_
        refine goR 9 hHeld ?_
        refine goR 10 hHeld ?_
        refine goR 11 hHeld ?_
        refine goR 12 hHeld ?_
        refine goR 13 hHeld ?_
        refine stepR (i := 14) rfl (by kernel_rfl) (wanted_none rfl) (fun K hK => ?_)
        go_simp
        (refine (Contains_int_c (R7.out.drewN 1)).mono ?_; rintro e w' ⟨rfl, rfl⟩; rw [HC.out])
        go_wp2_with fail
        refine hK.out _ _ (hHeld) (fun hHeld => ?_)
        clear hK K
        try simp only [Act.put, List.setIfInBounds_toArray, List.set_cons_zero, List.set_cons_succ]
        refine wpAnyH_done (by kernel_rfl) ?_ _
        refine NoPanic.normal ?_
        go_wp2_with fail
        go_quiet (fail)
        go_wp2
        go_ret
        exact ⟨ret_bool HX.out.symm, bel⟩
      have HX := Lib.hid (HD.out.trans (deadF_n hlt hc hw))
      have q : ((nthU us k).write == x) = false := ieq_f hw
      have HC := Lib.hid hc; clear hc hw
      go_wp2_with fail
      refine wp_region_noPanic ?_
      refine wp_region_held_drew (S := fun w' => w'.cell? ⟨g, 3, none⟩ = some (.slice (some ⟨b4, o4, none⟩) us.length c4) ∧ w'.cell? ⟨g, 4, none⟩ = some (.slice (some ⟨b5, o5, none⟩) us.length c5) ∧ w'.cell? ⟨b4, o4 + k, none⟩ = some (.slice A7 (nthU us k).reads.length c7) ∧ w'.cell? ⟨b5, o5 + t, none⟩ = some (.int .i64 x)) (by kernel_rfl) (⟨x3r, x4r, k0, ktr⟩) (fun hHeld => ?_)
      refine goR 0 hHeld ?_
      refine goR 1 hHeld ?_
      refine goR 2 hHeld ?_
      refine goR 3 hHeld ?_
      refine goR 4 hHeld ?_
      refine goR 5 hHeld ?_
      refine goR 6 hHeld ?_
      refine goR 7 hHeld ?_
      refine goR 8 hHeld ?_
      refine goR 9 hHeld ?_
      refine goR 10 hHeld ?_
      refine goR 11 hHeld ?_
      refine goR 12 hHeld ?_
      refine goR 13 hHeld ?_
      refine stepR (i := 14) rfl (by kernel_rfl) (wanted_none rfl) (fun K hK => ?_)
      go_simp
      (refine (Contains_int_c (R7.out.drewN 1)).mono ?_; rintro e w' ⟨rfl, rfl⟩; rw [HC.out])
      go_wp2_with fail
      refine hK.out _ _ (hHeld) (fun hHeld => ?_)
      clear hK K
      try simp only [Act.put, List.setIfInBounds_toArray, List.set_cons_zero, List.set_cons_succ]
      refine wpAnyH_done (by kernel_rfl) ?_ _
      refine NoPanic.normal ?_
      go_wp2_with fail
      go_quiet (fail)
      go_wp2
      go_roundw
      case rel => exact ⟨k + 1, by omega, by omega, by go_num, HX.out, bel⟩
      case measure => simp [intOf]; omega
set_option maxRecDepth 100000 in
set_option maxHeartbeats 4000000 in
theorem implDeadInstances_c {w : World} {p : Pgm} {cs : List Value} {bs : List Nat} (h : Rep w p.d cs bs) :
    Calls Tryz.prog 15 #[.agg cs.toArray] w (MadeInts w (DeadF p)) := by
  have HP := Lib.hid h
  obtain ⟨A1, c1, A2, c2, d1, d2, rfl, rfl, g1, g2⟩ := Rep.pgm_iff.1 h
  have Garrays := Lib.hid g1
  have Gparts := Lib.hid g2
  clear h g1 g2
  cases hv : progOk p with
  | false =>
    rw [DeadF_n hv]
    have HV := Lib.hid hv; clear hv
    go_enter Tryz.func15, Tryz.ntmps15
    go_wp2_with fail
    refine (trace_n (HP.out.below bel) HV.out).mono ?_
    rintro e w1 ⟨rfl, b1⟩
    have S1 : Below w.heap.size w w1 := bel
    go_wp2
    go_ret
    exact MadeInts.nil S1
  | true =>
    rw [DeadF_y hv]
    have ul := usesF_len p
    have hul : (usesF p).length ≤ 120 := by rw [ul]; exact (progOk_all hv).2.2
    have UL := Lib.hid ul; clear ul
    have HV := Lib.hid hv; clear hv
    go_enter Tryz.func15, Tryz.ntmps15
    go_wp2_with fail
    refine (trace_y (HP.out.below bel) HV.out).mono ?_
    rintro e w1 ⟨g, rfl, ht1, _, b1⟩
    have S1 : Below w.heap.size w w1 := bel
    have HT := Lib.hid ht1
    obtain ⟨A1_, A2_, A3_, A4_, A5_, c1_, c2_, c3_, c4_, c5_, _, _, _, _, ⟨_, y1, y2, y3, y4⟩, _⟩ := ht1
    rw [← UL.out] at y2
    have lg := lt_of_cell y2
    obtain ⟨m, hm⟩ : ∃ m, m = (usesF p).length := ⟨_, rfl⟩
    rw [← hm] at y2 hul
    have HM := Lib.hid hm; clear hm b1 y1 y3 y4
    go_wp2
    go_loopw [5, 19] (fun u i wr => ∃ j : Nat, j ≤ m ∧ i = .int .i64 j ∧ Grow wr w1.heap.size 3 1 u ((chF (deadI (usesF p)) j).map D.int) ∧ Below w1.heap.size w1 wr) (fun _ i _ => m - (intOf i).toNat)
    case atStart => exact ⟨0, Nat.zero_le _, rfl, Grow.nil _ _ _ _, bel⟩
    case round =>
      obtain ⟨j, hj, rfl, hG, hb⟩ := hrel
      have HG := Lib.hid hG; clear hG
      by_cases hlt : j < m
      case neg =>
        have hjj : j = m := by omega
        subst hjj
        obtain ⟨A6, c6, bs6, he, h1, h2, h3, _⟩ := HG.out.ints
        subst he
        have H1 := Lib.hid h1; clear h1
        go_wp2
        go_ret
        rw [← HM.out]
        exact ⟨_, _, _, bs6, rfl, H1.out, h2, fun y hy => Nat.le_trans S1.size (h3 y hy), below_tr S1 hb⟩
      obtain ⟨Au, cu, hfu, _, _⟩ := HG.out.form
      rw [List.length_map] at hfu
      have hle := chF_len (deadI (usesF p)) j
      have HCH := Lib.hid (And.intro (fun h => chF_yes (f := deadI (usesF p)) (k := j) h) (fun h => chF_no (f := deadI (usesF p)) (k := j) h))
      obtain ⟨l, hl⟩ : ∃ l, l = chF (deadI (usesF p)) j := ⟨_, rfl⟩
      rw [← hl] at HG hfu hle HCH
      clear hl
      have y2r := cell_to y2 hb
      have lgr := lt_of_cell y2r
      go_wp2_with fail
      refine (isDead_c (HT.out.below hb) (by rw [← HM.out]; exact hlt) (by rw [← HM.out]; exact hul)).mono ?_
      rintro e w2 ⟨rfl, b2⟩
      have S2 : Below w1.heap.size w1 w2 := below_tr hb b2
      have HG0 := Lib.hid (HG.out.below b2)
      clear HG
      have HG := HG0
      have hbz := S2.size
      subst hfu
      cases hf : deadI (usesF p) j with
      | false =>
        have HS := Lib.hid (HCH.out.2 hf)
        clear hf b2
        go_wp2
        go_roundw
        case rel => exact ⟨j + 1, by omega, by go_num, by rw [HS.out]; exact HG.out, S2⟩
        case measure => simp [intOf]; omega
      | true =>
        have HS := Lib.hid (HCH.out.1 hf)
        have hI := Lib.hid (show I64 (j : Int) by unfold I64; omega)
        clear hf b2
        go_wp2_with (
          at_builtin
          refine wpList_append_more (w0 := w2) (B := w1.heap.size) (xs := l.map D.int) (ys := [D.int (j:Int)]) rfl (.tmp 25) (.tmp 27) _ rfl _ Tryz.underlying35 Tryz.infoInt rfl (by decide) rfl HG.out ?hbw rfl (one_int _ hI.out _) ?hys ?hn ?hf ?hlen ?hba ?_
          case hbw => exact bel
          case hys => intro y hy; simp only [List.mem_singleton] at hy; rw [hy]; rfl
          case hn => simp
          case hf => simp
          case hlen => simp; omega
          case hba => exact hbz
          intro v4 w4 hG4 hg4)
        have HG4 := Lib.hid (show Grow w4 w1.heap.size 3 1 v4 ((chF (deadI (usesF p)) (j + 1)).map D.int) by rw [HS.out, List.map_append]; exact hG4)
        have S4 : Below w1.heap.size w1 w4 := (S2.alloc S2.size _).trans (hg4.below (Nat.le_trans hbz (by simp)) (fun b hb => (HG.out.own_ge b hb).1))
        clear hG4 hg4
        go_wp2
        go_roundw
        case rel => exact ⟨j + 1, by omega, by go_num, HG4.out, S4⟩
        case measure => simp [intOf]; omega
set_option maxRecDepth 100000 in
set_option maxHeartbeats 4000000 in
theorem specDeadInstances_c {w : World} {p : Pgm} {cs : List Value} {bs : List Nat} (h : Rep w p.d cs bs) :
    Calls Tryz.prog 14 #[.agg cs.toArray] w (MadeInts w (DeadF p)) := by
  have HP := Lib.hid h
  obtain ⟨A1, c1, A2, c2, d1, d2, rfl, rfl, g1, g2⟩ := Rep.pgm_iff.1 h
  have Garrays := Lib.hid g1
  have Gparts := Lib.hid g2
  clear h g1 g2
  go_enter Tryz.func14, Tryz.ntmps14
  go_wp2_with fail
  refine (specProgramValid_c (HP.out.below bel)).mono ?_
  rintro e w1 ⟨rfl, b1⟩
  have P1 : Box2 w1 w.heap.size (.slice A1 p.arrays.length c1) (.slice A2 p.parts.length c2) := by
    refine ⟨?_, ?_⟩ <;> (rw [b1.cell (by simp [World.setCell]; try omega)]; go_simp)
  have S1 : Below w.heap.size w w1 := bel
  obtain ⟨U0, hU0⟩ : ∃ U0, U0 = Value.slice (some ⟨w.heap.size + 1, 0, none⟩) 0 0 := ⟨_, rfl⟩
  have HU1 := Lib.hid (show Grow w1 (w.heap.size + 1) 3 1 U0 (([] : List Int).map D.int) by rw [hU0]; exact Grow.below (Grow.madeE _ _ (by simp) (by simp)) b1)
  have HU := Lib.hid (show ∀ y, U0.ownBlock = some y → y = w.heap.size + 1 from fun y hy => by rw [hU0] at hy; simp [Value.ownBlock] at hy; omega)
  have hw1 : w.heap.size + 2 ≤ w1.heap.size := by have := b1.size; simp at this; omega
  have HU0 := Lib.hid hU0; clear hU0 b1
  cases hv : progOk p with
  | false =>
    have HE := Lib.hid (DeadF_n hv); clear hv
    obtain ⟨A6, c6, bs6, he, h1, h2, h3, _⟩ := HU1.out.ints
    have H1 := Lib.hid h1; clear h1
    go_wp2
    go_ret
    rw [HE.out]
    refine ⟨A6, _, c6, bs6, ?_, H1.out, h2, fun y hy => by have := h3 y hy; omega, S1⟩
    rw [← he, HU0.out]; rfl
  | true =>
    have ul := usesF_len p
    have hul : (usesF p).length ≤ 120 := by rw [ul]; exact (progOk_all hv).2.2
    have HE := Lib.hid (DeadF_y hv)
    have HV := Lib.hid hv; clear hv
    go_wp2_with fail
    refine (l6Uses_c (HP.out.below bel) HV.out).mono ?_
    rintro e w2 ⟨A3, c3, bs3, rfl, r2, hb23, b2⟩
    have s2 : Below w1.heap.size w1 w2 := bel
    have P2 := P1.to s2; clear P1
    have S2 : Below w.heap.size w w2 := below_tr S1 s2
    clear s2
    have HB3 := Lib.hid (show ∀ y ∈ bs3, w1.heap.size ≤ y ∧ y < w2.heap.size from fun y hy => ⟨hb23 y hy, Rep.lt _ r2 y hy⟩)
    have R2 := Lib.hid r2; clear r2 hb23
    have HU2 := Lib.hid (HU1.out.below b2)
    have HAP := Lib.hid (show ∀ y ∈ bs3, U0.ownBlock ≠ some y from fun y hy e => by have := HU.out y e; have := (HB3.out y hy).1; omega)
    have hw2 : w.heap.size + 2 ≤ w2.heap.size := by have := b2.size; omega
    clear b2 hw1 HU1 HB3
    have hs2 := S2.size
    obtain ⟨us, hus⟩ : ∃ us, us = usesF p := ⟨_, rfl⟩
    rw [← hus] at R2 hul HE ⊢
    clear hus ul
    go_wp2
    go_loopw [3, 5] (fun u i wr => ∃ j : Nat, j ≤ us.length ∧ i = .int .i64 j ∧ Grow wr (w.heap.size + 1) 3 1 u ((chF (deadI us) j).map D.int) ∧ Grew w2 wr U0 u) (fun _ i _ => us.length - (intOf i).toNat)
    case atStart => exact ⟨0, Nat.zero_le _, rfl, by rw [← HU0.out]; exact HU2.out, by rw [← HU0.out]; exact Grew.refl _ _⟩
    case round =>
      obtain ⟨j, hj, rfl, hG, hgr⟩ := hrel
      have HG := Lib.hid hG; clear hG
      have Hgr := Lib.hid hgr; clear hgr
      have Sr : Below w.heap.size w wr := S2.trans (Hgr.out.below hs2 fun b hb => by have := HU.out b hb; omega)
      have RR := Lib.hid (R2.out.grew Hgr.out HAP.out)
      by_cases hlt : j < us.length
      case neg =>
        have hjj : j = us.length := by omega
        subst hjj
        obtain ⟨A6, c6, bs6, he, h1, h2, h3, _⟩ := HG.out.ints
        subst he
        have H1 := Lib.hid h1; clear h1
        go_wp2
        go_ret
        rw [HE.out]
        exact ⟨A6, _, c6, bs6, rfl, H1.out, h2, fun y hy => by have := h3 y hy; omega, Sr⟩
      obtain ⟨Au, cu, hfu, _, _⟩ := HG.out.form
      rw [List.length_map] at hfu
      have hle := chF_len (deadI us) j
      have HCH := Lib.hid (And.intro (fun h => chF_yes (f := deadI us) (k := j) h) (fun h => chF_no (f := deadI us) (k := j) h))
      obtain ⟨l, hl⟩ : ∃ l, l = chF (deadI us) j := ⟨_, rfl⟩
      rw [← hl] at HG hfu hle HCH
      clear hl
      subst hfu
      go_wp2_with fail
      refine (l6Dead_c RR.out hlt hul).mono ?_
      rintro e w3 ⟨rfl, b3⟩
      have HG0 := Lib.hid (HG.out.below b3)
      have g3 := Lib.hid (Hgr.out.trans (Grew.of_below b3 _))
      clear HG Hgr
      have HG := HG0
      have hbz : w.heap.size + 1 ≤ w3.heap.size := by have h1 := g3.out.touch.size; omega
      cases hf : deadI us j with
      | false =>
        have HS := Lib.hid (HCH.out.2 hf)
        clear hf b3
        go_wp2
        go_roundw
        case rel => exact ⟨j + 1, by omega, by go_num, by rw [HS.out]; exact HG.out, g3.out⟩
        case measure => simp [intOf]; omega
      | true =>
        have HS := Lib.hid (HCH.out.1 hf)
        have hI := Lib.hid (show I64 (j : Int) by unfold I64; omega)
        clear hf b3
        go_wp2_with (
          at_builtin
          refine wpList_append_more (w0 := w3) (B := (w.heap.size+1)) (xs := l.map D.int) (ys := [D.int (j:Int)]) rfl (.tmp 22) (.tmp 24) _ rfl _ Tryz.underlying35 Tryz.infoInt rfl (by decide) rfl HG.out ?hbw rfl (one_int _ hI.out _) ?hys ?hn ?hf ?hlen ?hba ?_
          case hbw => exact bel
          case hys => intro y hy; simp only [List.mem_singleton] at hy; rw [hy]; rfl
          case hn => simp
          case hf => simp
          case hlen => simp; omega
          case hba => exact hbz
          intro v4 w4 hG4 hg4)
        have HG4 := Lib.hid (show Grow w4 (w.heap.size + 1) 3 1 v4 ((chF (deadI us) (j + 1)).map D.int) by rw [HS.out, List.map_append]; exact hG4)
        have g4 := Lib.hid (g3.out.trans (hg4.after (show Below w3.heap.size w3 (w3.alloc (.cells #[.int .i64 (j : Int)] 3)) from bel)))
        clear hG4 hg4
        go_wp2
        go_roundw
        case rel => exact ⟨j + 1, by omega, by go_num, HG4.out, g4.out⟩
        case measure => simp [intOf]; omega
end Go.Proofs.YtimocdpfnncnlaaGreat
