/- The range of a loop at a point: l2Range of the reference, span of the program. -/
import Derived.Test.YtbhniobgaoncaaaGreatDoorZpNestValid
set_option linter.all false
set_option linter.unusedSimpArgs false
set_option linter.unusedVariables false
namespace Go.Proofs.YtbhniobgaoncaaaGreatDoor
open Go.ChangeShapes Go.WideShapes Go.ChangeAt Go.RowKit Go.Deep

/-- the value of the j-th expression at a point -/
def evAt (xs : List Aff) (pt : List Int) (j : Nat) : Int := evF (xs.getD j ⟨[], 0⟩) pt
theorem evAt_eq {xs : List Aff} {pt : List Int} {j : Nat} (h : j < xs.length) : evF xs[j] pt = evAt xs pt j := by simp [evAt, List.getD_eq_getElem?_getD, h]
/-- the greatest, the least of the first one's and the first j's values -/
def mxTo (xs : List Aff) (pt : List Int) : Nat → Int
  | 0 => evAt xs pt 0
  | j + 1 => if mxTo xs pt j < evAt xs pt j then evAt xs pt j else mxTo xs pt j
def mnTo (xs : List Aff) (pt : List Int) : Nat → Int
  | 0 => evAt xs pt 0
  | j + 1 => if evAt xs pt j < mnTo xs pt j then evAt xs pt j else mnTo xs pt j
def loF (x : Lp) (pt : List Int) : Int := mxTo x.lo pt x.lo.length
def hiF (x : Lp) (pt : List Int) : Int := mnTo x.hi pt x.hi.length
theorem mxTo_one (xs : List Aff) (pt : List Int) : mxTo xs pt 1 = evAt xs pt 0 := by simp [mxTo]
theorem mnTo_one (xs : List Aff) (pt : List Int) : mnTo xs pt 1 = evAt xs pt 0 := by simp [mnTo]
theorem mxTo_up {xs : List Aff} {pt : List Int} {j : Nat} (h : mxTo xs pt j < evAt xs pt j) : mxTo xs pt (j + 1) = evAt xs pt j := if_pos h
theorem mxTo_no {xs : List Aff} {pt : List Int} {j : Nat} (h : ¬ mxTo xs pt j < evAt xs pt j) : mxTo xs pt (j + 1) = mxTo xs pt j := if_neg h
theorem mnTo_up {xs : List Aff} {pt : List Int} {j : Nat} (h : evAt xs pt j < mnTo xs pt j) : mnTo xs pt (j + 1) = evAt xs pt j := if_pos h
theorem mnTo_no {xs : List Aff} {pt : List Int} {j : Nat} (h : ¬ evAt xs pt j < mnTo xs pt j) : mnTo xs pt (j + 1) = mnTo xs pt j := if_neg h
theorem mxTo_max (xs : List Aff) (pt : List Int) (j : Nat) : max (mxTo xs pt j) (evAt xs pt j) = mxTo xs pt (j + 1) := by
  rw [show mxTo xs pt (j + 1) = if mxTo xs pt j < evAt xs pt j then evAt xs pt j else mxTo xs pt j from rfl, Int.max_def]; split <;> split <;> omega
theorem mnTo_min (xs : List Aff) (pt : List Int) (j : Nat) : min (mnTo xs pt j) (evAt xs pt j) = mnTo xs pt (j + 1) := by
  rw [show mnTo xs pt (j + 1) = if evAt xs pt j < mnTo xs pt j then evAt xs pt j else mnTo xs pt j from rfl, Int.min_def]; split <;> split <;> omega

/-- what the ranges ask: both sides have bounds, and these may be valued at the point -/
structure LpBd (x : Lp) (pt : List Int) : Prop where
  lo1 : 1 ≤ x.lo.length
  hi1 : 1 ≤ x.hi.length
  lo : ∀ a ∈ x.lo, EvBd a pt
  hi : ∀ a ∈ x.hi, EvBd a pt

section
variable {w : World} {bs bs' : List Nat}

set_option maxHeartbeats 4000000 in
theorem l2Range_c {x : Lp} {pt : List Int} {cs : List Value} {B : Option Addr} {m d : Nat} (h : Rep w x.d cs bs) (hp : Rep w (ints pt) [.slice B m d] bs') (hbd : LpBd x pt) :
    Calls Tryz.prog 221 #[.agg cs.toArray, .slice B m d] w fun e w' => e = .returned (.tuple #[.int .i64 (loF x pt), .int .i64 (hiF x pt)]) ∧ Below w.heap.size w w' := by
  obtain ⟨A1, c1, A2, c2, d1, d2, rfl, rfl, g1, g2⟩ := Rep.lp_iff.1 h
  obtain ⟨_, hn1, hn2⟩ := g1.sls_len
  obtain ⟨_, hn3, hn4⟩ := g2.sls_len
  have hnl : x.lo.length ≤ 9223372036854775807 := Nat.le_trans hn1 hn2
  have hnh : x.hi.length ≤ 9223372036854775807 := Nat.le_trans hn3 hn4
  have q1 := hbd.lo1
  have q2 := hbd.hi1
  have HBD := Lib.hid hbd
  have L1 := Lib.hid g1; have L2 := Lib.hid g2; have HP := Lib.hid hp
  clear h g1 g2 hp hbd hn1 hn2 hn3 hn4
  have hl0 : 0 < x.lo.length := q1
  have hh0 : 0 < x.hi.length := q2
  obtain ⟨bu, ou, csu, lu, rfl, hblu, hru, _, _, hcu⟩ := L1.out.sls_at Aff.d_size (k := 0) hl0
  have Gu := Lib.hid hru
  obtain ⟨A1u, c1u, d1u, rfl, rfl, g1u, g2u⟩ := Rep.aff_iff2.1 hru
  have k0u := (hcu 0 _ rfl).1; rw [Nat.add_zero] at k0u
  have k1u := (hcu 1 _ rfl).1
  have Q1u := Lib.hid g1u
  have Q2u := Lib.hid g2u
  clear hcu hru g1u g2u
  obtain ⟨bv, ov, csv, lv, rfl, hblv, hrv, _, _, hcv⟩ := L2.out.sls_at Aff.d_size (k := 0) hh0
  have Gv := Lib.hid hrv
  obtain ⟨A1v, c1v, d1v, rfl, rfl, g1v, g2v⟩ := Rep.aff_iff2.1 hrv
  have k0v := (hcv 0 _ rfl).1; rw [Nat.add_zero] at k0v
  have k1v := (hcv 1 _ rfl).1
  have Q1v := Lib.hid g1v
  have Q2v := Lib.hid g2v
  clear hcv hrv g1v g2v
  simp only [Nat.zero_mul, Nat.add_zero] at k0u k1u k0v k1v
  clear Q1u Q2u Q1v Q2v
  have E1 := Lib.hid (evAt_eq (pt := pt) hl0)
  have E2 := Lib.hid (evAt_eq (pt := pt) hh0)
  go_enter Tryz.func221, Tryz.ntmps221
  go_wp2_with fail
  refine (l1Eval_d (Gu.out.below bel) (HP.out.below bel) (HBD.out.lo _ (List.getElem_mem hl0))).mono ?_
  rintro e w1 ⟨rfl, b1⟩
  rw [E1.out]
  have P1 : Box2 w1 w.heap.size (.slice (some ⟨bu, ou, none⟩) x.lo.length c1) (.slice (some ⟨bv, ov, none⟩) x.hi.length c2) := (Box2.new w _ _ _).to b1
  have S1 : Below w.heap.size w w1 := bel
  have k0_1 := (S1.cell (p := ⟨bv, ov, none⟩) hblv).trans k0v
  have k1_1 := (S1.cell (p := ⟨bv, ov + 1, none⟩) hblv).trans k1v
  have G1 := Lib.hid (Gv.out.below S1)
  have hb1 : bv < w1.heap.size := Nat.lt_of_lt_of_le hblv S1.size
  clear k0u k1u k0v k1v Gu Gv b1
  go_wp2_with fail
  refine (l1Eval_d G1.out (HP.out.below S1) (HBD.out.hi _ (List.getElem_mem hh0))).mono ?_
  rintro e w2 ⟨rfl, b2⟩
  rw [E2.out]
  have P2 := P1.to b2
  have S2 := below_tr S1 b2
  clear P1 S1 k0_1 k1_1 G1 hb1 b2
  go_wp2
  go_loopw [6, 8, 9] (fun u i _ wr => ∃ j : Nat, 1 ≤ j ∧ j ≤ x.lo.length ∧ i = .int .i64 j ∧ u = .int .i64 (mxTo x.lo pt j) ∧ Box2 wr w.heap.size (.slice (some ⟨bu, ou, none⟩) x.lo.length c1) (.slice (some ⟨bv, ov, none⟩) x.hi.length c2) ∧ Below w.heap.size w wr) (fun _ i _ _ => x.lo.length - (intOf i).toNat)
  case atStart => exact ⟨1, Nat.le_refl _, q1, rfl, int_eq (mxTo_one _ _).symm, P2, S2⟩
  case round =>
    obtain ⟨j, hj1, hj, rfl, rfl, P3, hb⟩ := hrel
    by_cases hlt : j < x.lo.length
    · clear P2 S2
      obtain ⟨bb, oo, cs, l, heq, hbl2, hr, _, _, hc⟩ := (L1.out.below hb).sls_at Aff.d_size (k := j) hlt
      obtain ⟨rfl, rfl⟩ : bu = bb ∧ ou = oo := by simpa using heq
      have G := Lib.hid hr
      obtain ⟨A3, c3, d3, rfl, rfl, g3, g4⟩ := Rep.aff_iff2.1 hr
      have k0 := (hc 0 _ rfl).1; rw [Nat.add_zero] at k0
      have k1 := (hc 1 _ rfl).1
      clear hc hr g3 g4 heq
      have E3 := Lib.hid (evAt_eq (pt := pt) hlt)
      go_wp2_with fail
      refine (l1Eval_d G.out (HP.out.below hb) (HBD.out.lo _ (List.getElem_mem hlt))).mono ?_
      rintro e w4 ⟨rfl, b4⟩
      rw [E3.out]
      have P4 := P3.to b4
      have S4 := below_tr hb b4
      clear P3 b4 k0 k1 G
      by_cases hgt : mxTo x.lo pt j < evAt x.lo pt j
      · have HM := Lib.hid (mxTo_up hgt)
        go_wp2
        go_roundw
        case rel => exact ⟨j + 1, by omega, by omega, by go_num, int_eq HM.out.symm, P4, S4⟩
        case measure => simp [intOf]; omega
      · have HM := Lib.hid (mxTo_no hgt)
        go_wp2
        go_roundw
        case rel => exact ⟨j + 1, by omega, by omega, by go_num, int_eq HM.out.symm, P4, S4⟩
        case measure => simp [intOf]; omega
    · have hjj : j = x.lo.length := by omega
      subst hjj
      clear P2 S2
      have HLO := Lib.hid (show mxTo x.lo pt x.lo.length = loF x pt from rfl)
      rw [HLO.out]
      go_wp2
      go_loopw [7, 10, 11] (fun u i _ wr2 => ∃ j : Nat, 1 ≤ j ∧ j ≤ x.hi.length ∧ i = .int .i64 j ∧ u = .int .i64 (mnTo x.hi pt j) ∧ Box2 wr2 w.heap.size (.slice (some ⟨bu, ou, none⟩) x.lo.length c1) (.slice (some ⟨bv, ov, none⟩) x.hi.length c2) ∧ Below w.heap.size w wr2) (fun _ i _ _ => x.hi.length - (intOf i).toNat)
      case atStart => exact ⟨1, Nat.le_refl _, q2, rfl, int_eq (mnTo_one _ _).symm, P3, hb⟩
      case round =>
        clear P3 hb
        obtain ⟨j, hj1, hj, rfl, rfl, P3, hb⟩ := hrel
        by_cases hlt : j < x.hi.length
        · obtain ⟨bb, oo, cs, l, heq, hbl2, hr, _, _, hc⟩ := (L2.out.below hb).sls_at Aff.d_size (k := j) hlt
          obtain ⟨rfl, rfl⟩ : bv = bb ∧ ov = oo := by simpa using heq
          have G := Lib.hid hr
          obtain ⟨A3, c3, d3, rfl, rfl, g3, g4⟩ := Rep.aff_iff2.1 hr
          have k0 := (hc 0 _ rfl).1; rw [Nat.add_zero] at k0
          have k1 := (hc 1 _ rfl).1
          clear hc hr g3 g4 heq
          have E3 := Lib.hid (evAt_eq (pt := pt) hlt)
          go_wp2_with fail
          refine (l1Eval_d G.out (HP.out.below hb) (HBD.out.hi _ (List.getElem_mem hlt))).mono ?_
          rintro e w4 ⟨rfl, b4⟩
          rw [E3.out]
          have P4 := P3.to b4
          have S4 := below_tr hb b4
          clear P3 b4 k0 k1 G
          by_cases hgt : evAt x.hi pt j < mnTo x.hi pt j
          · have HM := Lib.hid (mnTo_up hgt)
            go_wp2
            go_roundw
            case rel => exact ⟨j + 1, by omega, by omega, by go_num, int_eq HM.out.symm, P4, S4⟩
            case measure => simp [intOf]; omega
          · have HM := Lib.hid (mnTo_no hgt)
            go_wp2
            go_roundw
            case rel => exact ⟨j + 1, by omega, by omega, by go_num, int_eq HM.out.symm, P4, S4⟩
            case measure => simp [intOf]; omega
        · have hjj : j = x.hi.length := by omega
          subst hjj
          have HHI := Lib.hid (show mnTo x.hi pt x.hi.length = hiF x pt from rfl)
          rw [HHI.out]
          go_wp2
          go_ret2
          exact ⟨rfl, hb⟩

set_option maxHeartbeats 4000000 in
theorem span_c {x : Lp} {pt : List Int} {cs : List Value} {B : Option Addr} {m d : Nat} (h : Rep w x.d cs bs) (hp : Rep w (ints pt) [.slice B m d] bs') (hbd : LpBd x pt) :
    Calls Tryz.prog 230 #[.agg cs.toArray, .slice B m d] w fun e w' => e = .returned (.tuple #[.int .i64 (loF x pt), .int .i64 (hiF x pt)]) ∧ Below w.heap.size w w' := by
  obtain ⟨A1, c1, A2, c2, d1, d2, rfl, rfl, g1, g2⟩ := Rep.lp_iff.1 h
  obtain ⟨_, hn1, hn2⟩ := g1.sls_len
  obtain ⟨_, hn3, hn4⟩ := g2.sls_len
  have hnl : x.lo.length ≤ 9223372036854775807 := Nat.le_trans hn1 hn2
  have hnh : x.hi.length ≤ 9223372036854775807 := Nat.le_trans hn3 hn4
  have q1 := hbd.lo1
  have q2 := hbd.hi1
  have HBD := Lib.hid hbd
  have L1 := Lib.hid g1; have L2 := Lib.hid g2; have HP := Lib.hid hp
  clear h g1 g2 hp hbd hn1 hn2 hn3 hn4
  have hl0 : 0 < x.lo.length := q1
  have hh0 : 0 < x.hi.length := q2
  have B0 : Below w.heap.size w (w.alloc (.cells #[.slice A1 x.lo.length c1, .slice A2 x.hi.length c2] 78)) := bel
  have P0 := Box2.new w (.slice A1 x.lo.length c1) (.slice A2 x.hi.length c2) 78
  obtain ⟨W, hW⟩ : ∃ W, W = w.alloc (.cells #[.slice A1 x.lo.length c1, .slice A2 x.hi.length c2] 78) := ⟨_, rfl⟩
  rw [← hW] at B0 P0
  have HW := Lib.hid hW; clear hW
  obtain ⟨bu, ou, csu, lu, rfl, hblu, hru, _, _, hcu⟩ := (L1.out.below B0).sls_at Aff.d_size (k := 0) hl0
  have Gu := Lib.hid hru
  obtain ⟨A1u, c1u, d1u, rfl, rfl, g1u, g2u⟩ := Rep.aff_iff2.1 hru
  have k0u := (hcu 0 _ rfl).1; rw [Nat.add_zero] at k0u
  have k1u := (hcu 1 _ rfl).1
  have Q1u := Lib.hid g1u
  have Q2u := Lib.hid g2u
  clear hcu hru g1u g2u
  obtain ⟨bv, ov, csv, lv, rfl, hblv, hrv, _, _, hcv⟩ := (L2.out.below B0).sls_at Aff.d_size (k := 0) hh0
  have Gv := Lib.hid hrv
  obtain ⟨A1v, c1v, d1v, rfl, rfl, g1v, g2v⟩ := Rep.aff_iff2.1 hrv
  have k0v := (hcv 0 _ rfl).1; rw [Nat.add_zero] at k0v
  have k1v := (hcv 1 _ rfl).1
  have Q1v := Lib.hid g1v
  have Q2v := Lib.hid g2v
  clear hcv hrv g1v g2v
  simp only [Nat.zero_mul, Nat.add_zero] at k0u k1u k0v k1v
  clear Q1u Q2u Q1v Q2v
  have HPW := Lib.hid (HP.out.below B0)
  have E1 := Lib.hid (evAt_eq (pt := pt) hl0)
  have E2 := Lib.hid (evAt_eq (pt := pt) hh0)
  go_enter Tryz.func230, Tryz.ntmps230
  go_wp2
  rw [← HW.out]
  refine wp_region_noPanic ?_
  refine wp_region_held_drew (S := fun w' => Box2 w' w.heap.size (.slice (some ⟨bu, ou, none⟩) x.lo.length c1) (.slice (some ⟨bv, ov, none⟩) x.hi.length c2) ∧ (w'.cell? ⟨bu, ou, none⟩ = some (.slice A1u x.lo[0].coefs.length c1u) ∧ w'.cell? ⟨bu, ou + 1, none⟩ = some (.int .i64 x.lo[0].const)) ∧ (w'.cell? ⟨bv, ov, none⟩ = some (.slice A1v x.hi[0].coefs.length c1v) ∧ w'.cell? ⟨bv, ov + 1, none⟩ = some (.int .i64 x.hi[0].const))) (by kernel_rfl) (⟨P0, ⟨k0u, k1u⟩, ⟨k0v, k1v⟩⟩) (fun hHeld => ?_)
  refine goR 0 hHeld ?_
  refine goR 1 hHeld ?_
  refine goR 2 hHeld ?_
  refine goR 3 hHeld ?_
  refine goR 4 hHeld ?_
  refine goR 6 hHeld ?_
  refine goR 7 hHeld ?_
  refine goR 8 hHeld ?_
  refine goR 9 hHeld ?_
  refine goR 10 hHeld ?_
  refine stepR (i := 5) rfl (by kernel_rfl) (wanted_none rfl) (fun K hK => ?_)
  go_simp
  (refine (eval_d (Gu.out.drewN 1) (HPW.out.drewN 1) (HBD.out.lo _ (List.getElem_mem hl0))).mono ?_; rintro e w1 ⟨rfl, b1⟩; rw [E1.out]; replace b1 := of_drew b1)
  go_wp2_with fail
  refine hK.out _ _ (⟨P0.to b1, ⟨by rw [b1.cell hblu]; exact k0u, by rw [b1.cell hblu]; exact k1u⟩, ⟨by rw [b1.cell hblv]; exact k0v, by rw [b1.cell hblv]; exact k1v⟩⟩) (fun hHeld => ?_)
  clear hK K
  try simp only [Act.put, aq0, aq1, aq2]
  refine stepR (i := 11) rfl (by kernel_rfl) (wanted_none rfl) (fun K hK => ?_)
  go_simp
  (refine (eval_d (Gv.out.below b1) (HPW.out.below b1) (HBD.out.hi _ (List.getElem_mem hh0))).mono ?_; rintro e w2 ⟨rfl, b2⟩; rw [E2.out])
  go_wp2_with fail
  refine hK.out _ _ (⟨(P0.to b1).to b2, ⟨by rw [b2.cell (Nat.lt_of_lt_of_le hblu b1.size), b1.cell hblu]; exact k0u, by rw [b2.cell (Nat.lt_of_lt_of_le hblu b1.size), b1.cell hblu]; exact k1u⟩, ⟨by rw [b2.cell (Nat.lt_of_lt_of_le hblv b1.size), b1.cell hblv]; exact k0v, by rw [b2.cell (Nat.lt_of_lt_of_le hblv b1.size), b1.cell hblv]; exact k1v⟩⟩) (fun hHeld => ?_)
  clear hK K
  try simp only [Act.put, aq0, aq1, aq2]
  refine goR 12 hHeld ?_
  refine goR 13 hHeld ?_
  refine wpAnyH_done (by kernel_rfl) ?_ _
  refine NoPanic.normal ?_
  have P2 := (P0.to b1).to b2
  have S2 := below_tr (below_tr B0 b1) b2
  clear P0 k0u k1u k0v k1v Gu Gv b1 b2 hblu hblv hHeld
  go_wp2
  go_loopw [6, 27] (fun u i wr => ∃ j : Nat, j ≤ x.lo.length ∧ i = .int .i64 j ∧ u = .int .i64 (mxTo x.lo pt j) ∧ Box2 wr w.heap.size (.slice (some ⟨bu, ou, none⟩) x.lo.length c1) (.slice (some ⟨bv, ov, none⟩) x.hi.length c2) ∧ Below w.heap.size w wr) (fun _ i _ => x.lo.length - (intOf i).toNat)
  case atStart => exact ⟨0, Nat.zero_le _, rfl, rfl, P2, S2⟩
  case round =>
    obtain ⟨j, hj, rfl, rfl, P3, hb⟩ := hrel
    clear P2 S2
    by_cases hlt : j < x.lo.length
    · obtain ⟨bb, oo, cs, l, heq, hbl2, hr, _, _, hc⟩ := (L1.out.below hb).sls_at Aff.d_size (k := j) hlt
      obtain ⟨rfl, rfl⟩ : bu = bb ∧ ou = oo := by simpa using heq
      have G := Lib.hid hr
      obtain ⟨A3, c3, d3, rfl, rfl, g3, g4⟩ := Rep.aff_iff2.1 hr
      have k0 := (hc 0 _ rfl).1; rw [Nat.add_zero] at k0
      have k1 := (hc 1 _ rfl).1
      clear hc hr g3 g4 heq
      have E3 := Lib.hid (evAt_eq (pt := pt) hlt)
      have HM := Lib.hid (mxTo_max x.lo pt j)
      go_wp2_with fail
      refine (eval_d (G.out.below bel) (HP.out.below (below_tr hb bel)) (HBD.out.lo _ (List.getElem_mem hlt))).mono ?_
      rintro e w4 ⟨rfl, b4⟩
      rw [E3.out]
      have T4 : Below wr.heap.size wr w4 := bel
      have P4 := P3.to T4
      have S4 := below_tr hb T4
      clear P3 b4 k0 k1 G
      go_wp2
      go_roundw
      case rel => exact ⟨j + 1, by omega, by go_num, int_eq (by first | rfl | exact HM.out), P4, S4⟩
      case measure => simp [intOf]; omega
    · have hjj : j = x.lo.length := by omega
      subst hjj
      have HLO := Lib.hid (show mxTo x.lo pt x.lo.length = loF x pt from rfl)
      rw [HLO.out]
      go_wp2
      go_loopw [7, 40] (fun u i wr2 => ∃ j : Nat, j ≤ x.hi.length ∧ i = .int .i64 j ∧ u = .int .i64 (mnTo x.hi pt j) ∧ Below w.heap.size w wr2) (fun _ i _ => x.hi.length - (intOf i).toNat)
      case atStart => exact ⟨0, Nat.zero_le _, rfl, rfl, hb⟩
      case round =>
        clear P3 hb
        obtain ⟨j, hj, rfl, rfl, hb⟩ := hrel
        by_cases hlt : j < x.hi.length
        · obtain ⟨bb, oo, cs, l, heq, hbl2, hr, _, _, hc⟩ := (L2.out.below hb).sls_at Aff.d_size (k := j) hlt
          obtain ⟨rfl, rfl⟩ : bv = bb ∧ ov = oo := by simpa using heq
          have G := Lib.hid hr
          obtain ⟨A3, c3, d3, rfl, rfl, g3, g4⟩ := Rep.aff_iff2.1 hr
          have k0 := (hc 0 _ rfl).1; rw [Nat.add_zero] at k0
          have k1 := (hc 1 _ rfl).1
          clear hc hr g3 g4 heq
          have E3 := Lib.hid (evAt_eq (pt := pt) hlt)
          have HM := Lib.hid (mnTo_min x.hi pt j)
          go_wp2_with fail
          refine (eval_d (G.out.below bel) (HP.out.below (below_tr hb bel)) (HBD.out.hi _ (List.getElem_mem hlt))).mono ?_
          rintro e w4 ⟨rfl, b4⟩
          rw [E3.out]
          have S4 : Below w.heap.size w w4 := below_tr (below_tr hb bel) b4
          clear b4 k0 k1 G
          go_wp2
          go_roundw
          case rel => exact ⟨j + 1, by omega, by go_num, int_eq (by first | rfl | exact HM.out), S4⟩
          case measure => simp [intOf]; omega
        · have hjj : j = x.hi.length := by omega
          subst hjj
          have HHI := Lib.hid (show mnTo x.hi pt x.hi.length = hiF x pt from rfl)
          rw [HHI.out]
          go_wp2
          go_ret2
          exact ⟨rfl, hb⟩
end
end Go.Proofs.YtbhniobgaoncaaaGreatDoor
