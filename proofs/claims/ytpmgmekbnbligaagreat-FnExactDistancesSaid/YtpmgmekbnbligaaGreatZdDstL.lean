/- Distances of the reference. -/
import Derived.Test.YtpmgmekbnbligaaGreatZdDstA
set_option linter.all false
set_option linter.unusedSimpArgs false
set_option linter.unusedVariables false
namespace Go.Proofs.YtpmgmekbnbligaaGreat
open Go.ChangeShapes Go.WideShapes Go.ChangeAt Go.RowKit Go.Deep

theorem rowNew (w : World) (l : List Value) (t : TypeId) : Row (w.alloc (.cells l.toArray t)) w.heap.size t l := by unfold Row; rw [heap_alloc_new]
theorem InOk.pts {p : Pgm} {x : In} (h : InOk p x) (hv : progOk p = true) : (∀ i, -1000000 ≤ gi x.point i ∧ gi x.point i ≤ 1000000) ∧ x.point.length = (prtF p x.part).nest.length ∧ x.point.length ≤ 4 := by
  have hq := h.q
  obtain ⟨k, s, _, _, hk, hs, e1, e2⟩ := h.get
  have hp := progOk_part hv _ (List.getElem_mem hk)
  rw [← e1] at hp
  simp only [partOk, bodyOk, Bool.and_eq_true, List.all_eq_true, ptFine] at hp
  have hnf := npF_ok hp.1
  obtain ⟨hb, hl, h4⟩ := pts_ok hnf.1 _ hq
  refine ⟨fun i => ?_, hl, h4⟩
  rcases Nat.lt_or_ge i x.point.length with hi | hi
  · have := hb i hi
    have h3 : (10 : Int) ^ i ≤ 1000 := by
      have : i = 0 ∨ i = 1 ∨ i = 2 ∨ i = 3 := by omega
      rcases this with rfl | rfl | rfl | rfl <;> decide
    omega
  · have : gi x.point i = 0 := by unfold gi; rw [List.getD_eq_getElem?_getD, List.getElem?_eq_none hi]; rfl
    omega
/-- what the law's result is -/
theorem GrowT.madeS {w w' : World} {B : Nat} {e : TypeId} {v : Value} {T : List Tri} {L : List (List Int)} (h : GrowT w' B e v T) (hx : T.map Tri.x = L) (hB : w.heap.size ≤ B) (hb : Below w.heap.size w w') : MadeS w (sls ints L) (.returned v) w' := by
  obtain ⟨A, c, bs, rfl, hr, hn, hg⟩ := h.rep
  rw [hx] at hr
  exact ⟨A, _, c, bs, rfl, hr, hn, fun y hy => Nat.le_trans hB (hg y hy), hb⟩
theorem DpOk.two {p : Pgm} {d : Dp} (dp : DpOk (usesF p) d) : ∃ a b : Nat, d.from_ = (a : Int) ∧ d.to_ = (b : Int) ∧ a < (instsF p).length ∧ b < (instsF p).length := by
  obtain ⟨a, hfa⟩ := Int.eq_ofNat_of_zero_le dp.f0
  obtain ⟨b, htb⟩ := Int.eq_ofNat_of_zero_le (show 0 ≤ d.to_ by have := dp.ft; have := dp.f0; omega)
  have ul : (usesF p).length = (instsF p).length := usesF_len p
  have h1 := dp.t1
  have h2 := dp.ft
  exact ⟨a, b, hfa, htb, by omega, by omega⟩
theorem difO_at {p : Pgm} {k : Int} {d : Dp} {a b : Nat} (ha : d.from_ = (a : Int)) (hb : d.to_ = (b : Int)) (hal : a < (instsF p).length) (hbl : b < (instsF p).length) : difO p k d = if (instsF p)[a].part = k ∧ (instsF p)[b].part = k then some (minusL (instsF p)[b].point (instsF p)[a].point) else none := by
  unfold difO
  rw [ha, hb, nthP_eq hal, nthP_eq hbl]
theorem putL_len (d : List Int) : ∀ l : List (List Int), (putL d l).length = l.length + 1
  | [] => rfl
  | x :: l => by
    unfold putL
    split
    · simp
    · simp [putL_len d l]
theorem addL_len (l : List (List Int)) (d : List Int) : (addL l d).length ≤ l.length + 1 := by
  unfold addL
  split
  · omega
  · rw [putL_len]; exact Nat.le_refl _
set_option maxRecDepth 100000 in
set_option maxHeartbeats 8000000 in
theorem l6Distances_c {w : World} {p : Pgm} {cs : List Value} {bs : List Nat} {k : Int} (h : Rep w p.d cs bs) (hv : progOk p = true) :
    Calls Tryz.prog 33 #[.agg cs.toArray, .int .i64 k] w (MadeS w (sls ints (distL (diffs p k (depsF (usesF p)))))) := by
  have HV := Lib.hid hv
  have HP := Lib.hid h
  obtain ⟨A1, c1, A2, c2, d1, d2, rfl, rfl, g1, g2⟩ := Rep.pgm_iff.1 h
  have Garrays := Lib.hid g1
  have Gparts := Lib.hid g2
  clear h g1 g2
  have HG0 := Lib.hid (GrowT.made (w.alloc (.cells #[.slice A1 p.arrays.length c1, .slice A2 p.parts.length c2] 32)) (g := w.heap.size + 1) (B := w.heap.size) 27 (by simp) (by omega))
  have hln : (instsF p).length ≤ 120 := (progOk_all hv).2.2
  clear hv
  go_enter Tryz.func33, Tryz.ntmps33
  go_wp2_with fail
  refine (l4Instances_c (HP.out.below bel) HV.out).mono ?_
  rintro e w3 ⟨A3, n3, c3, bs3, rfl, r3, -, -, b3⟩
  obtain ⟨rfl, -, -⟩ := r3.sls_len
  have HP0 := Lib.hid ((Box2.new w (.slice A1 p.arrays.length c1) (.slice A2 p.parts.length c2) 32).to (below_tr (below_al (Below.refl _ _) _) b3))
  have S3 : Below w.heap.size w w3 := bel
  have HG3 := Lib.hid (HG0.out.below b3)
  have L3 := Lib.hid r3
  clear b3 r3 HG0
  obtain ⟨p0, p1⟩ := HP0.out
  have ltp := lt_of_cell p0
  go_wp2_with fail
  refine (l6Deps_c (HP.out.below S3) HV.out).mono ?_
  rintro e w4 ⟨A4, c4, bs4, rfl, r4, -, -, b4⟩
  have S4 := below_tr S3 b4
  have HG4 := Lib.hid (HG3.out.below b4)
  have L4 := Lib.hid (L3.out.below b4)
  have hds4 : (depsF (usesF p)).length ≤ 14400 := by
    have h3 := depsN_len (us := usesF p) (n := (usesF p).length) (Nat.le_refl _)
    have h4 : (usesF p).length ≤ 120 := by rw [usesF_len]; exact hln
    have h5 := Nat.mul_le_mul h4 h4
    unfold depsF; omega
  obtain ⟨ds, hds⟩ : ∃ ds, ds = depsF (usesF p) := ⟨_, rfl⟩
  rw [← hds] at r4 hds4 ⊢
  have HM := Lib.hid (show ∀ d ∈ ds, DpOk (usesF p) d from fun d hd => depsF_mem d (by rw [← hds]; exact hd))
  have D4 := Lib.hid r4
  have HDS := Lib.hid hds
  clear p0 p1 ltp b4 r4 hds HG3 L3 HP0
  go_wp2
  go_loopw [5, 8] (fun u i wr => ∃ (j : Nat) (T : List Tri), j ≤ ds.length ∧ i = .int .i64 j ∧ Hid (T.map Tri.x = distL (diffs p k (ds.take j)) ∧ T.length ≤ j) ∧ Hid (GrowT wr w.heap.size 27 u T) ∧ Below w4.heap.size w4 wr) (fun _ i _ => ds.length - (intOf i).toNat)
  case atStart => exact ⟨0, [], Nat.zero_le _, rfl, Lib.hid ⟨rfl, Nat.le_refl _⟩, HG4, Below.refl _ _⟩
  case round =>
    obtain ⟨j, T, hj, rfl, HX, HG, hb⟩ := hrel
    clear HG4
    have HB := Lib.hid hb
    by_cases hlt : j < ds.length
    case neg =>
      have hjj : ds.take j = ds := List.take_of_length_le (by omega)
      have HJ := Lib.hid hjj
      go_wp2
      go_ret
      have hx := HX.out.1
      rw [HJ.out, HDS.out] at hx
      exact HG.out.madeS hx (Nat.le_refl _) (below_tr S4 hb)
    obtain ⟨a, b, hfa, htb, hal, hbl⟩ := (HM.out ds[j] (List.getElem_mem hlt)).two
    have HIT := Lib.hid (difO_at (k := k) hfa htb hal hbl)
    have oka := Lib.hid (InOk.of_mem (List.getElem_mem hal))
    have okb := Lib.hid (InOk.of_mem (List.getElem_mem hbl))
    obtain ⟨bd, od, csd, ld, rfl, hbld, hrd, _, _, hcd⟩ := (D4.out.below hb).sls_at Dp.d_size (k := j) hlt
    have Gd := Lib.hid hrd
    obtain ⟨rfl, rfl, g1d, g2d, g3d⟩ := Rep.dp_iff.1 hrd
    have k0d := (hcd 0 _ rfl).1; rw [Nat.add_zero] at k0d
    have k1d := (hcd 1 _ rfl).1
    have k2d := (hcd 2 _ rfl).1
    have Q1d := Lib.hid g1d
    have Q2d := Lib.hid g2d
    have Q3d := Lib.hid g3d
    clear hcd hrd g1d g2d g3d
    rw [hfa] at k0d
    rw [htb] at k1d
    obtain ⟨bx, ox, csx, lx, rfl, hblx, hrx, _, _, hcx⟩ := (L4.out.below hb).sls_at In.d_size (k := a) hal
    have Gx := Lib.hid hrx
    obtain ⟨A3x, c3x, d3x, rfl, rfl, g1x, g2x, g3x⟩ := Rep.in_iff.1 hrx
    have k0x := (hcx 0 _ rfl).1; rw [Nat.add_zero] at k0x
    have k1x := (hcx 1 _ rfl).1
    have k2x := (hcx 2 _ rfl).1
    have Q1x := Lib.hid g1x
    have Q2x := Lib.hid g2x
    have Q3x := Lib.hid g3x
    clear hcx hrx g1x g2x g3x
    obtain ⟨bz, oz, csz, lz, heqz, hblz, hrz, _, _, hcz⟩ := (L4.out.below hb).sls_at In.d_size (k := b) hbl
    obtain ⟨rfl, rfl⟩ : bx = bz ∧ ox = oz := by simpa using heqz
    have Gz := Lib.hid hrz
    obtain ⟨A3z, c3z, d3z, rfl, rfl, g1z, g2z, g3z⟩ := Rep.in_iff.1 hrz
    have k0z := (hcz 0 _ rfl).1; rw [Nat.add_zero] at k0z
    have k1z := (hcz 1 _ rfl).1
    have k2z := (hcz 2 _ rfl).1
    have Q1z := Lib.hid g1z
    have Q2z := Lib.hid g2z
    have Q3z := Lib.hid g3z
    clear hcz hrz g1z g2z g3z
    clear hfa htb
    obtain ⟨ia, hia⟩ : ∃ ia, ia = (instsF p)[a] := ⟨_, rfl⟩
    obtain ⟨iz, hiz⟩ : ∃ iz, iz = (instsF p)[b] := ⟨_, rfl⟩
    rw [← hia, ← hiz] at HIT
    rw [← hia] at k0x k1x k2x oka Q3x
    rw [← hiz] at k0z k1z k2z okb Q3z
    clear hia hiz
    obtain ⟨lx, hlx⟩ : ∃ l, l = ia.point.length := ⟨_, rfl⟩
    obtain ⟨lz, hlz⟩ : ∃ l, l = iz.point.length := ⟨_, rfl⟩
    have HLX := Lib.hid hlx
    have HLZ := Lib.hid hlz
    rw [← hlx] at k2x Q3x
    rw [← hlz] at k2z Q3z
    clear Q1d Q2d Q3d Gd Q1x Q2x Gx Q1z Q2z Gz hlx hlz k2d
    go_upto_region 9 with (fail)
    obtain ⟨W2, hW2⟩ : ∃ W2, W2 = (wr.alloc (.cells #[.int .i64 ia.part, .int .i64 ia.stmt, .slice A3x lx c3x] 91)).alloc (.cells #[.int .i64 iz.part, .int .i64 iz.stmt, .slice A3z lz c3z] 91) := ⟨_, rfl⟩
    have bw : Below wr.heap.size wr W2 := by rw [hW2]; exact below_al (below_al (Below.refl _ _) _) _
    have row1 : Row W2 wr.heap.size 91 [.int .i64 ia.part, .int .i64 ia.stmt, .slice A3x lx c3x] := by
      rw [hW2]
      exact (rowNew wr [.int .i64 ia.part, .int .i64 ia.stmt, .slice A3x lx c3x] 91).to (below_al (Below.refl _ _) _)
    have row2 : Row W2 (wr.heap.size + 1) 91 [.int .i64 iz.part, .int .i64 iz.stmt, .slice A3z lz c3z] := by
      rw [hW2]
      have h := rowNew (wr.alloc (.cells #[.int .i64 ia.part, .int .i64 ia.stmt, .slice A3x lx c3x] 91)) [.int .i64 iz.part, .int .i64 iz.stmt, .slice A3z lz c3z] 91
      rwa [show (wr.alloc (.cells #[.int .i64 ia.part, .int .i64 ia.stmt, .slice A3x lx c3x] 91)).heap.size = wr.heap.size + 1 by simp] at h
    rw [← hW2]
    clear hW2
    have a0 := row1.cell 0
    have a2 := row1.cell 2
    have y0 := row2.cell 0
    have y2 := row2.cell 2
    have la := row1.lt
    have lc := row2.lt
    simp only [List.getElem?_cons_zero, List.getElem?_cons_succ] at a0 a2 y0 y2
    have B2 := Lib.hid (below_tr hb bw)
    have BW := Lib.hid bw
    clear row1 row2 k0d k1d k0x k1x k2x k0z k1z k2z hb bw
    by_cases d1 : ia.part = k
    case neg =>
      have q1 : (ia.part == k) = false := ieq_f d1
      have HN := Lib.hid (diffs_n hlt (HIT.out.trans (if_neg fun h => d1 h.1)))
      clear d1
      go_wp2
      go_roundw
      case rel => exact ⟨j + 1, T, hlt, by go_num, Lib.hid ⟨by rw [HN.out]; exact HX.out.1, Nat.le_succ_of_le HX.out.2⟩, Lib.hid (HG.out.below BW.out), B2.out⟩
      case measure => (simp [intOf]; omega)
    have q1 : (ia.part == k) = true := ieq_t d1
    by_cases d2 : iz.part = k
    case neg =>
      have q2 : (iz.part == k) = false := ieq_f d2
      have HN := Lib.hid (diffs_n hlt (HIT.out.trans (if_neg fun h => d2 h.2)))
      clear d1 d2
      go_wp2
      go_roundw
      case rel => exact ⟨j + 1, T, hlt, by go_num, Lib.hid ⟨by rw [HN.out]; exact HX.out.1, Nat.le_succ_of_le HX.out.2⟩, Lib.hid (HG.out.below BW.out), B2.out⟩
      case measure => (simp [intOf]; omega)
    have q2 : (iz.part == k) = true := ieq_t d2
    have HN := Lib.hid (diffs_y hlt (HIT.out.trans (if_pos ⟨d1, d2⟩)))
    have pa := oka.out.pts HV.out
    have pz := okb.out.pts HV.out
    have hle : iz.point.length ≤ ia.point.length := by rw [pz.2.1, pa.2.1, d1, d2]; exact Nat.le_refl _
    have HMN := Lib.hid (l6Minus_c (Q3z.out.below BW.out) (Q3x.out.below BW.out) hle (by omega) (fun i => ⟨pz.1 i, pa.1 i⟩))
    clear d1 d2 pa pz hle
    go_wp2_with fail
    refine HMN.out.mono ?_
    rintro e w6 ⟨A6, n6, c6, bs6, rfl, r6, nd6, hb6, b6⟩
    have HD6 := Lib.hid (show Tri.ok w6 ⟨minusL iz.point ia.point, .slice A6 n6 c6, bs6⟩ from r6)
    have B6 := Lib.hid (below_tr B2.out b6)
    have G6 := Lib.hid ((HG.out.below BW.out).below b6)
    have hge6 : ∀ y ∈ bs6, wr.heap.size ≤ y := fun y hy => Nat.le_trans BW.out.size (hb6 y hy)
    have hWz : w.heap.size ≤ wr.heap.size := Nat.le_trans S4.size HB.out.size
    have ND6 := Lib.hid (show (ownL u5 ++ (TriB T ++ bs6)).Nodup from by
      rw [← List.append_assoc]
      refine List.nodup_append.2 ⟨HG.out.nd, nd6, fun y hy z hz e => ?_⟩
      subst e
      have h1 := hge6 y hz
      rcases List.mem_append.1 hy with hy | hy
      · have := (HG.out.own_ge y (mem_ownL.1 hy)).2; omega
      · have := HG.out.lt y hy; omega)
    have HAD := Lib.hid (l6Add_c (d := ⟨minusL iz.point ia.point, .slice A6 n6 c6, bs6⟩) G6.out HD6.out ND6.out (fun y hy => Nat.le_trans hWz (hge6 y hy)) (Nat.le_trans S4.size B6.out.size) (by have := HX.out.2; omega))
    clear r6 nd6 hb6 b6 hge6 HMN
    go_wp2_with fail
    refine HAD.out.mono ?_
    rintro e w7 ⟨v7, T7, rfl, hx7, g7, b7⟩
    have HX7 := Lib.hid (show T7.map Tri.x = distL (diffs p k (ds.take (j + 1))) by rw [hx7, HN.out, distL_put, HX.out.1])
    have HL7 := Lib.hid (show T7.length ≤ j + 1 by
      have h1 := congrArg List.length hx7
      rw [List.length_map, HX.out.1] at h1
      have h2 := addL_len (distL (diffs p k (ds.take j))) (minusL iz.point ia.point)
      have h3 := congrArg List.length HX.out.1
      rw [List.length_map] at h3
      have := HX.out.2
      omega)
    have G7 := Lib.hid g7
    have B7 := Lib.hid (below_tr B6.out b7)
    clear hx7 g7 b7
    go_wp2
    go_roundw
    case rel => exact ⟨j + 1, T7, hlt, by go_num, Lib.hid ⟨HX7.out, HL7.out⟩, G7, B7.out⟩
    case measure => (simp [intOf]; omega)
theorem specDistances_k {w : World} {p : Pgm} {cs : List Value} {bs : List Nat} {k : Int} (h : Rep w p.d cs bs) :
    Calls Tryz.prog 14 #[.agg cs.toArray, .int .i64 k] w (MadeS w (sls ints (DistancesF p k))) := by
  have HP := Lib.hid h
  obtain ⟨A1, c1, A2, c2, d1, d2, rfl, rfl, g1, g2⟩ := Rep.pgm_iff.1 h
  have Garrays := Lib.hid g1
  have Gparts := Lib.hid g2
  clear h g1 g2
  go_enter Tryz.func14, Tryz.ntmps14
  go_wp2_with fail
  refine (specProgramValid_c (HP.out.below bel)).mono ?_
  rintro e w1 ⟨rfl, b1⟩
  have P1 : Box2 w1 w.heap.size (.slice A1 p.arrays.length c1) (.slice A2 p.parts.length c2) := by
    refine ⟨?_, ?_⟩ <;> (rw [b1.cell (by simp [World.setCell]; try omega)]; go_simp)
  have S1 : Below w.heap.size w w1 := bel
  clear b1
  cases hv : progOk p with
  | false =>
    have HE := Lib.hid (dst_n (k := k) hv)
    clear hv
    go_wp2
    go_ret
    rw [HE.out]
    exact (GrowT.made w1 (B := w.heap.size) 27 rfl S1.size).madeS rfl (Nat.le_refl _) (S1.alloc S1.size _)
  | true =>
    have HE := Lib.hid (dst_y (k := k) hv)
    have HV := Lib.hid hv
    clear hv
    go_wp2_with fail
    refine (l6Distances_c (HP.out.below S1) HV.out).mono ?_
    rintro e w2 ⟨A2, n2, c2, bs2, rfl, r2, nd2, hb2, b2⟩
    go_wp2
    go_ret
    rw [HE.out]
    exact ⟨A2, n2, c2, bs2, rfl, r2, nd2, fun y hy => Nat.le_trans S1.size (hb2 y hy), below_tr S1 b2⟩
end Go.Proofs.YtpmgmekbnbligaaGreat
