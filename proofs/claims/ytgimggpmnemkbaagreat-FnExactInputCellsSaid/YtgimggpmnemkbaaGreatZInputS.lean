/- Cells that are read before they are written, on the reference's side: InputCells. -/
import Derived.Test.YtgimggpmnemkbaaGreatZInput
set_option linter.all false
set_option linter.unusedSimpArgs false
set_option linter.unusedVariables false
namespace Go.Proofs.YtgimggpmnemkbaaGreat
open Go.ChangeShapes Go.WideShapes Go.ChangeAt Go.RowKit Go.Deep

set_option maxRecDepth 100000 in
set_option maxHeartbeats 8000000 in
theorem specInputCells_c {w : World} {p : Pgm} {cs : List Value} {bs : List Nat} (h : Rep w p.d cs bs) :
    Calls Tryz.prog 48 #[.agg cs.toArray] w (MadeInts w (InputF p)) := by
  have HP := Lib.hid h
  obtain ⟨A1, c1, A2, c2, d1, d2, rfl, rfl, g1, g2⟩ := Rep.pgm_iff.1 h
  have Garrays := Lib.hid g1
  have Gparts := Lib.hid g2
  clear h g1 g2
  go_enter Tryz.func48, Tryz.ntmps48
  go_wp2_with fail
  refine (specProgramValid_c (HP.out.below bel)).mono ?_
  rintro e w1 ⟨rfl, b1⟩
  have P1 : Box2 w1 w.heap.size (.slice A1 p.arrays.length c1) (.slice A2 p.parts.length c2) := by
    refine ⟨?_, ?_⟩ <;> (rw [b1.cell (by simp [World.setCell]; try omega)]; go_simp)
  have S1 : Below w.heap.size w w1 := bel
  clear b1
  cases hv : progOk p with
  | false =>
    have HE := Lib.hid (InputF_n hv); clear hv
    go_wp2
    go_ret
    rw [HE.out]
    exact MadeInts.made S1 _
  | true =>
    have HE := Lib.hid (InputF_y hv)
    have hln := (progOk_all hv).2.2
    have hok := progOk_arr hv
    have HV := Lib.hid hv; clear hv
    have hcb := cellsF_bd hok
    have HOK := Lib.hid hok; clear hok
    obtain ⟨m, hm⟩ : ∃ m, m = (cellsF p.arrays).toNat := ⟨_, rfl⟩
    have hmc : cellsF p.arrays = (m : Int) := by omega
    have HM := Lib.hid hm; clear hm
    have HMC := Lib.hid hmc
    have hmb : m ≤ 144 := by omega
    clear hmc hcb
    have hmk := fun W => run_make_row' (P := Tryz.prog) 110 4 (.bool false) 1 Tryz.underlying110 Tryz.infoBool rfl .i64 .i64 m (by omega) (by omega) W
    have ul := Lib.hid (usesF_len p)
    go_wp2_with fail
    refine (l4Total_c (HP.out.below bel) HOK.out).mono ?_
    rintro e w2 ⟨rfl, b2⟩
    have s2 : Below w1.heap.size w1 w2 := bel
    have P2 := P1.to s2; clear P1
    have S2 : Below w.heap.size w w2 := below_tr S1 s2
    clear s2
    clear b2
    rw [HMC.out]
    have hz2 := S2.size
    have lp2 := lt_of_cell P2.1
    go_wp2_with fail
    refine (l4Total_c (HP.out.below (below_tr S2 bel)) HOK.out).mono ?_
    rintro e w3 ⟨rfl, b3⟩
    rw [HMC.out]
    have HR3 := Lib.hid ((World.rowIs_made w2 (.bool false) m 4).of_block (b3.block _ (by simp)))
    have t3 : Below w2.heap.size w2 w3 := bel
    have P3 := P2.to t3
    have S3 : Below w.heap.size w w3 := below_tr S2 t3
    have lp3 := lt_of_cell P3.1
    have hg12 : w2.heap.size < w3.heap.size := HR3.out.lt
    have hz3 := S3.size
    clear b3 t3 P2
    go_wp2_with fail
    refine (l4Instances_c (HP.out.below (below_tr S3 bel)) HV.out).mono ?_
    rintro e w4 ⟨A3, n3, c3, bs3, rfl, r3, _, hb3, b4⟩
    obtain ⟨rfl, _, _⟩ := r3.sls_len
    have HB3 := Lib.hid (show ∀ y ∈ bs3, w3.heap.size < y from fun y hy => by have := hb3 y hy; simp at this; omega)
    have t4 : Below w3.heap.size w3 w4 := bel
    have HR4 := Lib.hid (row_below HR3.out t4)
    have HR5 := Lib.hid ((World.rowIs_made w3 (.bool false) m 4).of_block (b4.block _ (by simp)))
    have P4 := P3.to t4
    have S4 : Below w.heap.size w w4 := below_tr S3 t4
    have R4 := Lib.hid r3; clear r3 hb3 b4 t4 hmk P3 HR3
    have hz4 := S4.size
    have hn1 : w.heap.size ∉ [w2.heap.size, w3.heap.size] := by simp; omega
    have hlp4 := lt_of_cell P4.1
    go_wp2
    go_loopw [6] (fun i wr => ∃ j : Nat, j ≤ (instsF p).length ∧ i = .int .i64 j ∧ wr.rowIs w3.heap.size 4 m (fun k => .bool (wrB (usesF p) j k)) ∧ wr.rowIs w2.heap.size 4 m (fun k => .bool (inpB (usesF p) j k)) ∧ Touch [w2.heap.size, w3.heap.size] w4 wr) (fun i _ => (instsF p).length - (intOf i).toNat)
    case atStart => exact ⟨0, Nat.zero_le _, rfl, HR5.out.congr (fun k hk => by simp [wrB]), HR4.out.congr (fun k hk => by simp [inpB]), Touch.refl _ _⟩
    case round =>
      obtain ⟨j, hj, rfl, hrow, hrow2, ht⟩ := hrel
      have HROW := Lib.hid hrow; clear hrow
      have HROW2 := Lib.hid hrow2; clear hrow2
      have Sr : Below w.heap.size w wr := S4.trans (ht.below hz4 (by simp; omega))
      have Pr := ht.box2 P4 hn1
      have lp := lt_of_cell Pr.1
      by_cases hlt : j < (instsF p).length
      case neg =>
        have hjj : j = (instsF p).length := by omega
        subst hjj
        have HR := Lib.hid (show wr.rowIs w2.heap.size 4 m (fun k => .bool (inpB (usesF p) (usesF p).length k)) by rw [ul.out]; exact HROW2.out)
        go_wp2_with fail
        refine (l5Flagged_c HR.out (by omega)).mono ?_
        rintro e w5 h4
        obtain ⟨A4, n4, c4, bs4, rfl, h5⟩ := h4.low Sr
        go_wp2
        go_ret
        rw [HE.out, ← HM.out]
        exact ⟨A4, n4, c4, bs4, rfl, h5⟩
      have hin := InOk.of_mem (List.getElem_mem hlt)
      have hfi := hin.fine HV.out
      have HUJ := Lib.hid (usesF_get' hlt)
      have hnu : nthU (usesF p) j = useF p (instsF p)[j] := by rw [nthU_eq (usesF_at hlt), HUJ.out]
      obtain ⟨⟨kw, hkw, hkm⟩, hrd⟩ := use_cells HV.out hin
      rw [← hnu] at hkw hrd
      rw [← HM.out] at hkm
      have HRD := Lib.hid hrd
      have HST := Lib.hid (fun k => wrB_set (usesF_at hlt) hkw k)
      obtain ⟨k, s, hpk, hss, hk, hs, e1, e2⟩ := hin.get
      have HCF := Lib.hid (show CellsF p.arrays (instsF p)[j].point p.parts[k].body[s] = ((nthU (usesF p) j).reads, (kw : Int), true) by
        rw [← e2, CellsF_fine hfi.fine, ← hkw, hnu]; rfl)
      have HSV := Lib.hid (show StmtValidF p.parts[k].body[s] ((prtF p (instsF p)[j].part).nest.length : Int) = true by rw [← e2]; exact hfi.stm)
      have HPT := Lib.hid hfi.pt
      obtain ⟨RD, hRD⟩ : ∃ RD, RD = (nthU (usesF p) j).reads := ⟨_, rfl⟩
      rw [← hRD] at HCF
      have HRDE := Lib.hid hRD
      clear hin hfi e1 e2 hkw hrd hnu hRD
      have RR := Lib.hid (Rep.keep _ R4.out (ht.keeps fun y hy => ⟨Rep.lt _ R4.out y hy, by have := HB3.out y hy; simp; omega⟩))
      have GPr := Lib.hid (Gparts.out.below Sr)
      have GAr := Lib.hid (Garrays.out.below Sr)
      obtain ⟨be, oe, cse, le, rfl, hble, hre, _, _, hce⟩ := RR.out.sls_at In.d_size (k := j) hlt
      have Ge := Lib.hid hre
      obtain ⟨A3e, c3e, d3e, rfl, rfl, g1e, g2e, g3e⟩ := Rep.in_iff.1 hre
      have k0e := (hce 0 _ rfl).1; rw [Nat.add_zero] at k0e
      have k1e := (hce 1 _ rfl).1
      have k2e := (hce 2 _ rfl).1
      have Q1e := Lib.hid g1e
      have Q2e := Lib.hid g2e
      have Q3e := Lib.hid g3e
      clear hce hre g1e g2e g3e
      rw [hpk] at k0e
      rw [hss] at k1e
      obtain ⟨bf, of, csf, lf, rfl, hblf, hrf, _, _, hcf⟩ := GPr.out.sls_at Prt.d_size (k := k) hk
      have Gf := Lib.hid hrf
      obtain ⟨A1f, c1f, A2f, c2f, d1f, d2f, rfl, rfl, g1f, g2f⟩ := Rep.prt_iff.1 hrf
      have k0f := (hcf 0 _ rfl).1; rw [Nat.add_zero] at k0f
      have k1f := (hcf 1 _ rfl).1
      have Q1f := Lib.hid g1f
      have Q2f := Lib.hid g2f
      clear hcf hrf g1f g2f
      obtain ⟨bg, og, csg, lg, rfl, hblg, hrg, _, _, hcg⟩ := Q2f.out.sls_at Stm.d_size (k := s) hs
      have Gg := Lib.hid hrg
      obtain ⟨A2g, c2g, A5g, c5g, A8g, c8g, A9g, c9g, d2g, d5g, d8g, d9g, rfl, rfl, g1g, g2g, g3g, g4g, g5g, g6g, g7g, g8g, g9g⟩ := Rep.stm_iff.1 hrg
      have k0g := (hcg 0 _ rfl).1; rw [Nat.add_zero] at k0g
      have k1g := (hcg 1 _ rfl).1
      have k2g := (hcg 2 _ rfl).1
      have k3g := (hcg 3 _ rfl).1
      have k4g := (hcg 4 _ rfl).1
      have k5g := (hcg 5 _ rfl).1
      have k6g := (hcg 6 _ rfl).1
      have k7g := (hcg 7 _ rfl).1
      have k8g := (hcg 8 _ rfl).1
      have Q1g := Lib.hid g1g
      have Q2g := Lib.hid g2g
      have Q3g := Lib.hid g3g
      have Q4g := Lib.hid g4g
      have Q5g := Lib.hid g5g
      have Q6g := Lib.hid g6g
      have Q7g := Lib.hid g7g
      have Q8g := Lib.hid g8g
      have Q9g := Lib.hid g9g
      clear hcg hrg g1g g2g g3g g4g g5g g6g g7g g8g g9g
      clear hpk hss
      go_wp2_with fail
      refine wp_region_noPanic ?_
      refine wp_region_held_drew (S := fun w' => w'.cell? ⟨w.heap.size, 0, none⟩ = some (.slice A1 p.arrays.length c1) ∧ w'.cell? ⟨w.heap.size, 1, none⟩ = some (.slice (some ⟨bf, of, none⟩) p.parts.length c2) ∧ w'.cell? ⟨be, oe + j * 3, none⟩ = some (.int .i64 (k : Int)) ∧ w'.cell? ⟨be, oe + j * 3 + 1, none⟩ = some (.int .i64 (s : Int)) ∧ w'.cell? ⟨be, oe + j * 3 + 2, none⟩ = some (.slice A3e (instsF p)[j].point.length c3e) ∧ w'.cell? ⟨bf, of + k * 2 + 1, none⟩ = some (.slice (some ⟨bg, og, none⟩) p.parts[k].body.length c2f) ∧ w'.cell? ⟨bg, og + s * 9, none⟩ = some (.string p.parts[k].body[s].write.arr) ∧ w'.cell? ⟨bg, og + s * 9 + 1, none⟩ = some (.slice A2g p.parts[k].body[s].write.subs.length c2g) ∧ w'.cell? ⟨bg, og + s * 9 + 2, none⟩ = some (.int .i64 p.parts[k].body[s].value.kind) ∧ w'.cell? ⟨bg, og + s * 9 + 3, none⟩ = some (.int .i64 p.parts[k].body[s].value.num) ∧ w'.cell? ⟨bg, og + s * 9 + 4, none⟩ = some (.slice A5g p.parts[k].body[s].value.index.coefs.length c5g) ∧ w'.cell? ⟨bg, og + s * 9 + 5, none⟩ = some (.int .i64 p.parts[k].body[s].value.index.const) ∧ w'.cell? ⟨bg, og + s * 9 + 6, none⟩ = some (.string p.parts[k].body[s].value.read.arr) ∧ w'.cell? ⟨bg, og + s * 9 + 7, none⟩ = some (.slice A8g p.parts[k].body[s].value.read.subs.length c8g) ∧ w'.cell? ⟨bg, og + s * 9 + 8, none⟩ = some (.slice A9g p.parts[k].body[s].value.kids.length c9g)) (by kernel_rfl) (⟨Pr.1, Pr.2, k0e, k1e, k2e, k1f, k0g, k1g, k2g, k3g, k4g, k5g, k6g, k7g, k8g⟩) (fun hHeld => ?_)
      refine goR 0 hHeld ?_
      refine goR 1 hHeld ?_
      refine goR 2 hHeld ?_
      refine goR 3 hHeld ?_
      refine goR 4 hHeld ?_
      refine goR 5 hHeld ?_
      refine goR 6 hHeld ?_
      refine goR 7 hHeld ?_
      refine goR 8 hHeld ?_
      refine goR 9 hHeld ?_
      refine goR 10 hHeld ?_
      refine goR 11 hHeld ?_
      refine goR 12 hHeld ?_
      refine goR 13 hHeld ?_
      refine goR 14 hHeld ?_
      refine goR 15 hHeld ?_
      refine goR 16 hHeld ?_
      refine goR 17 hHeld ?_
      refine goR 18 hHeld ?_
      refine goR 19 hHeld ?_
      refine goR 20 hHeld ?_
      refine goR 21 hHeld ?_
      refine goR 22 hHeld ?_
      refine goR 23 hHeld ?_
      refine stepR (i := 24) rfl (by kernel_rfl) (wanted_none rfl) (fun K hK => ?_)
      go_simp
      (refine (l4Cells_c (GAr.out.drewN 1) (Gg.out.drewN 1) (Q3e.out.drewN 1) HOK.out HSV.out HPT.out).mono ?_; rintro e w9 ⟨A6, n6, c6, bs6, rfl, r6, nd6, hb6, b9⟩; rw [HCF.out] at r6 ⊢)
      go_wp2_with fail
      refine hK.out _ _ (by obtain ⟨q0_, q1_, q2_, q3_, q4_, q5_, q6_, q7_, q8_, q9_, q10_, q11_, q12_, q13_, q14_⟩ := hHeld; exact ⟨cell_toC q0_ b9, cell_toC q1_ b9, cell_toC q2_ b9, cell_toC q3_ b9, cell_toC q4_ b9, cell_toC q5_ b9, cell_toC q6_ b9, cell_toC q7_ b9, cell_toC q8_ b9, cell_toC q9_ b9, cell_toC q10_ b9, cell_toC q11_ b9, cell_toC q12_ b9, cell_toC q13_ b9, cell_toC q14_ b9⟩) (fun hHeld => ?_)
      clear hK K
      try simp only [Act.put, List.setIfInBounds_toArray, List.set_cons_zero, List.set_cons_succ]
      refine goR 25 hHeld ?_
      refine goR 26 hHeld ?_
      refine goR 27 hHeld ?_
      refine goR 28 hHeld ?_
      refine goR 29 hHeld ?_
      refine goR 30 hHeld ?_
      refine goR 31 hHeld ?_
      refine wpAnyH_done (by kernel_rfl) ?_ _
      refine NoPanic.normal ?_
      have T2 : Below wr.heap.size wr w9 := of_drew b9
      obtain ⟨rfl, _, _⟩ := r6.ints_len
      have HB6 := Lib.hid (show ∀ y ∈ bs6, wr.heap.size ≤ y from fun y hy => hb6 y hy)
      have hrn : RD.length ≤ 9223372036854775807 := Nat.le_trans r6.ints_len.2.1 r6.ints_len.2.2
      have R6 := Lib.hid r6
      have HW9 := Lib.hid (row_below HROW.out T2)
      have HI9 := Lib.hid (row_below HROW2.out T2)
      have hl1 := HROW.out.lt
      have hl2 := HROW2.out.lt
      have TT9 := Lib.hid (ht.trans (Touch.of_below T2))
      clear r6 hb6 b9
      have hne : w3.heap.size ≠ w2.heap.size := by omega
      go_wp2
      go_loopw [10] (fun i wv => ∃ t : Nat, t ≤ RD.length ∧ i = .int .i64 t ∧ wv.rowIs w2.heap.size 4 m (fun k => .bool (inpR (usesF p) j t k)) ∧ Touch [w2.heap.size] w9 wv) (fun i _ => RD.length - (intOf i).toNat)
      case atStart => exact ⟨0, Nat.zero_le _, rfl, HI9.out.congr (fun k hk => by rw [inpR_0]), Touch.refl _ _⟩
      case round =>
        obtain ⟨t, ht2, rfl, hrow, htt⟩ := hrel
        have HROWI := Lib.hid hrow; clear hrow
        have HW5 := Lib.hid (HW9.out.of_block (htt.block _ HW9.out.lt (by simpa using hne)))
        by_cases hlt2 : t < RD.length
        case neg =>
          have hjj : t = RD.length := by omega
          subst hjj
          have HI6 := Lib.hid (HROWI.out.congr (g := fun k => .bool (inpB (usesF p) (j + 1) k)) (fun k _ => by rw [HRDE.out, inpR_end]))
          have hck := HW5.out.cell hkm
          have hfz := HW5.out.frozen kw
          have hlg := HW5.out.lt
          have HR3 := Lib.hid ((HW5.out.set kw (.bool true)).congr (g := fun k => .bool (wrB (usesF p) (j + 1) k)) (fun k _ => by rw [HST.out k]; by_cases e : k = kw <;> simp [e]))
          go_wp2
          go_roundw
          case rel => exact ⟨j + 1, by omega, by go_num, HR3.out, HI6.out.of_block (Below.heap_setCell _ _ _ _ (by simpa using Ne.symm hne)), (TT9.out.trans (htt.mono (by simp))).setCell (by simp) _⟩
          case measure => simp [intOf]; omega
        obtain ⟨kc, hkc, hkcm⟩ := HRD.out _ (by rw [← HRDE.out]; exact List.getElem_mem hlt2)
        rw [← HM.out] at hkcm
        have R7 := R6.out.keep _ (htt.keeps fun y hy => ⟨Rep.lt _ R6.out y hy, by have := HB6.out y hy; simp; omega⟩)
        obtain ⟨b7, o7, rfl, hbs7, hbl7, hc7, _⟩ := R7.ints_at hlt2
        rw [gi_eq hlt2, hkc] at hc7
        have HIS := Lib.hid (fun k => inpR_set (us := usesF p) (i := j) (t := t) (kc := kc) (by rw [← HRDE.out]; exact hlt2) (by simp only [← HRDE.out]; exact hkc) k)
        have hci := HROWI.out.cell hkcm
        have hfi := HROWI.out.frozen kc
        have hli := HROWI.out.lt
        have hcw := HW5.out.cell hkcm
        have hlw := HW5.out.lt
        have hb7 : b7 ≠ w2.heap.size := by have := HB6.out b7 (by rw [hbs7]; simp); omega
        obtain ⟨bw, hbw2⟩ : ∃ bw, bw = wrB (usesF p) j kc := ⟨_, rfl⟩
        rw [← hbw2] at hcw
        have HBW := Lib.hid hbw2
        clear hkc R7 hbw2 hbs7
        cases hi : inpR (usesF p) j t kc with
        | true =>
          rw [hi] at hci
          have HR3 := Lib.hid ((HROWI.out.set kc (.bool true)).congr (g := fun k => .bool (inpR (usesF p) j (t + 1) k)) (fun k _ => by rw [HIS.out k]; by_cases e : k = kc <;> simp [e, hi]))
          clear hi
          go_wp2_with fail
          refine wp_region_noPanic ?_
          refine wp_region_held_drew (S := fun w' => w'.cell? ⟨b7, o7 + t, none⟩ = some (.int .i64 (kc : Int)) ∧ w'.cell? ⟨w3.heap.size, kc, none⟩ = some (.bool bw)) (by kernel_rfl) (⟨hc7, hcw⟩) (fun hHeld => ?_)
          refine goR 0 hHeld ?_
          refine goR 1 hHeld ?_
          refine goR 2 hHeld ?_
          refine goR 3 hHeld ?_
          refine goR 4 hHeld ?_
          refine goR 5 hHeld ?_
          refine goR 6 hHeld ?_
          refine goR 7 hHeld ?_
          refine goR 8 hHeld ?_
          refine goR 9 hHeld ?_
          refine goR 10 hHeld ?_
          refine stepR (i := 11) rfl (by kernel_rfl) (wanted_none rfl) (fun K hK => ?_)
          (unfold Oper.wp; go_simp)
          refine hK.out _ _ (hHeld) (fun hHeld => ?_)
          clear hK K
          try simp only [Act.put, List.setIfInBounds_toArray, List.set_cons_zero, List.set_cons_succ]
          refine goR 12 hHeld ?_
          refine goS 13 hHeld ?_
          refine goS 14 hHeld ?_
          refine goS 15 hHeld ?_
          refine goS 16 hHeld ?_
          refine goS 17 hHeld ?_
          refine goS 18 hHeld ?_
          refine goS 19 hHeld ?_
          refine goS 20 hHeld ?_
          refine goR 21 hHeld ?_
          refine goR 22 hHeld ?_
          refine stepR (i := 23) rfl (by kernel_rfl) (wanted_none rfl) (fun K hK => ?_)
          (unfold Oper.wp; go_simp)
          refine hK.out _ _ (⟨by obtain ⟨q1, q2⟩ := hHeld; go_simp, by obtain ⟨q1, q2⟩ := hHeld; go_simp⟩) (fun hHeld => ?_)
          clear hK K
          try simp only [Act.put, List.setIfInBounds_toArray, List.set_cons_zero, List.set_cons_succ]
          refine wpAnyH_done (by kernel_rfl) ?_ _
          refine NoPanic.normal ?_
          go_wp2
          go_roundw
          case rel => exact ⟨t + 1, by omega, by go_num, HR3.out.drew, (htt.setCell (p := ⟨w2.heap.size, kc, none⟩) (by simp) _).trans (Touch.of_below (Below.refl _ _).drew)⟩
          case measure => simp [intOf]; omega
        | false =>
          rw [hi] at hci
          have HR3 := Lib.hid ((HROWI.out.set kc (.bool (!bw))).congr (g := fun k => .bool (inpR (usesF p) j (t + 1) k)) (fun k _ => by rw [HIS.out k]; by_cases e : k = kc <;> simp [e, hi, HBW.out]))
          clear hi
          go_wp2_with fail
          refine wp_region_noPanic ?_
          refine wp_region_held_drew (S := fun w' => w'.cell? ⟨b7, o7 + t, none⟩ = some (.int .i64 (kc : Int)) ∧ w'.cell? ⟨w3.heap.size, kc, none⟩ = some (.bool bw)) (by kernel_rfl) (⟨hc7, hcw⟩) (fun hHeld => ?_)
          refine goR 0 hHeld ?_
          refine goR 1 hHeld ?_
          refine goR 2 hHeld ?_
          refine goR 3 hHeld ?_
          refine goR 4 hHeld ?_
          refine goR 5 hHeld ?_
          refine goR 6 hHeld ?_
          refine goR 7 hHeld ?_
          refine goR 8 hHeld ?_
          refine goR 9 hHeld ?_
          refine goR 10 hHeld ?_
          refine stepR (i := 11) rfl (by kernel_rfl) (wanted_none rfl) (fun K hK => ?_)
          (unfold Oper.wp; go_simp)
          refine hK.out _ _ (hHeld) (fun hHeld => ?_)
          clear hK K
          try simp only [Act.put, List.setIfInBounds_toArray, List.set_cons_zero, List.set_cons_succ]
          refine goR 12 hHeld ?_
          refine goG 13 hHeld ?_
          refine goG 14 hHeld ?_
          refine goG 15 hHeld ?_
          refine goG 16 hHeld ?_
          refine goG 17 hHeld ?_
          refine goG 18 hHeld ?_
          refine goG 19 hHeld ?_
          refine goG 20 hHeld ?_
          refine goR 21 hHeld ?_
          refine goR 22 hHeld ?_
          refine stepR (i := 23) rfl (by kernel_rfl) (wanted_none rfl) (fun K hK => ?_)
          (unfold Oper.wp; go_simp)
          refine hK.out _ _ (⟨by obtain ⟨q1, q2⟩ := hHeld; go_simp, by obtain ⟨q1, q2⟩ := hHeld; go_simp⟩) (fun hHeld => ?_)
          clear hK K
          try simp only [Act.put, List.setIfInBounds_toArray, List.set_cons_zero, List.set_cons_succ]
          refine wpAnyH_done (by kernel_rfl) ?_ _
          refine NoPanic.normal ?_
          go_wp2
          go_roundw
          case rel => exact ⟨t + 1, by omega, by go_num, HR3.out.drew, (htt.setCell (p := ⟨w2.heap.size, kc, none⟩) (by simp) _).trans (Touch.of_below (Below.refl _ _).drew)⟩
          case measure => simp [intOf]; omega
end Go.Proofs.YtgimggpmnemkbaaGreat
