/- Distances of the program. -/
import Derived.Test.YtpmgmekbnbligaaGreatZdDstF
import Derived.Test.YtpmgmekbnbligaaGreatZdDstL
import Derived.Test.YtpmgmekbnbligaaGreatZdActs
import Derived.Shelf.SlSortCmp.NoneTotal
import Derived.Deep.MidRow
set_option linter.all false
set_option linter.unusedSimpArgs false
set_option linter.unusedVariables false
namespace Go.Proofs.YtpmgmekbnbligaaGreat
open Go.ChangeShapes Go.WideShapes Go.ChangeAt Go.RowKit Go.Deep

theorem wp_alloc_d {P : Program} {w : World} {o : Oper} {a : Act} {K : Act → World → Prop} {Q : Exit → Act → World → Prop} (e : TypeId) {cells : List Value}
    (hop : o.wp P a w K Q = K (a.put o.dst (.pointer (some ⟨w.heap.size, 0, none⟩))) (w.alloc (.cells cells.toArray e)))
    (h : ∀ w' g, Row w' g e cells → Below w.heap.size w w' → w.heap.size ≤ g → g < w'.heap.size → K (a.put o.dst (.pointer (some ⟨g, 0, none⟩))) w') : o.wp P a w K Q := by
  rw [hop]
  exact h _ _ (rowNew w cells e) ((Below.refl _ _).alloc (Nat.le_refl _) _) (Nat.le_refl _) (by simp)
theorem wp_store_d {P : Program} {w : World} {o : Oper} {a : Act} {K : Act → World → Prop} {Q : Exit → Act → World → Prop} (ty : TypeId) (x y : Operand) (ho : o.op = .store ty x y) {g : Nat} {t : TypeId} {vs l : List Value}
    (hx : a.eval x = .pointer (some ⟨g, 0, none⟩)) (hy : a.eval y = .agg vs.toArray) (hr : Row w g t l) (hl : l.length = vs.length) (hi : (P.info? ty).map (·.size) = some vs.length) (h1 : vs.all (·.oneCell') = true)
    (h : ∀ w', Row w' g t vs → Touch [g] w w' → K (a.put o.dst undef) w') : o.wp P a w K Q :=
  wp_store_mid ty x y ho g 0 vs.toArray hx hy (fun j hj => ⟨by rw [Nat.zero_add, hr.cell, List.getElem?_eq_getElem (by simp at hj; omega)]; rfl, hr.frozen _⟩) (by simpa using hi) (by simpa using h1) (h _ (by
    have := Row.setN (tl := []) vs l [] (by simpa using hr) hl
    simpa using this) (Touch.setN _ _ _))
theorem cell_td {w w' : World} {g o : Nat} {u : Value} (h : w.cell? ⟨g, o, none⟩ = some u) (hb : Below w.heap.size w w') : w'.cell? ⟨g, o, none⟩ = some u := by rw [hb.cell (lt_of_cell h)]; exact h
theorem Touch.cell_d {w w' : World} {bs : List Nat} {g o : Nat} {v : Value} (t : Touch bs w w') (h : w.cell? ⟨g, o, none⟩ = some v) (hn : g ∉ bs) : w'.cell? ⟨g, o, none⟩ = some v := (t.cell (lt_of_cell h) hn).trans h
theorem Row.tch_d {w w' : World} {g : Nat} {t : TypeId} {l : List Value} {bs : List Nat} (h : Row w g t l) (t1 : Touch bs w w') (hg : g < w.heap.size) (hn : g ∉ bs) : Row w' g t l := h.of_block (t1.block g hg hn)
theorem Tryz.sizeInst3 : (Tryz.prog.info? 91).map (·.size) = some 3 := by kernel_rfl
theorem sortNil {w : World} {fv : Value} : Calls Tryz.prog 61 #[.slice none 0 0, fv] w fun e w' => e = .returned (.tuple #[]) ∧ w' = w :=
  AnyF.slices_SortFunc_none { Tryz.laysSlF6_f61 with } none 0 fv w
set_option maxRecDepth 100000 in
theorem compNil {w : World} {fv : Value} : Calls Tryz.prog 63 #[.slice none 0 0, fv] w fun e w' => e = .returned (.slice none 0 0) ∧ w' = w := by
  go_enter Tryz.func63, Tryz.ntmps63
  go_wp2
  go_ret
  exact ⟨rfl, rfl⟩
set_option maxRecDepth 100000 in
set_option maxHeartbeats 8000000 in
theorem distances_c {w : World} {p : Pgm} {gt : Nat} {k : Int} (h : Trc w p gt) (hv : progOk p = true) :
    Calls Tryz.prog 36 #[.pointer (some ⟨gt, 0, none⟩), .int .i64 k] w (MadeS w (sls ints (distL (diffs p k (depsF (usesF p)))))) := by
  have HV := Lib.hid hv
  have HT := Lib.hid h
  have hln : (instsF p).length ≤ 120 := (progOk_all hv).2.2
  obtain ⟨A1, A2, A3, A4, A5, c1, c2, c3, c4, c5, bs, bs3, bs4, bs5, ⟨_, _, x2, _, _⟩, _, L0, _, _⟩ := h
  have L1 := Lib.hid L0
  have HXT := Lib.hid x2
  clear hv L0 x2
  go_enter Tryz.func36, Tryz.ntmps36
  go_wp2_with fail
  refine (deps_c (HT.out.below bel) HV.out).mono ?_
  rintro e w4 ⟨A6, c6, bs6, rfl, r6, -, -, b4⟩
  have S4 : Below w.heap.size w w4 := b4
  have L4 := Lib.hid (L1.out.below S4)
  have HXT4 := Lib.hid (cell_td HXT.out S4)
  have hds4 : (depsF (usesF p)).length ≤ 14400 := by
    have h3 := depsN_len (us := usesF p) (n := (usesF p).length) (Nat.le_refl _)
    have h4 : (usesF p).length ≤ 120 := by rw [usesF_len]; exact hln
    have h5 := Nat.mul_le_mul h4 h4
    unfold depsF; omega
  obtain ⟨ds, hds⟩ : ∃ ds, ds = depsF (usesF p) := ⟨_, rfl⟩
  rw [← hds] at r6 hds4 ⊢
  have HM := Lib.hid (show ∀ d ∈ ds, DpOk (usesF p) d from fun d hd => depsF_mem d (by rw [← hds]; exact hd))
  have D4 := Lib.hid r6
  have HDS := Lib.hid hds
  clear b4 r6 hds HT HXT L1
  go_wp2
  go_loopw [5, 15] (fun u i wr => ∃ (j : Nat) (T : List Tri), j ≤ ds.length ∧ i = .int .i64 j ∧ Hid (T.map Tri.x = diffs p k (ds.take j) ∧ T.length ≤ j ∧ (T = [] → u = .slice none 0 0)) ∧ Hid (GrowT wr w.heap.size 27 u T) ∧ Grew w4 wr (.slice none 0 0) u) (fun _ i _ => ds.length - (intOf i).toNat)
  case atStart => exact ⟨0, [], Nat.zero_le _, rfl, Lib.hid ⟨rfl, Nat.le_refl _, fun _ => rfl⟩, Lib.hid (GrowT.nil _ _ _), Grew.refl _ _⟩
  case round =>
    obtain ⟨j, T, hj, rfl, HX, HG, hgr⟩ := hrel
    have HGR := Lib.hid hgr
    have hb : Below w4.heap.size w4 wr := hgr.below (Nat.le_refl _) (fun b hb => by simp [Value.ownBlock] at hb)
    clear hgr
    have HB := Lib.hid hb
    by_cases hlt : j < ds.length
    case neg =>
      have hjz : ¬ (j : Int) < (ds.length : Int) := by omega
      have hjj : ds.take j = ds := List.take_of_length_le (by omega)
      have hx := HX.out.1
      rw [hjj] at hx
      have HX2 := Lib.hid hx
      have SR := Lib.hid (below_tr S4 hb)
      clear hjj hx
      by_cases hT : T = []
      · obtain rfl := HX.out.2.2 hT
        have HE := Lib.hid (show distL (diffs p k (depsF (usesF p))) = [] by rw [← HDS.out, ← HX2.out, hT]; rfl)
        clear hT
        go_wp2_with fail
        refine sortNil.mono ?_
        rintro e w5 ⟨rfl, rfl⟩
        go_wp2_with fail
        refine compNil.mono ?_
        rintro e w5 ⟨rfl, rfl⟩
        go_wp2
        go_ret
        have := (GrowT.nil w5 w.heap.size 27).madeS (w := w) (L := distL (diffs p k (depsF (usesF p)))) (by rw [HE.out]; rfl) (Nat.le_refl _) SR.out
        exact this
      · have h0 : 0 < T.length := List.length_pos_iff.2 hT
        have HTL := Lib.hid HX.out.2.1
        obtain ⟨Au, cu, hfu, _, _⟩ := HG.out.form
        obtain ⟨n, hn⟩ : ∃ n, n = T.length := ⟨_, rfl⟩
        rw [← hn] at hfu h0
        subst hfu
        obtain ⟨g, rfl, hV, hgB, hgl⟩ := HG.out.some hn.symm h0
        have HS := Lib.hid (SortT_c HG.out hn.symm h0 (by have := HTL.out; omega))
        have HN := Lib.hid hn
        clear hT hV hn
        go_wp2_with fail
        refine HS.out.mono ?_
        rintro e w5 ⟨rfl, T', hp, hr, g5, t5⟩
        have H5 := Lib.hid (And.intro hp (And.intro hr t5))
        have HC := Lib.hid (CompactT_c g5 (hp.length_eq.trans HN.out.symm) (by have := HTL.out; have := HN.out; omega))
        clear hp hr g5 t5 HS
        go_wp2_with fail
        refine HC.out.mono ?_
        rintro e w6 ⟨rfl, g6, t6⟩
        have H6 := Lib.hid (And.intro g6 t6)
        clear g6 t6
        go_wp2
        go_ret
        have hx6 : (compT T').map Tri.x = distL (diffs p k (depsF (usesF p))) := by
          rw [compT_x, comp_dist (ds := T.map Tri.x) (H5.out.1.map _) H5.out.2.1, HX2.out, HDS.out]
        exact H6.out.1.madeS hx6 (Nat.le_refl _) (((SR.out).trans (H5.out.2.2.below (B := w.heap.size) SR.out.size (fun y hy => by simp only [List.mem_singleton] at hy; omega))).trans (H6.out.2.below (B := w.heap.size) (Nat.le_trans SR.out.size H5.out.2.2.size) (fun y hy => by simp only [List.mem_singleton] at hy; omega)))
    -- GEN
    obtain ⟨a, b, hfa, htb, hal, hbl⟩ := (HM.out ds[j] (List.getElem_mem hlt)).two
    have HIT := Lib.hid (difO_at (k := k) hfa htb hal hbl)
    have oka := Lib.hid (InOk.of_mem (List.getElem_mem hal))
    have okb := Lib.hid (InOk.of_mem (List.getElem_mem hbl))
    obtain ⟨bd, od, csd, ld, rfl, hbld, hrd, _, _, hcd⟩ := (D4.out.below hb).sls_at Dp.d_size (k := j) hlt
    have Gd := Lib.hid hrd
    obtain ⟨rfl, rfl, g1d, g2d, g3d⟩ := Rep.dp_iff.1 hrd
    have k0d := (hcd 0 _ rfl).1; rw [Nat.add_zero] at k0d
    have k1d := (hcd 1 _ rfl).1
    have k2d := (hcd 2 _ rfl).1
    have Q1d := Lib.hid g1d
    have Q2d := Lib.hid g2d
    have Q3d := Lib.hid g3d
    clear hcd hrd g1d g2d g3d
    rw [hfa] at k0d
    rw [htb] at k1d
    obtain ⟨bx, ox, csx, lx, rfl, hblx, hrx, _, _, hcx⟩ := (L4.out.below hb).sls_at In.d_size (k := a) hal
    have Gx := Lib.hid hrx
    obtain ⟨A3x, c3x, d3x, rfl, rfl, g1x, g2x, g3x⟩ := Rep.in_iff.1 hrx
    have k0x := (hcx 0 _ rfl).1; rw [Nat.add_zero] at k0x
    have k1x := (hcx 1 _ rfl).1
    have k2x := (hcx 2 _ rfl).1
    have Q1x := Lib.hid g1x
    have Q2x := Lib.hid g2x
    have Q3x := Lib.hid g3x
    clear hcx hrx g1x g2x g3x
    obtain ⟨bz, oz, csz, lz, heqz, hblz, hrz, _, _, hcz⟩ := (L4.out.below hb).sls_at In.d_size (k := b) hbl
    obtain ⟨rfl, rfl⟩ : bx = bz ∧ ox = oz := by simpa using heqz
    have Gz := Lib.hid hrz
    obtain ⟨A3z, c3z, d3z, rfl, rfl, g1z, g2z, g3z⟩ := Rep.in_iff.1 hrz
    have k0z := (hcz 0 _ rfl).1; rw [Nat.add_zero] at k0z
    have k1z := (hcz 1 _ rfl).1
    have k2z := (hcz 2 _ rfl).1
    have Q1z := Lib.hid g1z
    have Q2z := Lib.hid g2z
    have Q3z := Lib.hid g3z
    clear hcz hrz g1z g2z g3z
    have x2r := cell_td HXT4.out hb
    have ltr := lt_of_cell x2r
    clear hfa htb
    obtain ⟨ia, hia⟩ : ∃ ia, ia = (instsF p)[a] := ⟨_, rfl⟩
    obtain ⟨iz, hiz⟩ : ∃ iz, iz = (instsF p)[b] := ⟨_, rfl⟩
    rw [← hia, ← hiz] at HIT
    rw [← hia] at k0x k1x k2x oka Q3x
    rw [← hiz] at k0z k1z k2z okb Q3z
    clear hia hiz
    obtain ⟨lx, hlx⟩ : ∃ l, l = ia.point.length := ⟨_, rfl⟩
    obtain ⟨lz, hlz⟩ : ∃ l, l = iz.point.length := ⟨_, rfl⟩
    have HLX := Lib.hid hlx
    have HLZ := Lib.hid hlz
    rw [← hlx] at k2x Q3x
    rw [← hlz] at k2z Q3z
    clear Q1d Q2d Q3d Gd Q1x Q2x Gx Q1z Q2z Gz hlx hlz
    go_upto_region 5 with (fail)
    go_cut [8, 9] (fun u8 u9 wc => ∃ g1 g2 : Nat, u8 = .pointer (some ⟨g1, 0, none⟩) ∧ u9 = .pointer (some ⟨g2, 0, none⟩) ∧ Row wc g1 91 [.int .i64 ia.part, .int .i64 ia.stmt, .slice A3x lx c3x] ∧ Row wc g2 91 [.int .i64 iz.part, .int .i64 iz.stmt, .slice A3z lz c3z] ∧ Below wr.heap.size wr wc)
    case first =>
      refine wp_region_noPanic ?_
      refine wp_regionT (S := fun w' => w'.cell? ⟨gt, 2, none⟩ = some (.slice (some ⟨bx, ox, none⟩) (instsF p).length c3) ∧ w'.cell? ⟨wr.heap.size, 0, none⟩ = some (.int .i64 (a : Int)) ∧ w'.cell? ⟨wr.heap.size, 1, none⟩ = some (.int .i64 (b : Int)) ∧ w'.cell? ⟨bx, ox + a * 3, none⟩ = some (.int .i64 ia.part) ∧ w'.cell? ⟨bx, ox + a * 3 + 1, none⟩ = some (.int .i64 ia.stmt) ∧ w'.cell? ⟨bx, ox + a * 3 + 2, none⟩ = some (.slice A3x lx c3x) ∧ w'.cell? ⟨bx, ox + b * 3, none⟩ = some (.int .i64 iz.part) ∧ w'.cell? ⟨bx, ox + b * 3 + 1, none⟩ = some (.int .i64 iz.stmt) ∧ w'.cell? ⟨bx, ox + b * 3 + 2, none⟩ = some (.slice A3z lz c3z)) 19 (by kernel_rfl) (⟨by go_simp, by go_simp, by go_simp, by go_simp, by go_simp, by go_simp, by go_simp, by go_simp, by go_simp⟩) (fun hHeld => ?_)
      refine goU 0 (fun _ => hHeld) ?_
      refine goU 1 (fun _ => hHeld) ?_
      refine goU 2 (fun _ => hHeld) ?_
      refine goT 3 hHeld ?_
      refine goU 4 (fun _ => hHeld) ?_
      refine goT 5 hHeld ?_
      refine goU 6 (fun _ => hHeld) ?_
      refine goT 7 hHeld ?_
      refine goU 8 (fun _ => hHeld) ?_
      refine goU 9 (fun _ => hHeld) ?_
      refine goU 10 (fun _ => hHeld) ?_
      refine goT 11 hHeld ?_
      refine goU 12 (fun _ => hHeld) ?_
      refine goT 13 hHeld ?_
      refine goU 14 (fun _ => hHeld) ?_
      refine goT 15 hHeld ?_
      refine readyT (rs := [16, 17]) (by kernel_rfl) (by simp) (all2 ?_ ?_)
      · refine opT (i := 16) rfl (wanted_none rfl) (fun K hK => ?_)
        (refine wp_alloc_d 91 (cells := [.int .i64 0, .int .i64 0, .slice none 0 0]) (by unfold Oper.wp; go_simp) ?_; intro v16 g16 row16 b16 hg16 hl16; (try simp at hg16); have z16 := b16.size; (try simp at z16); have BW16 : Below wr.heap.size wr v16 := bel; (try have row17b := row17.to b16))
        refine hK.out _ _ (⟨cell_td hHeld.1 b16, cell_td hHeld.2.1 b16, cell_td hHeld.2.2.1 b16, cell_td hHeld.2.2.2.1 b16, cell_td hHeld.2.2.2.2.1 b16, cell_td hHeld.2.2.2.2.2.1 b16, cell_td hHeld.2.2.2.2.2.2.1 b16, cell_td hHeld.2.2.2.2.2.2.2.1 b16, cell_td hHeld.2.2.2.2.2.2.2.2 b16⟩) (fun hHeld => ?_)
        clear hK K
        try simp only [Act.put, aq0, aq1, aq2]
        refine readyT (rs := [17]) (by kernel_rfl) (by simp) (all1 ?_)
        refine opT (i := 17) rfl (wanted_none rfl) (fun K hK => ?_)
        (refine wp_alloc_d 91 (cells := [.int .i64 0, .int .i64 0, .slice none 0 0]) (by unfold Oper.wp; go_simp) ?_; intro v17 g17 row17 b17 hg17 hl17; (try simp at hg17); have z17 := b17.size; (try simp at z17); have BW17 : Below wr.heap.size wr v17 := bel; (try have row16b := row16.to b17))
        refine hK.out _ _ (⟨cell_td hHeld.1 b17, cell_td hHeld.2.1 b17, cell_td hHeld.2.2.1 b17, cell_td hHeld.2.2.2.1 b17, cell_td hHeld.2.2.2.2.1 b17, cell_td hHeld.2.2.2.2.2.1 b17, cell_td hHeld.2.2.2.2.2.2.1 b17, cell_td hHeld.2.2.2.2.2.2.2.1 b17, cell_td hHeld.2.2.2.2.2.2.2.2 b17⟩) (fun hHeld => ?_)
        clear hK K
        try simp only [Act.put, aq0, aq1, aq2]
        refine readyT (rs := [18]) (by kernel_rfl) (by simp) (all1 ?_)
        refine opT (i := 18) rfl (wanted_none rfl) (fun K hK => ?_)
        ((first | refine wp_store_d 91 (.tmp 8) (.tmp 26) rfl (vs := [.int .i64 ia.part, .int .i64 ia.stmt, .slice A3x lx c3x]) rfl rfl row16b rfl Tryz.sizeInst3 rfl ?_ | refine wp_store_d 91 (.tmp 8) (.tmp 26) rfl (vs := [.int .i64 ia.part, .int .i64 ia.stmt, .slice A3x lx c3x]) rfl rfl row16 rfl Tryz.sizeInst3 rfl ?_); intro v18 row18 t18; (first | have row17c := Row.tch_d row17b t18 (by omega) (by simp; omega) | have row17c := Row.tch_d row17 t18 (by omega) (by simp; omega)); (first | have BW18 := BW17.trans (t18.below BW17.size (by simp; omega)) | have BW18 := BW16.trans (t18.below BW16.size (by simp; omega))))
        refine hK.out _ _ (⟨t18.cell_d hHeld.1 (by simp; omega), t18.cell_d hHeld.2.1 (by simp; omega), t18.cell_d hHeld.2.2.1 (by simp; omega), t18.cell_d hHeld.2.2.2.1 (by simp; omega), t18.cell_d hHeld.2.2.2.2.1 (by simp; omega), t18.cell_d hHeld.2.2.2.2.2.1 (by simp; omega), t18.cell_d hHeld.2.2.2.2.2.2.1 (by simp; omega), t18.cell_d hHeld.2.2.2.2.2.2.2.1 (by simp; omega), t18.cell_d hHeld.2.2.2.2.2.2.2.2 (by simp; omega)⟩) (fun hHeld => ?_)
        clear hK K
        try simp only [Act.put, aq0, aq1, aq2]
        refine readyT (rs := [19]) (by kernel_rfl) (by simp) (all1 ?_)
        refine opTT (i := 19) rfl (wanted_none rfl) (by kernel_rfl) (fun K hK => ?_)
        (refine wp_store_d 91 (.tmp 9) (.tmp 34) rfl (vs := [.int .i64 iz.part, .int .i64 iz.stmt, .slice A3z lz c3z]) rfl rfl row17c rfl Tryz.sizeInst3 rfl ?_; intro v19 row19 t19; have HF := Lib.hid (And.intro (Row.tch_d row18 t19 row18.lt (by simp; omega)) (And.intro row19 (BW18.trans (t19.below BW18.size (by simp; omega))))))
        refine hK.out _ _ ?_
        clear hK K
        try simp only [Act.put, aq0, aq1, aq2]
        refine wpAnyT_done (by kernel_rfl) ?_ _
        refine NoPanic.normal ?_
        (go_wp2; go_meet; (case rel => exact ⟨_, _, rfl, rfl, HF.out.1, HF.out.2.1, HF.out.2.2⟩))
      · refine opT (i := 17) rfl (wanted_none rfl) (fun K hK => ?_)
        (refine wp_alloc_d 91 (cells := [.int .i64 0, .int .i64 0, .slice none 0 0]) (by unfold Oper.wp; go_simp) ?_; intro v17 g17 row17 b17 hg17 hl17; (try simp at hg17); have z17 := b17.size; (try simp at z17); have BW17 : Below wr.heap.size wr v17 := bel; (try have row16b := row16.to b17))
        refine hK.out _ _ (⟨cell_td hHeld.1 b17, cell_td hHeld.2.1 b17, cell_td hHeld.2.2.1 b17, cell_td hHeld.2.2.2.1 b17, cell_td hHeld.2.2.2.2.1 b17, cell_td hHeld.2.2.2.2.2.1 b17, cell_td hHeld.2.2.2.2.2.2.1 b17, cell_td hHeld.2.2.2.2.2.2.2.1 b17, cell_td hHeld.2.2.2.2.2.2.2.2 b17⟩) (fun hHeld => ?_)
        clear hK K
        try simp only [Act.put, aq0, aq1, aq2]
        refine readyT (rs := [16]) (by kernel_rfl) (by simp) (all1 ?_)
        refine opT (i := 16) rfl (wanted_none rfl) (fun K hK => ?_)
        (refine wp_alloc_d 91 (cells := [.int .i64 0, .int .i64 0, .slice none 0 0]) (by unfold Oper.wp; go_simp) ?_; intro v16 g16 row16 b16 hg16 hl16; (try simp at hg16); have z16 := b16.size; (try simp at z16); have BW16 : Below wr.heap.size wr v16 := bel; (try have row17b := row17.to b16))
        refine hK.out _ _ (⟨cell_td hHeld.1 b16, cell_td hHeld.2.1 b16, cell_td hHeld.2.2.1 b16, cell_td hHeld.2.2.2.1 b16, cell_td hHeld.2.2.2.2.1 b16, cell_td hHeld.2.2.2.2.2.1 b16, cell_td hHeld.2.2.2.2.2.2.1 b16, cell_td hHeld.2.2.2.2.2.2.2.1 b16, cell_td hHeld.2.2.2.2.2.2.2.2 b16⟩) (fun hHeld => ?_)
        clear hK K
        try simp only [Act.put, aq0, aq1, aq2]
        refine readyT (rs := [18]) (by kernel_rfl) (by simp) (all1 ?_)
        refine opT (i := 18) rfl (wanted_none rfl) (fun K hK => ?_)
        ((first | refine wp_store_d 91 (.tmp 8) (.tmp 26) rfl (vs := [.int .i64 ia.part, .int .i64 ia.stmt, .slice A3x lx c3x]) rfl rfl row16b rfl Tryz.sizeInst3 rfl ?_ | refine wp_store_d 91 (.tmp 8) (.tmp 26) rfl (vs := [.int .i64 ia.part, .int .i64 ia.stmt, .slice A3x lx c3x]) rfl rfl row16 rfl Tryz.sizeInst3 rfl ?_); intro v18 row18 t18; (first | have row17c := Row.tch_d row17b t18 (by omega) (by simp; omega) | have row17c := Row.tch_d row17 t18 (by omega) (by simp; omega)); (first | have BW18 := BW17.trans (t18.below BW17.size (by simp; omega)) | have BW18 := BW16.trans (t18.below BW16.size (by simp; omega))))
        refine hK.out _ _ (⟨t18.cell_d hHeld.1 (by simp; omega), t18.cell_d hHeld.2.1 (by simp; omega), t18.cell_d hHeld.2.2.1 (by simp; omega), t18.cell_d hHeld.2.2.2.1 (by simp; omega), t18.cell_d hHeld.2.2.2.2.1 (by simp; omega), t18.cell_d hHeld.2.2.2.2.2.1 (by simp; omega), t18.cell_d hHeld.2.2.2.2.2.2.1 (by simp; omega), t18.cell_d hHeld.2.2.2.2.2.2.2.1 (by simp; omega), t18.cell_d hHeld.2.2.2.2.2.2.2.2 (by simp; omega)⟩) (fun hHeld => ?_)
        clear hK K
        try simp only [Act.put, aq0, aq1, aq2]
        refine readyT (rs := [19]) (by kernel_rfl) (by simp) (all1 ?_)
        refine opTT (i := 19) rfl (wanted_none rfl) (by kernel_rfl) (fun K hK => ?_)
        (refine wp_store_d 91 (.tmp 9) (.tmp 34) rfl (vs := [.int .i64 iz.part, .int .i64 iz.stmt, .slice A3z lz c3z]) rfl rfl row17c rfl Tryz.sizeInst3 rfl ?_; intro v19 row19 t19; have HF := Lib.hid (And.intro (Row.tch_d row18 t19 row18.lt (by simp; omega)) (And.intro row19 (BW18.trans (t19.below BW18.size (by simp; omega))))))
        refine hK.out _ _ ?_
        clear hK K
        try simp only [Act.put, aq0, aq1, aq2]
        refine wpAnyT_done (by kernel_rfl) ?_ _
        refine NoPanic.normal ?_
        (go_wp2; go_meet; (case rel => exact ⟨_, _, rfl, rfl, HF.out.1, HF.out.2.1, HF.out.2.2⟩))
    case rest =>
      obtain ⟨g1, g2, rfl, rfl, row1, row2, bw⟩ := hcut
      rename World => wc
      have a0 := row1.cell 0
      have a2 := row1.cell 2
      have y0 := row2.cell 0
      have y2 := row2.cell 2
      have la := row1.lt
      have lc := row2.lt
      simp only [List.getElem?_cons_zero, List.getElem?_cons_succ] at a0 a2 y0 y2
      have B2 := Lib.hid (below_tr hb bw)
      have BW := Lib.hid bw
      clear row1 row2 k0d k1d k0x k1x k2x k0z k1z k2z hb bw x2r ltr
      by_cases d1 : ia.part = k
      case neg =>
        have q1 : (ia.part != k) = true := ine_t d1
        have HN := Lib.hid (diffs_n hlt (HIT.out.trans (if_neg fun h => d1 h.1)))
        clear d1
        go_wp2
        go_roundw
        case rel => exact ⟨j + 1, T, hlt, by go_num, Lib.hid ⟨by rw [HN.out]; exact HX.out.1, Nat.le_succ_of_le HX.out.2.1, HX.out.2.2⟩, Lib.hid (HG.out.below BW.out), HGR.out.trans (Grew.of_below BW.out _)⟩
        case measure => (simp [intOf]; omega)
      have q1 : (ia.part != k) = false := ine_f d1
      by_cases d2 : iz.part = k
      case neg =>
        have q2 : (iz.part != k) = true := ine_t d2
        have HN := Lib.hid (diffs_n hlt (HIT.out.trans (if_neg fun h => d2 h.2)))
        clear d1 d2
        go_wp2
        go_roundw
        case rel => exact ⟨j + 1, T, hlt, by go_num, Lib.hid ⟨by rw [HN.out]; exact HX.out.1, Nat.le_succ_of_le HX.out.2.1, HX.out.2.2⟩, Lib.hid (HG.out.below BW.out), HGR.out.trans (Grew.of_below BW.out _)⟩
        case measure => (simp [intOf]; omega)
      have q2 : (iz.part != k) = false := ine_f d2
      have HN := Lib.hid (diffs_y hlt (HIT.out.trans (if_pos ⟨d1, d2⟩)))
      have pa := oka.out.pts HV.out
      have pz := okb.out.pts HV.out
      have hle : lz ≤ lx := by rw [HLZ.out, HLX.out, pz.2.1, pa.2.1, d1, d2]; exact Nat.le_refl _
      have hlz4 : lz ≤ 4 := by rw [HLZ.out]; exact pz.2.2
      have PA := Lib.hid pa.1
      have PZ := Lib.hid pz.1
      have QA := Lib.hid (Q3x.out.below BW.out)
      have QZ := Lib.hid (Q3z.out.below BW.out)
      have hlx4 : lx ≤ 4 := by rw [HLX.out]; exact pa.2.2
      clear d1 d2 pa pz
      have GC := Lib.hid (HG.out.below BW.out)
      have HA2 := Lib.hid a2
      have HY2 := Lib.hid y2
      obtain ⟨wo, hwo⟩ : ∃ wo, wo = wr := ⟨_, rfl⟩
      rw [← hwo] at BW HG HB HGR
      clear hwo
      go_wp2
      go_loopw [10, 48] (fun u i wr => ∃ m : Nat, m ≤ lz ∧ i = .int .i64 m ∧ Grow wr wc.heap.size 3 1 u (((List.range m).map fun i => gi iz.point i - gi ia.point i).map D.int) ∧ Below wc.heap.size wc wr) (fun _ i _ => lz - (intOf i).toNat)
      case atStart => exact ⟨0, Nat.zero_le _, rfl, Grow.nil _ _ _ _, Below.refl _ _⟩
      case round =>
        obtain ⟨m, hm, rfl, hG, hb⟩ := hrel
        have HGm := Lib.hid hG
        have HBm := Lib.hid hb
        obtain ⟨Am, cm, hfm, _, _⟩ := hG.form
        rw [List.length_map, List.length_map, List.length_range] at hfm
        clear hG
        have hbz := hb.size
        by_cases hlm : m < lz
        · obtain ⟨b1, o1, rfl, _, hb1, hcx, _⟩ := QA.out.ints_at (k := m) (by have := HLX.out; omega)
          obtain ⟨b3, o3, rfl, _, hb3, hcz, _⟩ := QZ.out.ints_at (k := m) (by have := HLZ.out; omega)
          have hfx := PA.out m
          have hfz := PZ.out m
          have HS := Lib.hid (minusL_succ iz.point ia.point m)
          obtain ⟨x, hx⟩ : ∃ x, x = gi ia.point m := ⟨_, rfl⟩
          obtain ⟨z, hz⟩ : ∃ z, z = gi iz.point m := ⟨_, rfl⟩
          rw [← hx] at hcx hfx HS
          rw [← hz] at hcz hfz HS
          have hI := Lib.hid (show I64 (z - x) by unfold I64; omega)
          have hw : IntKind.i64.wrap (z - x) = z - x := by rw [IntKind.wrap_i64]; omega
          have e1 := cell_td HA2.out hb
          have e2 := cell_td HY2.out hb
          have e3 := cell_td hcx hb
          have e4 := cell_td hcz hb
          have HCC := Lib.hid (And.intro HA2.out (And.intro HY2.out (And.intro hcx hcz)))
          have hmx : (m : Int) < (lx : Int) := by omega
          have hmz : (m : Int) < (lz : Int) := by omega
          clear hx hz hcx hcz hb a0 a2 y0 y2
          subst hfm
          go_wp2_with fail
          refine wp_region_noPanic ?_
          refine wp_region_held_drew (S := fun w' => w'.cell? ⟨g1, 2, none⟩ = some (.slice (some ⟨b1, o1, none⟩) lx c3x) ∧ w'.cell? ⟨g2, 2, none⟩ = some (.slice (some ⟨b3, o3, none⟩) lz c3z) ∧ w'.cell? ⟨b1, o1 + m, none⟩ = some (.int .i64 x) ∧ w'.cell? ⟨b3, o3 + m, none⟩ = some (.int .i64 z)) (by kernel_rfl) (⟨e1, e2, e3, e4⟩) (fun hHeld => ?_)
          refine goR 0 hHeld ?_
          refine goR 1 hHeld ?_
          refine goR 2 hHeld ?_
          refine goR 3 hHeld ?_
          refine goR 4 hHeld ?_
          refine goR 5 hHeld ?_
          refine goR 6 hHeld ?_
          refine goR 7 hHeld ?_
          refine goR 8 hHeld ?_
          refine goR 9 hHeld ?_
          refine goR 10 hHeld ?_
          refine takeR (i := 11) (v := ?_) rfl rfl (by kernel_rfl) (by kernel_rfl) (by kernel_rfl) (fun _ _ _ h => h) ?_ hHeld ?_
          rotate_left 1
          · intro w hSw; (try dsimp only at hSw); go_simp
            try simp only [hw]
            try with_reducible rfl
          simp only [Act.put, aq0, aq1, aq2]
          refine stepR (i := 12) rfl (by kernel_rfl) (wanted_none rfl) (fun K hK => ?_)
          (unfold Oper.wp; go_simp)
          refine hK.out _ _ (⟨cell_al hHeld.1, cell_al hHeld.2.1, cell_al hHeld.2.2.1, cell_al hHeld.2.2.2⟩) (fun hHeld => ?_)
          clear hK K
          try simp only [Act.put, aq0, aq1, aq2]
          refine stepR (i := 13) rfl (by kernel_rfl) (wanted_none rfl) (fun K hK => ?_)
          (refine wp_append_more (w0 := wr) (B := wc.heap.size) (ys := [D.int (z - x)]) (.tmp 51) (.tmp 63) _ rfl _ Tryz.underlying27 Tryz.infoInt rfl (by decide) rfl HGm.out ?hbw rfl (Rep.drewN (one_newN (w := wr) (d := .int (z - x)) (cells := [.int .i64 (z - x)]) (N := wr.heap.size) ⟨rfl, rfl, hI.out⟩ 3 rfl) 1) ?hys ?hn ?hf ?hlen hbz ?_; (case hbw => exact bel); (case hys => (intro y hy; simp only [List.mem_singleton] at hy; rw [hy]; rfl)); (case hn => simp); (case hf => simp); (case hlen => (simp; omega)); intro v4 w5 hG4 hg4; have S5 : Below wc.heap.size wc w5 := Below.trans (show Below wc.heap.size wc _ from HBm.out.drew.alloc HBm.out.size _) (hg4.below (Nat.le_trans hbz (by simp)) (fun b hb => (HGm.out.own_ge b hb).1)); have HG4 := Lib.hid hG4; clear hG4 hg4)
          refine hK.out _ _ (⟨cell_td HCC.out.1 S5, cell_td HCC.out.2.1 S5, cell_td HCC.out.2.2.1 S5, cell_td HCC.out.2.2.2 S5⟩) (fun hHeld => ?_)
          clear hK K
          try simp only [Act.put, aq0, aq1, aq2]
          refine goR 14 hHeld ?_
          refine wpAnyH_done (by kernel_rfl) ?_ _
          refine NoPanic.normal ?_
          have HG5 := Lib.hid (show Grow w5 wc.heap.size 3 1 v4 (((List.range (m + 1)).map fun i => gi iz.point i - gi ia.point i).map D.int) by rw [HS.out, List.map_append]; exact HG4.out)
          go_wp2
          go_roundw
          case rel => exact ⟨m + 1, by omega, by go_num, HG5.out, S5⟩
          case measure => (simp [intOf]; omega)
        · have hmz : ¬ (m : Int) < (lz : Int) := by omega
          have hml : m = lz := by omega
          have HMZ := Lib.hid hml
          obtain ⟨A6', c6', bs6', he, r6, nd6, hb6, _⟩ := HGm.out.ints
          rw [List.length_map, List.length_range] at he
          have hD : ((List.range m).map fun i => gi iz.point i - gi ia.point i) = minusL iz.point ia.point := by rw [hml, HLZ.out]; rfl
          rw [hD] at r6
          have hDl : (minusL iz.point ia.point).length = m := by rw [minusL_len, hml, HLZ.out]
          rw [hDl] at r6
          have HD6 := Lib.hid (show Tri.ok wr ⟨minusL iz.point ia.point, .slice A6' m c6', bs6'⟩ from r6)
          have G6 := Lib.hid (GC.out.below hb)
          have hWz : w.heap.size ≤ wc.heap.size := Nat.le_trans S4.size B2.out.size
          have NB6 := Lib.hid hb6
          have ND6 := Lib.hid nd6
          have HTL := Lib.hid HX.out.2.1
          have HUL := Lib.hid (fun y (hy : y ∈ ownL u5 ++ TriB T) => (show y < wc.heap.size by
            rcases List.mem_append.1 hy with hy | hy
            · exact (GC.out.own_ge y (mem_ownL.1 hy)).2
            · exact GC.out.lt y hy))
          have hz2 : w.heap.size ≤ wr.heap.size := by omega
          have b7 : Below wr.heap.size wr (wr.alloc (.cells #[.slice A6' m c6'] 27)) := (Below.refl _ _).alloc (Nat.le_refl _) _
          subst he
          clear r6 nd6 hb6 hD hDl hfm hml hb a0 a2 y0 y2
          go_wp2_with (
            at_builtin
            refine wpList_append_T (B := w.heap.size) (e := 27) (T := T) (d := ⟨minusL iz.point ia.point, .slice A6' m c6', bs6'⟩) rfl (.tmp 66) (.tmp 68) _ rfl _ Tryz.underlying39 Tryz.infoInts rfl rfl (G6.out.below b7) rfl (by go_simp) (HD6.out.below b7) ND6.out (fun y hy hm => by
              have h1 := HUL.out y hm
              have h2 := NB6.out y hy
              omega) (fun y hy => Nat.le_trans hWz (NB6.out y hy)) (by have := HTL.out; omega) (by simp; omega) ?_
            intro v7 w7 hG7 hg7
            have HP7 := Lib.hid (And.intro hG7 (((HGR.out.trans (Grew.of_below BW.out _)).trans (Grew.of_below HBm.out _)).trans (hg7.after b7)))
            clear hG7 hg7)
          go_wp2
          go_roundw
          case rel => exact ⟨j + 1, T ++ [⟨minusL iz.point ia.point, .slice A6' m c6', bs6'⟩], hlt, by go_num, Lib.hid ⟨by rw [List.map_append, HX.out.1, HN.out]; rfl, by rw [List.length_append, List.length_singleton]; have := HX.out.2.1; omega, fun h => by simp at h⟩, Lib.hid HP7.out.1, HP7.out.2⟩
          case measure => (simp [intOf]; omega)
end Go.Proofs.YtpmgmekbnbligaaGreat
