/- Texts of this seat, joined: Trace, Uses, DepB, Deps. -/
import Derived.Test.YtpmgmekbnbligaaGreatZdActs
import Derived.Test.YtpmgmekbnbligaaGreatZdOrder
import Derived.Test.YtpmgmekbnbligaaGreatZdInstsS
import Derived.Test.YtpmgmekbnbligaaGreatZdCellsS
/- A valid program's instances with the cells that they touch: trace of the program. -/
set_option linter.all false
set_option linter.unusedSimpArgs false
set_option linter.unusedVariables false
namespace Go.Proofs.YtpmgmekbnbligaaGreat
open Go.ChangeShapes Go.WideShapes Go.ChangeAt Go.RowKit Go.Deep

theorem cell_al {w : World} {p : Addr} {v : Value} {o : Obj} (h : w.cell? p = some v) : (w.alloc o).cell? p = some v := (World.cell?_alloc_some _ _ _ (by rw [h]; rfl)).trans h
theorem Grew.after {a b c : World} {v v' : Value} (g : Grew b c v v') (h : Below a.heap.size a b) : Grew a c v v' := (Grew.of_below h v).trans g
def rdD (u : Us) : D := ints u.reads
def wrD (u : Us) : D := .int u.write
/-- the block g holds the program's trace -/
def TrcN (w : World) (p : Pgm) (g N : Nat) : Prop := ∃ (A1 A2 A3 A4 A5 : Option Addr) (c1 c2 c3 c4 c5 : Nat) (bs bs3 bs4 bs5 : List Nat),
  Box5 w g (.slice A1 p.arrays.length c1) (.slice A2 p.parts.length c2) (.slice A3 (instsF p).length c3) (.slice A4 (usesF p).length c4) (.slice A5 (usesF p).length c5) ∧
  Rep w p.d [.slice A1 p.arrays.length c1, .slice A2 p.parts.length c2] bs ∧ Rep w (sls In.d (instsF p)) [.slice A3 (instsF p).length c3] bs3 ∧
  Rep w (sls rdD (usesF p)) [.slice A4 (usesF p).length c4] bs4 ∧ Rep w (sls wrD (usesF p)) [.slice A5 (usesF p).length c5] bs5 ∧ ∀ y ∈ bs3, N ≤ y
def Trc (w : World) (p : Pgm) (g : Nat) : Prop := ∃ (A1 A2 A3 A4 A5 : Option Addr) (c1 c2 c3 c4 c5 : Nat) (bs bs3 bs4 bs5 : List Nat),
  Box5 w g (.slice A1 p.arrays.length c1) (.slice A2 p.parts.length c2) (.slice A3 (instsF p).length c3) (.slice A4 (usesF p).length c4) (.slice A5 (usesF p).length c5) ∧
  Rep w p.d [.slice A1 p.arrays.length c1, .slice A2 p.parts.length c2] bs ∧ Rep w (sls In.d (instsF p)) [.slice A3 (instsF p).length c3] bs3 ∧
  Rep w (sls rdD (usesF p)) [.slice A4 (usesF p).length c4] bs4 ∧ Rep w (sls wrD (usesF p)) [.slice A5 (usesF p).length c5] bs5
theorem TrcN.trc {w : World} {p : Pgm} {g N : Nat} (h : TrcN w p g N) : Trc w p g := by
  obtain ⟨A1, A2, A3, A4, A5, c1, c2, c3, c4, c5, bs, bs3, bs4, bs5, h1, h2, h3, h4, h5, _⟩ := h
  exact ⟨A1, A2, A3, A4, A5, c1, c2, c3, c4, c5, bs, bs3, bs4, bs5, h1, h2, h3, h4, h5⟩
theorem Trc.below {w w' : World} {p : Pgm} {g : Nat} (h : Trc w p g) (hb : Below w.heap.size w w') : Trc w' p g := by
  obtain ⟨A1, A2, A3, A4, A5, c1, c2, c3, c4, c5, bs, bs3, bs4, bs5, h1, h2, h3, h4, h5⟩ := h
  exact ⟨A1, A2, A3, A4, A5, c1, c2, c3, c4, c5, bs, bs3, bs4, bs5, h1.to hb, h2.below hb, h3.below hb, h4.below hb, h5.below hb⟩
theorem map_take {α β : Type} {f : α → β} {l : List α} {j : Nat} (h : j < l.length) : (l.take (j + 1)).map f = (l.take j).map f ++ [f l[j]] := by
  rw [List.take_succ_eq_append_getElem h, List.map_append]; rfl
theorem usesF_get {p : Pgm} {j : Nat} (h : j < (instsF p).length) : (usesF p)[j]'(by rw [usesF_len]; exact h) = useF p (instsF p)[j] := by simp [usesF]
theorem useF_bdw {p : Pgm} {x : In} (hv : progOk p = true) : I64 (useF p x).write := by
  have hok := progOk_arr hv
  have hcb := cellsF_bd hok
  have := cellF_bd (a := (stmF p x).write) (pt := x.point) hok
  show I64 (cellF p.arrays (stmF p x).write x.point)
  unfold I64; omega

theorem trace_n {w : World} {p : Pgm} {cs : List Value} {bs : List Nat} (h : Rep w p.d cs bs) (hv : progOk p = false) :
    Calls Tryz.prog 34 #[.agg cs.toArray] w fun e w' => e = .returned (.tuple #[.pointer none, .bool false]) ∧ Below w.heap.size w w' := by
  have HP := Lib.hid h
  obtain ⟨A1, c1, A2, c2, d1, d2, rfl, rfl, g1, g2⟩ := Rep.pgm_iff.1 h
  have Garrays := Lib.hid g1
  have Gparts := Lib.hid g2
  clear h g1 g2
  have HY := Lib.hid ((InstsF_2 p).trans hv)
  clear hv
  go_enter Tryz.func34, Tryz.ntmps34
  go_wp2_with fail
  refine (instances_c (HP.out.below bel)).mono ?_
  rintro e w1 ⟨A3, n3, c3, bs3, rfl, _, _, _, b1⟩
  have S1 : Below w.heap.size w w1 := bel
  clear b1
  rw [HY.out]
  go_wp2
  go_ret2
  exact ⟨rfl, S1⟩
set_option maxRecDepth 100000 in
set_option maxHeartbeats 8000000 in
theorem trace_yN {w : World} {p : Pgm} {cs : List Value} {bs : List Nat} (h : Rep w p.d cs bs) (hv : progOk p = true) :
    Calls Tryz.prog 34 #[.agg cs.toArray] w fun e w' => ∃ g, e = .returned (.tuple #[.pointer (some ⟨g, 0, none⟩), .bool true]) ∧ TrcN w' p g w.heap.size ∧ w.heap.size ≤ g ∧ Below w.heap.size w w' := by
  have HP := Lib.hid h
  obtain ⟨A1, c1, A2, c2, d1, d2, rfl, rfl, g1, g2⟩ := Rep.pgm_iff.1 h
  have Garrays := Lib.hid g1
  have Gparts := Lib.hid g2
  clear h g1 g2
  have HY := Lib.hid ((InstsF_2 p).trans hv)
  have HZ := Lib.hid (InstsF_ok hv)
  have hln := (progOk_all hv).2.2
  have HV := Lib.hid hv; clear hv
  go_enter Tryz.func34, Tryz.ntmps34
  go_wp2_with fail
  refine (instances_c (HP.out.below bel)).mono ?_
  rintro e w1 ⟨A3, n3, c3, bs3, rfl, r1, _, fr1, b1⟩
  have P1 : Box2 w1 w.heap.size (.slice A1 p.arrays.length c1) (.slice A2 p.parts.length c2) := by
    refine ⟨?_, ?_⟩ <;> (rw [b1.cell (by simp [World.setCell]; try omega)]; go_simp)
  have S1 : Below w.heap.size w w1 := bel
  clear b1
  have HFR := Lib.hid (show ∀ y ∈ bs3, w.heap.size ≤ y from fun y hy => by have := fr1 y hy; simp at this; omega); clear fr1
  rw [HY.out]
  rw [HZ.out] at r1
  obtain ⟨rfl, _, _⟩ := r1.sls_len
  have R1 := Lib.hid r1; clear r1
  have hz1 := S1.size
  have ul := Lib.hid (usesF_len p)
  go_wp2
  go_loopw [24] (fun i wr => ∃ (j : Nat) (vr vw : Value) (cb : List Nat), j ≤ (instsF p).length ∧ i = .int .i64 j ∧ GrowN wr (w1.heap.size + 1) 27 1 vr (((usesF p).take j).map rdD) cb ∧ GrowN wr (w1.heap.size + 1) 3 1 vw (((usesF p).take j).map wrD) [] ∧ Apart vr vw cb ∧ Box5 wr w1.heap.size (.slice A1 p.arrays.length c1) (.slice A2 p.parts.length c2) (.slice A3 (instsF p).length c3) vr vw ∧ wr.frozen? ⟨w1.heap.size, 3, none⟩ = false ∧ wr.frozen? ⟨w1.heap.size, 4, none⟩ = false ∧ Below w1.heap.size w1 wr) (fun i _ => (instsF p).length - (intOf i).toNat)
  case atStart => exact ⟨0, _, _, [], Nat.zero_le _, rfl, GrowN.nil _ _ _ _, GrowN.nil _ _ _ _, Apart.nil, ⟨by go_simp, by go_simp, by go_simp, by go_simp, by go_simp⟩, by go_simp, by go_simp, bel⟩
  case round =>
    obtain ⟨j, vr, vw, cb, hj, rfl, hGr, hGw, hap, hX, hf3, hf4, hb⟩ := hrel
    have Pr := P1.to hb
    have Sr := below_tr S1 hb
    have lp := lt_of_cell Pr.1
    have lg := lt_of_cell hX.1
    have HGR := Lib.hid hGr; clear hGr
    have HGW := Lib.hid hGw; clear hGw
    have HAP := Lib.hid hap; clear hap
    by_cases hlt : j < (instsF p).length
    · have HTr := Lib.hid (map_take (f := rdD) (l := usesF p) (j := j) (by rw [ul.out]; exact hlt))
      have HTw := Lib.hid (map_take (f := wrD) (l := usesF p) (j := j) (by rw [ul.out]; exact hlt))
      have HUJ := Lib.hid (usesF_get hlt)
      have HIN := Lib.hid (InOk.of_mem (List.getElem_mem hlt))
      have hww := useF_bdw (x := (instsF p)[j]) HV.out
      obtain ⟨be, oe, cse, le, rfl, hble, hre, _, _, hce⟩ := (R1.out.below hb).sls_at In.d_size (k := j) hlt
      have Ge := Lib.hid hre
      obtain ⟨A3e, c3e, d3e, rfl, rfl, g1e, g2e, g3e⟩ := Rep.in_iff.1 hre
      have k0e := (hce 0 _ rfl).1; rw [Nat.add_zero] at k0e
      have k1e := (hce 1 _ rfl).1
      have k2e := (hce 2 _ rfl).1
      have Q1e := Lib.hid g1e
      have Q2e := Lib.hid g2e
      have Q3e := Lib.hid g3e
      clear hce hre g1e g2e g3e
      have HPr := Lib.hid (HP.out.below Sr)
      go_wp2_with fail
      refine (touched_c (HPr.out.below bel) (Ge.out.below bel) HIN.out HV.out).mono ?_
      rintro e w2 ⟨A6, c6, bs6, rfl, r6, nd6, hb6, b2⟩
      have T2 : Below wr.heap.size wr w2 := bel
      rw [← HUJ.out] at r6 hww ⊢
      obtain ⟨u, hu⟩ : ∃ u, u = (usesF p)[j]'(by rw [ul.out]; exact hlt) := ⟨_, rfl⟩
      rw [← hu] at r6 hww HTr HTw ⊢
      clear hu
      have R6 := Lib.hid r6; clear r6
      have HB6 := Lib.hid (show ∀ y ∈ bs6, wr.heap.size ≤ y ∧ y < w2.heap.size from fun y hy => ⟨Nat.le_trans (by simp) (hb6 y hy), Rep.lt _ R6.out y hy⟩)
      have X2 := hX.to T2
      have f3 := (T2.frozen (p := ⟨w1.heap.size, 3, none⟩) lg).trans hf3
      have f4 := (T2.frozen (p := ⟨w1.heap.size, 4, none⟩) lg).trans hf4
      have lg2 := lt_of_cell X2.1
      have hz2 := T2.size
      have hzr := Sr.size
      have HGR2 := Lib.hid (HGR.out.below T2)
      have HGW2 := Lib.hid (HGW.out.below T2)
      have HF6 := Lib.hid (show ∀ y ∈ bs6, y ∉ cb ∧ vr.ownBlock ≠ some y ∧ w1.heap.size + 1 ≤ y from fun y hy => by
        have h1 := (HB6.out y hy).1
        exact ⟨fun hm => by have := (HGR.out.lt y hm).2; omega, fun hm => by have := (HGR.out.own y hm).2.1; omega, by omega⟩)
      have NOr : w1.heap.size ∉ ownL vr := fun hm => by have := (HGR.out.own _ (mem_ownL.1 hm)).1; omega
      have NOw : w1.heap.size ∉ ownL vw := fun hm => by have := (HGW.out.own _ (mem_ownL.1 hm)).1; omega
      have NO2 := Lib.hid (show ∀ y, w2.heap.size ≤ y → y ∉ ownL vr from fun y hy hm => by have := (HGR.out.own _ (mem_ownL.1 hm)).2.1; omega)
      have NOv := Lib.hid (show ∀ v4 w4, Grew w2 w4 vr v4 → ∀ y, v4.ownBlock = some y → y ∉ ownL vw from fun v4 w4 hh y hy hm => by
        have h1 := (HGW.out.own _ (mem_ownL.1 hm)).2.1
        rcases hh.own y hy with h2 | h2
        · exact HAP.out.o y h2 (mem_ownL.1 hm)
        · omega)
      have NOc := Lib.hid (show ∀ y ∈ cb ++ bs6, y ∉ ownL vw from fun y hy hm => by
        rcases List.mem_append.1 hy with hy | hy
        · exact HAP.out.c y (mem_ownL.1 hm) hy
        · have h1 := (HGW.out.own _ (mem_ownL.1 hm)).2.1
          have := (HB6.out y hy).1; omega)
      have APS := Lib.hid (show ∀ (v4 v6 : Value) (w4 w6 : World), Grew w2 w4 vr v4 → (∀ y, v4.ownBlock = some y → y < w4.heap.size) → Grew w4 w6 vw v6 → Apart v4 v6 (cb ++ bs6) from fun v4 v6 w4 w6 hh4 hl hh6 =>
        HAP.out.step (N0 := wr.heap.size) (N1 := w2.heap.size) (fun y hy => (HGW.out.own y hy).2.1) (fun y hy => (HGR.out.lt y hy).2) hh4.own hz2 hl (fun y hy => ⟨(HB6.out y hy).1, Nat.lt_of_lt_of_le (HB6.out y hy).2 hh4.touch.size⟩) (Nat.le_trans hz2 hh4.touch.size) hh6.own (Nat.le_refl _))
      have ZS := Lib.hid (show ∀ (v4 v6 : Value) (w4 w6 : World), Grew w2 w4 vr v4 → Grew w4 w6 vw v6 → Below w1.heap.size w1 w6 from fun v4 v6 w4 w6 hh4 hh6 =>
        ((below_tr hb T2).trans (hh4.below (by omega) (fun y hy => by have := (HGR.out.own y hy).1; omega))).trans (hh6.below (by have := hh4.touch.size; omega) (fun y hy => by have := (HGW.out.own y hy).1; omega)))
      clear hX hf3 hf4 hb6 b2
      go_wp2_with fail
      refine wp_region_noPanic ?_
      refine wp_regionT (S := fun w' => w'.cell? ⟨w1.heap.size, 3, none⟩ = some vr ∧ w'.cell? ⟨w1.heap.size, 4, none⟩ = some vw) 18 (by kernel_rfl) (⟨by have := X2.2.2.2.1; go_simp, by have := X2.2.2.2.2; go_simp⟩) (fun hHeld => ?_)
      refine goU 0 (fun _ => hHeld) ?_
      refine goU 1 (fun _ => hHeld) ?_
      refine goU 2 (fun _ => hHeld) ?_
      refine goU 3 (fun _ => hHeld) ?_
      refine goU 4 (fun _ => hHeld) ?_
      refine goT 5 hHeld ?_
      refine goU 6 (fun _ => hHeld) ?_
      refine goU 9 (fun _ => hHeld) ?_
      refine goU 10 (fun _ => hHeld) ?_
      refine goU 11 (fun _ => hHeld) ?_
      refine goT 12 hHeld ?_
      refine goU 13 (fun _ => hHeld) ?_
      refine readyT (rs := [7, 14]) (by kernel_rfl) (by simp) (all2 ?_ ?_)
      · refine opT (i := 7) rfl (wanted_none rfl) (fun K hK => ?_)
        (unfold Oper.wp; go_simp)
        refine hK.out _ _ (⟨cell_al hHeld.1, cell_al hHeld.2⟩) (fun hHeld => ?_)
        clear hK K
        try simp only [Act.put, aq0, aq1, aq2]
        refine readyT (rs := [8, 14]) (by kernel_rfl) (by simp) (all2 ?_ ?_)
        · refine opT (i := 8) rfl (wanted_none rfl) (fun K hK => ?_)
          (refine wp_append_growN (.tmp 39) (.tmp 41) _ rfl _ Tryz.underlying39 Tryz.infoInts rfl (by decide) rfl (HGR2.out.below ?hbw) rfl (R6.out.below ?hbv) nd6 HF6.out ?hc rfl ?h1 ?hlen ?hba ?_; (case hbw => exact bel); (case hbv => exact bel); (case hc => (intro jj vv hv; rcases jj with _ | jj <;> simp at hv; (subst hv; go_simp))); (case h1 => simp [Value.oneCell']); (case hlen => (simp only [List.length_map, List.length_take]; have := ul.out; omega)); (case hba => (simp; omega)); intro v4 w4 hG4 hg4; obtain ⟨A4, c4, hf4, _, _⟩ := hG4.grow.form; subst hf4; have HGg := Lib.hid hg4; have hh4 : Grew w2 w4 vr _ := hg4.after bel; have X4 := hh4.touch.box5 X2 NOr; have f43 := (hh4.touch.frozen (o := 3) lg2 NOr).trans f3; have f44 := (hh4.touch.frozen (o := 4) lg2 NOr).trans f4; have HG4 := Lib.hid hG4; have HW4 := Lib.hid (HGW2.out.touch hh4.touch (fun y hy hm => HAP.out.o y (mem_ownL.1 hm) hy) (by simp)); have hz4 := hh4.touch.size; have lg4 := lt_of_cell X4.1; have HH4 := Lib.hid hh4; clear hG4 hg4 hh4)
          refine hK.out _ _ (⟨X4.2.2.2.1, X4.2.2.2.2⟩) (fun hHeld => ?_)
          clear hK K
          try simp only [Act.put, aq0, aq1, aq2]
          refine readyT (rs := [14]) (by kernel_rfl) (by simp) (all1 ?_)
          refine opT (i := 14) rfl (wanted_none rfl) (fun K hK => ?_)
          (unfold Oper.wp; go_simp)
          refine hK.out _ _ (⟨cell_al hHeld.1, cell_al hHeld.2⟩) (fun hHeld => ?_)
          clear hK K
          try simp only [Act.put, aq0, aq1, aq2]
          refine readyT (rs := [15]) (by kernel_rfl) (by simp) (all1 ?_)
          refine opT (i := 15) rfl (wanted_none rfl) (fun K hK => ?_)
          (refine wp_append_growN (.tmp 46) (.tmp 48) _ rfl _ Tryz.underlying27 Tryz.infoInt rfl (by decide) rfl (HW4.out.below ?hbw) rfl (show Rep _ (wrD u) [.int .i64 u.write] [] from ⟨rfl, rfl, hww⟩) (by simp) (by simp) ?hc rfl ?h1 ?hlen ?hba ?_; (case hbw => exact bel); (case hc => (intro jj vv hv; rcases jj with _ | jj <;> simp at hv; (subst hv; first | (go_simp; done) | (rw [HGg.out.touch.cell (by (simp <;> omega)) (NO2.out _ (by omega))]; go_simp; done)))); (case h1 => simp [Value.oneCell']); (case hlen => (simp only [List.length_map, List.length_take]; have := ul.out; omega)); (case hba => first | omega | (simp; omega)); intro v6 w6 hG6 hg6; obtain ⟨A7, c7, hf6, _, _⟩ := hG6.grow.form; subst hf6; have hh6 : Grew w4 w6 vw _ := hg6.after bel; have X6 := hh6.touch.box5 X4 NOw; have f63 := (hh6.touch.frozen (o := 3) lg4 NOw).trans f43; have f64 := (hh6.touch.frozen (o := 4) lg4 NOw).trans f44; have HG6 := Lib.hid hG6; have HR6 := Lib.hid (HG4.out.touch hh6.touch (NOv.out _ _ HH4.out) NOc.out); have lg6 := lt_of_cell X6.1; have HAP6 := Lib.hid (APS.out _ _ _ _ HH4.out (fun y hy => (HG4.out.own y hy).2.1) hh6); have Z6 := Lib.hid (ZS.out _ _ _ _ HH4.out hh6); obtain ⟨y0, y1, y2, y3, y4⟩ := X6; clear hG6 hg6 hh6 X4)
          refine hK.out _ _ (⟨y3, y4⟩) (fun hHeld => ?_)
          clear hK K
          try simp only [Act.put, aq0, aq1, aq2]
          refine goU 16 (fun _ => hHeld) ?_
          refine goU 17 (fun _ => hHeld) ?_
          refine readyT (rs := [18]) (by kernel_rfl) (by simp) (all1 ?_)
          refine opTT (i := 18) rfl (wanted_none rfl) (by kernel_rfl) (fun K hK => ?_)
          (unfold Oper.wp; go_simp)
          refine hK.out _ _ ?_
          clear hK K
          try simp only [Act.put, aq0, aq1, aq2]
          refine goU 19 (fun h => absurd h (by decide)) ?_
          refine goU 20 (fun h => absurd h (by decide)) ?_
          refine readyT (rs := [21]) (by kernel_rfl) (by simp) (all1 ?_)
          refine opTT (i := 21) rfl (wanted_none rfl) (by kernel_rfl) (fun K hK => ?_)
          (unfold Oper.wp; go_simp)
          refine hK.out _ _ ?_
          clear hK K
          try simp only [Act.put, aq0, aq1, aq2]
          refine wpAnyT_done (by kernel_rfl) ?_ _
          refine NoPanic.normal ?_
          (go_wp2; go_roundw; (case rel => (refine ⟨j + 1, _, _, cb ++ bs6, by omega, by go_num, ?_, ?_, HAP6.out, ⟨by go_simp, by go_simp, by go_simp, by go_simp, by go_simp⟩, by go_simp, by go_simp, (Z6.out.setCell (by simp) _).setCell (by simp) _⟩; (rw [HTr.out]; exact (HR6.out.set_low (by simp) _).set_low (by simp) _); (rw [HTw.out]; exact (HG6.out.set_low (by simp) _).set_low (by simp) _))); (case measure => (simp [intOf]; omega)))
        · refine opT (i := 14) rfl (wanted_none rfl) (fun K hK => ?_)
          (unfold Oper.wp; go_simp)
          refine hK.out _ _ (⟨cell_al hHeld.1, cell_al hHeld.2⟩) (fun hHeld => ?_)
          clear hK K
          try simp only [Act.put, aq0, aq1, aq2]
          refine readyT (rs := [8]) (by kernel_rfl) (by simp) (all1 ?_)
          refine opT (i := 8) rfl (wanted_none rfl) (fun K hK => ?_)
          (refine wp_append_growN (.tmp 39) (.tmp 41) _ rfl _ Tryz.underlying39 Tryz.infoInts rfl (by decide) rfl (HGR2.out.below ?hbw) rfl (R6.out.below ?hbv) nd6 HF6.out ?hc rfl ?h1 ?hlen ?hba ?_; (case hbw => exact bel); (case hbv => exact bel); (case hc => (intro jj vv hv; rcases jj with _ | jj <;> simp at hv; (subst hv; go_simp))); (case h1 => simp [Value.oneCell']); (case hlen => (simp only [List.length_map, List.length_take]; have := ul.out; omega)); (case hba => (simp; omega)); intro v4 w4 hG4 hg4; obtain ⟨A4, c4, hf4, _, _⟩ := hG4.grow.form; subst hf4; have HGg := Lib.hid hg4; have hh4 : Grew w2 w4 vr _ := hg4.after bel; have X4 := hh4.touch.box5 X2 NOr; have f43 := (hh4.touch.frozen (o := 3) lg2 NOr).trans f3; have f44 := (hh4.touch.frozen (o := 4) lg2 NOr).trans f4; have HG4 := Lib.hid hG4; have HW4 := Lib.hid (HGW2.out.touch hh4.touch (fun y hy hm => HAP.out.o y (mem_ownL.1 hm) hy) (by simp)); have hz4 := hh4.touch.size; have lg4 := lt_of_cell X4.1; have HH4 := Lib.hid hh4; clear hG4 hg4 hh4)
          refine hK.out _ _ (⟨X4.2.2.2.1, X4.2.2.2.2⟩) (fun hHeld => ?_)
          clear hK K
          try simp only [Act.put, aq0, aq1, aq2]
          refine readyT (rs := [15]) (by kernel_rfl) (by simp) (all1 ?_)
          refine opT (i := 15) rfl (wanted_none rfl) (fun K hK => ?_)
          (refine wp_append_growN (.tmp 46) (.tmp 48) _ rfl _ Tryz.underlying27 Tryz.infoInt rfl (by decide) rfl (HW4.out.below ?hbw) rfl (show Rep _ (wrD u) [.int .i64 u.write] [] from ⟨rfl, rfl, hww⟩) (by simp) (by simp) ?hc rfl ?h1 ?hlen ?hba ?_; (case hbw => exact bel); (case hc => (intro jj vv hv; rcases jj with _ | jj <;> simp at hv; (subst hv; first | (go_simp; done) | (rw [HGg.out.touch.cell (by (simp <;> omega)) (NO2.out _ (by omega))]; go_simp; done)))); (case h1 => simp [Value.oneCell']); (case hlen => (simp only [List.length_map, List.length_take]; have := ul.out; omega)); (case hba => first | omega | (simp; omega)); intro v6 w6 hG6 hg6; obtain ⟨A7, c7, hf6, _, _⟩ := hG6.grow.form; subst hf6; have hh6 : Grew w4 w6 vw _ := hg6.after bel; have X6 := hh6.touch.box5 X4 NOw; have f63 := (hh6.touch.frozen (o := 3) lg4 NOw).trans f43; have f64 := (hh6.touch.frozen (o := 4) lg4 NOw).trans f44; have HG6 := Lib.hid hG6; have HR6 := Lib.hid (HG4.out.touch hh6.touch (NOv.out _ _ HH4.out) NOc.out); have lg6 := lt_of_cell X6.1; have HAP6 := Lib.hid (APS.out _ _ _ _ HH4.out (fun y hy => (HG4.out.own y hy).2.1) hh6); have Z6 := Lib.hid (ZS.out _ _ _ _ HH4.out hh6); obtain ⟨y0, y1, y2, y3, y4⟩ := X6; clear hG6 hg6 hh6 X4)
          refine hK.out _ _ (⟨y3, y4⟩) (fun hHeld => ?_)
          clear hK K
          try simp only [Act.put, aq0, aq1, aq2]
          refine goU 16 (fun _ => hHeld) ?_
          refine goU 17 (fun _ => hHeld) ?_
          refine readyT (rs := [18]) (by kernel_rfl) (by simp) (all1 ?_)
          refine opTT (i := 18) rfl (wanted_none rfl) (by kernel_rfl) (fun K hK => ?_)
          (unfold Oper.wp; go_simp)
          refine hK.out _ _ ?_
          clear hK K
          try simp only [Act.put, aq0, aq1, aq2]
          refine goU 19 (fun h => absurd h (by decide)) ?_
          refine goU 20 (fun h => absurd h (by decide)) ?_
          refine readyT (rs := [21]) (by kernel_rfl) (by simp) (all1 ?_)
          refine opTT (i := 21) rfl (wanted_none rfl) (by kernel_rfl) (fun K hK => ?_)
          (unfold Oper.wp; go_simp)
          refine hK.out _ _ ?_
          clear hK K
          try simp only [Act.put, aq0, aq1, aq2]
          refine wpAnyT_done (by kernel_rfl) ?_ _
          refine NoPanic.normal ?_
          (go_wp2; go_roundw; (case rel => (refine ⟨j + 1, _, _, cb ++ bs6, by omega, by go_num, ?_, ?_, HAP6.out, ⟨by go_simp, by go_simp, by go_simp, by go_simp, by go_simp⟩, by go_simp, by go_simp, (Z6.out.setCell (by simp) _).setCell (by simp) _⟩; (rw [HTr.out]; exact (HR6.out.set_low (by simp) _).set_low (by simp) _); (rw [HTw.out]; exact (HG6.out.set_low (by simp) _).set_low (by simp) _))); (case measure => (simp [intOf]; omega)))
      · refine opT (i := 14) rfl (wanted_none rfl) (fun K hK => ?_)
        (unfold Oper.wp; go_simp)
        refine hK.out _ _ (⟨cell_al hHeld.1, cell_al hHeld.2⟩) (fun hHeld => ?_)
        clear hK K
        try simp only [Act.put, aq0, aq1, aq2]
        refine readyT (rs := [7]) (by kernel_rfl) (by simp) (all1 ?_)
        refine opT (i := 7) rfl (wanted_none rfl) (fun K hK => ?_)
        (unfold Oper.wp; go_simp)
        refine hK.out _ _ (⟨cell_al hHeld.1, cell_al hHeld.2⟩) (fun hHeld => ?_)
        clear hK K
        try simp only [Act.put, aq0, aq1, aq2]
        refine readyT (rs := [8]) (by kernel_rfl) (by simp) (all1 ?_)
        refine opT (i := 8) rfl (wanted_none rfl) (fun K hK => ?_)
        (refine wp_append_growN (.tmp 39) (.tmp 41) _ rfl _ Tryz.underlying39 Tryz.infoInts rfl (by decide) rfl (HGR2.out.below ?hbw) rfl (R6.out.below ?hbv) nd6 HF6.out ?hc rfl ?h1 ?hlen ?hba ?_; (case hbw => exact bel); (case hbv => exact bel); (case hc => (intro jj vv hv; rcases jj with _ | jj <;> simp at hv; (subst hv; go_simp))); (case h1 => simp [Value.oneCell']); (case hlen => (simp only [List.length_map, List.length_take]; have := ul.out; omega)); (case hba => (simp; omega)); intro v4 w4 hG4 hg4; obtain ⟨A4, c4, hf4, _, _⟩ := hG4.grow.form; subst hf4; have HGg := Lib.hid hg4; have hh4 : Grew w2 w4 vr _ := hg4.after bel; have X4 := hh4.touch.box5 X2 NOr; have f43 := (hh4.touch.frozen (o := 3) lg2 NOr).trans f3; have f44 := (hh4.touch.frozen (o := 4) lg2 NOr).trans f4; have HG4 := Lib.hid hG4; have HW4 := Lib.hid (HGW2.out.touch hh4.touch (fun y hy hm => HAP.out.o y (mem_ownL.1 hm) hy) (by simp)); have hz4 := hh4.touch.size; have lg4 := lt_of_cell X4.1; have HH4 := Lib.hid hh4; clear hG4 hg4 hh4)
        refine hK.out _ _ (⟨X4.2.2.2.1, X4.2.2.2.2⟩) (fun hHeld => ?_)
        clear hK K
        try simp only [Act.put, aq0, aq1, aq2]
        refine readyT (rs := [15]) (by kernel_rfl) (by simp) (all1 ?_)
        refine opT (i := 15) rfl (wanted_none rfl) (fun K hK => ?_)
        (refine wp_append_growN (.tmp 46) (.tmp 48) _ rfl _ Tryz.underlying27 Tryz.infoInt rfl (by decide) rfl (HW4.out.below ?hbw) rfl (show Rep _ (wrD u) [.int .i64 u.write] [] from ⟨rfl, rfl, hww⟩) (by simp) (by simp) ?hc rfl ?h1 ?hlen ?hba ?_; (case hbw => exact bel); (case hc => (intro jj vv hv; rcases jj with _ | jj <;> simp at hv; (subst hv; first | (go_simp; done) | (rw [HGg.out.touch.cell (by (simp <;> omega)) (NO2.out _ (by omega))]; go_simp; done)))); (case h1 => simp [Value.oneCell']); (case hlen => (simp only [List.length_map, List.length_take]; have := ul.out; omega)); (case hba => first | omega | (simp; omega)); intro v6 w6 hG6 hg6; obtain ⟨A7, c7, hf6, _, _⟩ := hG6.grow.form; subst hf6; have hh6 : Grew w4 w6 vw _ := hg6.after bel; have X6 := hh6.touch.box5 X4 NOw; have f63 := (hh6.touch.frozen (o := 3) lg4 NOw).trans f43; have f64 := (hh6.touch.frozen (o := 4) lg4 NOw).trans f44; have HG6 := Lib.hid hG6; have HR6 := Lib.hid (HG4.out.touch hh6.touch (NOv.out _ _ HH4.out) NOc.out); have lg6 := lt_of_cell X6.1; have HAP6 := Lib.hid (APS.out _ _ _ _ HH4.out (fun y hy => (HG4.out.own y hy).2.1) hh6); have Z6 := Lib.hid (ZS.out _ _ _ _ HH4.out hh6); obtain ⟨y0, y1, y2, y3, y4⟩ := X6; clear hG6 hg6 hh6 X4)
        refine hK.out _ _ (⟨y3, y4⟩) (fun hHeld => ?_)
        clear hK K
        try simp only [Act.put, aq0, aq1, aq2]
        refine goU 16 (fun _ => hHeld) ?_
        refine goU 17 (fun _ => hHeld) ?_
        refine readyT (rs := [18]) (by kernel_rfl) (by simp) (all1 ?_)
        refine opTT (i := 18) rfl (wanted_none rfl) (by kernel_rfl) (fun K hK => ?_)
        (unfold Oper.wp; go_simp)
        refine hK.out _ _ ?_
        clear hK K
        try simp only [Act.put, aq0, aq1, aq2]
        refine goU 19 (fun h => absurd h (by decide)) ?_
        refine goU 20 (fun h => absurd h (by decide)) ?_
        refine readyT (rs := [21]) (by kernel_rfl) (by simp) (all1 ?_)
        refine opTT (i := 21) rfl (wanted_none rfl) (by kernel_rfl) (fun K hK => ?_)
        (unfold Oper.wp; go_simp)
        refine hK.out _ _ ?_
        clear hK K
        try simp only [Act.put, aq0, aq1, aq2]
        refine wpAnyT_done (by kernel_rfl) ?_ _
        refine NoPanic.normal ?_
        (go_wp2; go_roundw; (case rel => (refine ⟨j + 1, _, _, cb ++ bs6, by omega, by go_num, ?_, ?_, HAP6.out, ⟨by go_simp, by go_simp, by go_simp, by go_simp, by go_simp⟩, by go_simp, by go_simp, (Z6.out.setCell (by simp) _).setCell (by simp) _⟩; (rw [HTr.out]; exact (HR6.out.set_low (by simp) _).set_low (by simp) _); (rw [HTw.out]; exact (HG6.out.set_low (by simp) _).set_low (by simp) _))); (case measure => (simp [intOf]; omega)))
    · have hjj : j = (instsF p).length := by omega
      subst hjj
      obtain ⟨A4, c4, bs4, rfl, q4, _⟩ := HGR.out.grow.rep
      obtain ⟨A5, c5, bs5, rfl, q5, _⟩ := HGW.out.grow.rep
      rw [show (instsF p).length = (usesF p).length from ul.out.symm, List.take_length] at q4 q5 hX
      rw [show (instsF p).length = (usesF p).length from ul.out.symm]
      simp only [List.length_map] at q4 q5 hX
      have HX := Lib.hid hX
      have Q4 := Lib.hid q4
      have Q5 := Lib.hid q5
      clear q4 q5 hX
      go_wp2
      go_ret2
      refine ⟨w1.heap.size, rfl, ⟨A1, A2, A3, A4, A5, c1, c2, c3, c4, c5, _, _, _, _, ?_, HP.out.below Sr, R1.out.below hb, Q4.out, Q5.out, HFR.out⟩, hz1, Sr⟩
      rw [← ul.out]; exact HX.out
theorem trace_y {w : World} {p : Pgm} {cs : List Value} {bs : List Nat} (h : Rep w p.d cs bs) (hv : progOk p = true) :
    Calls Tryz.prog 34 #[.agg cs.toArray] w fun e w' => ∃ g, e = .returned (.tuple #[.pointer (some ⟨g, 0, none⟩), .bool true]) ∧ Trc w' p g ∧ w.heap.size ≤ g ∧ Below w.heap.size w w' :=
  (trace_yN h hv).mono fun _ _ ⟨g, h1, h2, h3, h4⟩ => ⟨g, h1, h2.trc, h3, h4⟩
end Go.Proofs.YtpmgmekbnbligaaGreat

/- The cells that a valid program's instances touch: l6Uses of the reference. -/
namespace Go.Proofs.YtpmgmekbnbligaaGreat
open Go.ChangeShapes Go.WideShapes Go.ChangeAt Go.RowKit Go.Deep

/-- the call answers the uses -/
def MadeUses (w : World) (l : List Us) (e : Ending) (w' : World) : Prop :=
  ∃ A c bs, e = .returned (.slice A l.length c) ∧ Rep w' (sls Us.d l) [.slice A l.length c] bs ∧ (∀ b ∈ bs, w.heap.size ≤ b) ∧ Below w.heap.size w w'
theorem usesF_at {p : Pgm} {j : Nat} (h : j < (instsF p).length) : j < (usesF p).length := by rw [usesF_len]; exact h
theorem usesF_get' {p : Pgm} {j : Nat} (h : j < (instsF p).length) : (usesF p)[j]'(usesF_at h) = useF p (instsF p)[j] := by simp [usesF]
theorem map_take' {α β : Type} {f : α → β} {l : List α} {j : Nat} (h : j < l.length) : (l.take (j + 1)).map f = (l.take j).map f ++ [f l[j]] := by
  rw [List.take_succ_eq_append_getElem h, List.map_append]; rfl
theorem Tryz.infoUse : (Tryz.prog.info? 142).map (fun i => (i.zero, i.size, decide (i.bytes ≤ 1024))) = some (some (.agg #[.slice none 0 0, .int .i64 0]), 2, true) := by kernel_rfl
set_option maxRecDepth 100000 in
set_option maxHeartbeats 8000000 in
theorem l6Uses_c {w : World} {p : Pgm} {cs : List Value} {bs : List Nat} (h : Rep w p.d cs bs) (hv : progOk p = true) :
    Calls Tryz.prog 82 #[.agg cs.toArray] w (MadeUses w (usesF p)) := by
  have HLT := Lib.hid (Rep.lt _ h)
  have HP := Lib.hid h
  obtain ⟨A1, c1, A2, c2, d1, d2, rfl, rfl, g1, g2⟩ := Rep.pgm_iff.1 h
  have Garrays := Lib.hid g1
  have Gparts := Lib.hid g2
  clear h g1 g2
  have hln := (progOk_all hv).2.2
  have HV := Lib.hid hv; clear hv
  have ul := Lib.hid (usesF_len p)
  go_enter Tryz.func82, Tryz.ntmps82
  have hge : (Value.slice (some ⟨w.heap.size + 1, 0, none⟩) 0 0).ownBlock = some (w.heap.size + 1) := rfl
  go_wp2_with fail
  refine (l4Instances_c (HP.out.below bel) HV.out).mono ?_
  rintro e w1 ⟨A3, n3, c3, bs3, rfl, r1, _, hb13, b1⟩
  have P1 : Box2 w1 w.heap.size (.slice A1 p.arrays.length c1) (.slice A2 p.parts.length c2) := by
    refine ⟨?_, ?_⟩ <;> (rw [b1.cell (by simp [World.setCell]; try omega)]; go_simp)
  have S1 : Below w.heap.size w w1 := bel
  obtain ⟨rfl, _, _⟩ := r1.sls_len
  have HB3 := Lib.hid (show ∀ y ∈ bs3, w.heap.size + 2 ≤ y ∧ y < w1.heap.size from fun y hy => ⟨by have := hb13 y hy; simp at this; omega, Rep.lt _ r1 y hy⟩)
  have R1 := Lib.hid r1; clear r1 hb13
  obtain ⟨U0, hU0⟩ : ∃ U0, U0 = Value.slice (some ⟨w.heap.size + 1, 0, none⟩) 0 0 := ⟨_, rfl⟩
  have HU1 := Lib.hid (show Grow w1 (w.heap.size + 1) 142 2 U0 [] by rw [hU0]; exact Grow.below (Grow.madeE _ _ (by simp) (by simp)) b1)
  have HU := Lib.hid (show ∀ y, U0.ownBlock = some y → y = w.heap.size + 1 from fun y hy => by rw [hU0] at hy; simp [Value.ownBlock] at hy; omega)
  have HAP := Lib.hid (show ∀ y ∈ bs3, U0.ownBlock ≠ some y from fun y hy e => by have := HU.out y e; have := (HB3.out y hy).1; omega)
  have HU0 := Lib.hid hU0; clear hU0 b1 hge
  have lp1 := lt_of_cell P1.1
  go_wp2
  go_loopw [3, 5] (fun u i wr => ∃ j : Nat, j ≤ (instsF p).length ∧ i = .int .i64 j ∧ Grow wr (w.heap.size + 1) 142 2 u (((usesF p).take j).map Us.d) ∧ Grew w1 wr U0 u) (fun _ i _ => (instsF p).length - (intOf i).toNat)
  case atStart => exact ⟨0, Nat.zero_le _, rfl, by rw [← HU0.out]; simpa using HU1.out, by rw [← HU0.out]; exact Grew.refl _ _⟩
  case round =>
    obtain ⟨j, hj, rfl, hG, hgr⟩ := hrel
    have Sr : Below w.heap.size w wr := S1.trans (hgr.below S1.size fun b hb => by have := HU.out b hb; omega)
    have Pr := hgr.touch.box2 P1 (fun hm => by have := HU.out _ (mem_ownL.1 hm); omega)
    have lp := lt_of_cell Pr.1
    have HG := Lib.hid hG; clear hG
    have Hgr := Lib.hid hgr; clear hgr
    obtain ⟨Au, cu, hfu, _, _⟩ := HG.out.form
    rw [List.length_map, List.length_take, show min j (usesF p).length = j by have := ul.out; omega] at hfu
    by_cases hlt : j < (instsF p).length
    · have HT := Lib.hid (map_take' (f := Us.d) (usesF_at hlt))
      have HUJ := Lib.hid (usesF_get' hlt)
      have hin := InOk.of_mem (List.getElem_mem hlt)
      have hfi := hin.fine HV.out
      have hok := progOk_arr HV.out
      obtain ⟨k, s, hpk, hss, hk, hs, e1, e2⟩ := hin.get
      have HCF := Lib.hid (show CellsF p.arrays (instsF p)[j].point p.parts[k].body[s] = (((usesF p)[j]'(usesF_at hlt)).reads, ((usesF p)[j]'(usesF_at hlt)).write, true) by
        rw [HUJ.out, ← e2, CellsF_fine hfi.fine]; rfl)
      have hw : I64 ((usesF p)[j]'(usesF_at hlt)).write := by
        rw [HUJ.out]
        have hcb := cellsF_bd hok
        have := cellF_bd (a := (stmF p (instsF p)[j]).write) (pt := (instsF p)[j].point) hok
        show I64 (cellF p.arrays (stmF p (instsF p)[j]).write (instsF p)[j].point)
        unfold I64; omega
      have HSV := Lib.hid (show StmtValidF p.parts[k].body[s] ((prtF p (instsF p)[j].part).nest.length : Int) = true by rw [← e2]; exact hfi.stm)
      have HPT := Lib.hid hfi.pt
      have HOK := Lib.hid hok
      clear hin hfi hok e1 e2
      have RR := Lib.hid (R1.out.grew Hgr.out HAP.out)
      have GPr := Lib.hid (Gparts.out.below Sr)
      have GAr := Lib.hid (Garrays.out.below Sr)
      obtain ⟨be, oe, cse, le, rfl, hble, hre, _, _, hce⟩ := RR.out.sls_at In.d_size (k := j) hlt
      have Ge := Lib.hid hre
      obtain ⟨A3e, c3e, d3e, rfl, rfl, g1e, g2e, g3e⟩ := Rep.in_iff.1 hre
      have k0e := (hce 0 _ rfl).1; rw [Nat.add_zero] at k0e
      have k1e := (hce 1 _ rfl).1
      have k2e := (hce 2 _ rfl).1
      have Q1e := Lib.hid g1e
      have Q2e := Lib.hid g2e
      have Q3e := Lib.hid g3e
      clear hce hre g1e g2e g3e
      rw [hpk] at k0e
      rw [hss] at k1e
      obtain ⟨bf, of, csf, lf, rfl, hblf, hrf, _, _, hcf⟩ := GPr.out.sls_at Prt.d_size (k := k) hk
      have Gf := Lib.hid hrf
      obtain ⟨A1f, c1f, A2f, c2f, d1f, d2f, rfl, rfl, g1f, g2f⟩ := Rep.prt_iff.1 hrf
      have k0f := (hcf 0 _ rfl).1; rw [Nat.add_zero] at k0f
      have k1f := (hcf 1 _ rfl).1
      have Q1f := Lib.hid g1f
      have Q2f := Lib.hid g2f
      clear hcf hrf g1f g2f
      obtain ⟨bg, og, csg, lg, rfl, hblg, hrg, _, _, hcg⟩ := Q2f.out.sls_at Stm.d_size (k := s) hs
      have Gg := Lib.hid hrg
      obtain ⟨A2g, c2g, A5g, c5g, A8g, c8g, A9g, c9g, d2g, d5g, d8g, d9g, rfl, rfl, g1g, g2g, g3g, g4g, g5g, g6g, g7g, g8g, g9g⟩ := Rep.stm_iff.1 hrg
      have k0g := (hcg 0 _ rfl).1; rw [Nat.add_zero] at k0g
      have k1g := (hcg 1 _ rfl).1
      have k2g := (hcg 2 _ rfl).1
      have k3g := (hcg 3 _ rfl).1
      have k4g := (hcg 4 _ rfl).1
      have k5g := (hcg 5 _ rfl).1
      have k6g := (hcg 6 _ rfl).1
      have k7g := (hcg 7 _ rfl).1
      have k8g := (hcg 8 _ rfl).1
      have Q1g := Lib.hid g1g
      have Q2g := Lib.hid g2g
      have Q3g := Lib.hid g3g
      have Q4g := Lib.hid g4g
      have Q5g := Lib.hid g5g
      have Q6g := Lib.hid g6g
      have Q7g := Lib.hid g7g
      have Q8g := Lib.hid g8g
      have Q9g := Lib.hid g9g
      clear hcg hrg g1g g2g g3g g4g g5g g6g g7g g8g g9g
      obtain ⟨u, hu⟩ : ∃ u, u = (usesF p)[j]'(usesF_at hlt) := ⟨_, rfl⟩
      rw [← hu] at HT HCF hw
      clear hu hpk hss
      subst hfu
      go_wp2_with fail
      refine wp_region_noPanic ?_
      refine wp_region_held_drew (S := fun w' => w'.cell? ⟨w.heap.size, 0, none⟩ = some (.slice A1 p.arrays.length c1) ∧ w'.cell? ⟨w.heap.size, 1, none⟩ = some (.slice (some ⟨bf, of, none⟩) p.parts.length c2) ∧ w'.cell? ⟨be, oe + j * 3, none⟩ = some (.int .i64 (k : Int)) ∧ w'.cell? ⟨be, oe + j * 3 + 1, none⟩ = some (.int .i64 (s : Int)) ∧ w'.cell? ⟨be, oe + j * 3 + 2, none⟩ = some (.slice A3e (instsF p)[j].point.length c3e) ∧ w'.cell? ⟨bf, of + k * 2 + 1, none⟩ = some (.slice (some ⟨bg, og, none⟩) p.parts[k].body.length c2f) ∧ w'.cell? ⟨bg, og + s * 9, none⟩ = some (.string p.parts[k].body[s].write.arr) ∧ w'.cell? ⟨bg, og + s * 9 + 1, none⟩ = some (.slice A2g p.parts[k].body[s].write.subs.length c2g) ∧ w'.cell? ⟨bg, og + s * 9 + 2, none⟩ = some (.int .i64 p.parts[k].body[s].value.kind) ∧ w'.cell? ⟨bg, og + s * 9 + 3, none⟩ = some (.int .i64 p.parts[k].body[s].value.num) ∧ w'.cell? ⟨bg, og + s * 9 + 4, none⟩ = some (.slice A5g p.parts[k].body[s].value.index.coefs.length c5g) ∧ w'.cell? ⟨bg, og + s * 9 + 5, none⟩ = some (.int .i64 p.parts[k].body[s].value.index.const) ∧ w'.cell? ⟨bg, og + s * 9 + 6, none⟩ = some (.string p.parts[k].body[s].value.read.arr) ∧ w'.cell? ⟨bg, og + s * 9 + 7, none⟩ = some (.slice A8g p.parts[k].body[s].value.read.subs.length c8g) ∧ w'.cell? ⟨bg, og + s * 9 + 8, none⟩ = some (.slice A9g p.parts[k].body[s].value.kids.length c9g)) (by kernel_rfl) (⟨Pr.1, Pr.2, k0e, k1e, k2e, k1f, k0g, k1g, k2g, k3g, k4g, k5g, k6g, k7g, k8g⟩) (fun hHeld => ?_)
      refine goR 0 hHeld ?_
      refine goR 1 hHeld ?_
      refine goR 2 hHeld ?_
      refine goR 3 hHeld ?_
      refine goR 4 hHeld ?_
      refine goR 5 hHeld ?_
      refine goR 6 hHeld ?_
      refine goR 7 hHeld ?_
      refine goR 8 hHeld ?_
      refine goR 9 hHeld ?_
      refine goR 10 hHeld ?_
      refine goR 11 hHeld ?_
      refine goR 12 hHeld ?_
      refine goR 13 hHeld ?_
      refine goR 14 hHeld ?_
      refine goR 15 hHeld ?_
      refine goR 16 hHeld ?_
      refine goR 17 hHeld ?_
      refine goR 18 hHeld ?_
      refine goR 19 hHeld ?_
      refine goR 20 hHeld ?_
      refine goR 21 hHeld ?_
      refine goR 22 hHeld ?_
      refine goR 23 hHeld ?_
      refine stepR (i := 24) rfl (by kernel_rfl) (wanted_none rfl) (fun K hK => ?_)
      go_simp
      (refine (l4Cells_c (GAr.out.drewN 1) (Gg.out.drewN 1) (Q3e.out.drewN 1) HOK.out HSV.out HPT.out).mono ?_; rintro e w2 ⟨A6, n6, c6, bs6, rfl, r6, nd6, hb6, b2⟩; rw [HCF.out] at r6 ⊢)
      go_wp2_with fail
      refine hK.out _ _ (by obtain ⟨q0_, q1_, q2_, q3_, q4_, q5_, q6_, q7_, q8_, q9_, q10_, q11_, q12_, q13_, q14_⟩ := hHeld; exact ⟨cell_toC q0_ b2, cell_toC q1_ b2, cell_toC q2_ b2, cell_toC q3_ b2, cell_toC q4_ b2, cell_toC q5_ b2, cell_toC q6_ b2, cell_toC q7_ b2, cell_toC q8_ b2, cell_toC q9_ b2, cell_toC q10_ b2, cell_toC q11_ b2, cell_toC q12_ b2, cell_toC q13_ b2, cell_toC q14_ b2⟩) (fun hHeld => ?_)
      clear hK K
      try simp only [Act.put, aq0, aq1, aq2]
      refine goR 25 hHeld ?_
      refine goR 26 hHeld ?_
      refine goR 27 hHeld ?_
      refine goR 28 hHeld ?_
      refine goR 29 hHeld ?_
      refine goR 30 hHeld ?_
      refine goR 31 hHeld ?_
      refine wpAnyH_done (by kernel_rfl) ?_ _
      refine NoPanic.normal ?_
      have T2 : Below wr.heap.size wr w2 := of_drew b2
      obtain ⟨rfl, _, _⟩ := r6.ints_len
      have O6 := Lib.hid (one_newN (N := w2.heap.size) (Rep.us_iff.2 ⟨A6, c6, bs6, rfl, rfl, r6, hw⟩) 142 rfl)
      have HB6 := Lib.hid (show ∀ y ∈ bs6, wr.heap.size ≤ y from fun y hy => hb6 y hy)
      have hz2 := T2.size
      have hzr := Sr.size
      clear r6 hb6 b2
      go_wp2_with (
        at_builtin
        refine wpList_append_more (w0 := wr) (B := w.heap.size + 1) (xs := ((usesF p).take j).map Us.d) (ys := [u.d]) rfl (.tmp 47) (.tmp 51) _ rfl _ Tryz.underlying138 Tryz.infoUse rfl (by decide) rfl HG.out ?hbw rfl O6.out ?hys nd6 HB6.out ?hlen ?hba ?_
        case hbw => exact bel
        case hys => intro y hy; simp only [List.mem_singleton] at hy; rw [hy]; rfl
        case hlen => simp; omega
        case hba => omega
        intro v4 w4 hG4 hg4)
      rw [← HT.out] at hG4
      have HG4 := Lib.hid hG4
      have g4 := Lib.hid (Hgr.out.trans ((Grew.of_below (show Below wr.heap.size wr (w2.alloc (.cells #[.slice A6 u.reads.length c6, .int .i64 u.write] 142)) from T2.alloc T2.size _) _).trans hg4))
      clear hG4 hg4
      go_wp2
      go_roundw
      case rel => exact ⟨j + 1, by omega, by go_num, HG4.out, g4.out⟩
      case measure => simp [intOf]; omega
    · have hjj : j = (instsF p).length := by omega
      subst hjj
      obtain ⟨A4, c4, bs4, he, q4, _, qb4⟩ := HG.out.rep
      rw [show (instsF p).length = (usesF p).length from ul.out.symm, List.take_length, List.length_map] at he q4
      subst he
      go_wp2
      go_ret
      exact ⟨A4, c4, bs4, rfl, q4, fun b hb => by have := qb4 b hb; omega, Sr⟩
end Go.Proofs.YtpmgmekbnbligaaGreat

/- The kinds of dependences between two instances, on both sides; DepBetween. -/
namespace Go.Proofs.YtpmgmekbnbligaaGreat
open Go.ChangeShapes Go.WideShapes Go.ChangeAt Go.RowKit Go.Deep

section
variable {w : World} {xs : List Int} {v : Int} {A : Option Addr} {n c : Nat} {bs : List Nat}
def eqv (v : Int) (x : Int) : Bool := v == x
theorem any_eqv (xs : List Int) (v : Int) : xs.any (eqv v) = xs.contains v := by
  induction xs with
  | nil => rfl
  | cons x xs ih => rw [List.any_cons, ih, List.contains_cons]; rfl
theorem Index_int_c (h : Rep w (ints xs) [.slice A n c] bs) :
    Calls Tryz.prog 173 #[.slice A n c, .int .i64 v] w fun e w' => e = .returned (.int .i64 (idxI (eqv v) xs 0)) ∧ w = w' := by
  obtain ⟨rfl, h2, h3⟩ := h.ints_len
  have hn : xs.length ≤ 9223372036854775807 := Nat.le_trans h2 h3
  clear h2 h3
  go_enter Tryz.func173, Tryz.ntmps173
  go_wp2
  go_loop [8] (fun i => ∃ j : Nat, j ≤ xs.length ∧ i = .int .i64 j ∧ idxI (eqv v) xs 0 = idxI (eqv v) (xs.drop j) j) (fun i => xs.length - (intOf i).toNat)
  case atStart => exact ⟨0, Nat.zero_le _, rfl, by simp⟩
  case round =>
    obtain ⟨j, hj, rfl, hi⟩ := hrel
    have HI := Lib.hid hi; clear hi
    by_cases hlt : j < xs.length
    · obtain ⟨b, o, rfl, _, _, hc, _⟩ := h.ints_at hlt
      have hd := Lib.hid (idxI_drop (eqv v) xs j hlt)
      rw [gi_eq hlt] at hc
      by_cases hpx : v = xs[j]
      · have hd2 := Lib.hid (hd.out.trans (if_pos (by simp [eqv, hpx])))
        have q1 : (v == xs[j]) = true := ieq_t hpx
        clear hpx
        go_wp2
        go_ret
        exact ⟨ret_int (by rw [HI.out, hd2.out]), rfl⟩
      · have hd2 := Lib.hid (hd.out.trans (if_neg (by simp [eqv, hpx])))
        have q1 : (v == xs[j]) = false := ieq_f hpx
        clear hpx
        go_wp2
        go_round
        case rel => exact ⟨j + 1, by omega, by go_num, by rw [HI.out, hd2.out]⟩
        case measure => simp [intOf]; omega
    · have hjj : j = xs.length := by omega
      subst hjj
      go_wp2
      go_ret
      exact ⟨ret_int (by rw [HI.out]; simp [idxI]), rfl⟩
theorem Contains_int_c (h : Rep w (ints xs) [.slice A n c] bs) :
    Calls Tryz.prog 131 #[.slice A n c, .int .i64 v] w fun e w' => e = .returned (.bool (xs.contains v)) ∧ w = w' := by
  have HX := Lib.hid (any_eqv xs v)
  have HI := Lib.hid (idxI_any (eqv v) xs 0 (Int.le_refl _))
  go_enter Tryz.func131, Tryz.ntmps131
  go_wp2_with fail
  refine (Index_int_c h).mono ?_
  rintro e w' ⟨rfl, rfl⟩
  go_wp2
  go_ret
  exact ⟨ret_bool (HI.out.trans HX.out), rfl⟩
theorem l6Has_c (h : Rep w (ints xs) [.slice A n c] bs) :
    Calls Tryz.prog 117 #[.slice A n c, .int .i64 v] w fun e w' => e = .returned (.bool (xs.contains v)) ∧ w = w' := by
  obtain ⟨rfl, h2, h3⟩ := h.ints_len
  have hn : xs.length ≤ 9223372036854775807 := Nat.le_trans h2 h3
  clear h2 h3
  have HX := Lib.hid (any_eqv xs v)
  go_enter Tryz.func117, Tryz.ntmps117
  go_wp2
  go_loop [5] (fun i => ∃ j : Nat, j ≤ xs.length ∧ i = .int .i64 j ∧ xs.any (eqv v) = (xs.drop j).any (eqv v)) (fun i => xs.length - (intOf i).toNat)
  case atStart => exact ⟨0, Nat.zero_le _, rfl, by simp⟩
  case round =>
    obtain ⟨j, hj, rfl, hi⟩ := hrel
    have HI := Lib.hid hi; clear hi
    by_cases hlt : j < xs.length
    · obtain ⟨b, o, rfl, _, _, hc, _⟩ := h.ints_at hlt
      have hd := Lib.hid (any_drop (eqv v) xs j hlt)
      rw [gi_eq hlt] at hc
      by_cases hpx : v = xs[j]
      · have hd2 := Lib.hid (show xs.contains v = true by rw [← HX.out, HI.out, hd.out, show eqv v xs[j] = true by simp [eqv, hpx], Bool.true_or])
        have q1 : (xs[j] == v) = true := ieq_t hpx.symm
        clear hpx
        go_wp2
        go_ret
        exact ⟨ret_bool (by have := hd2.out; simp at this; simp [this]), rfl⟩
      · have hd2 := Lib.hid (show xs.any (eqv v) = (xs.drop (j + 1)).any (eqv v) by rw [HI.out, hd.out, show eqv v xs[j] = false by simp [eqv, hpx], Bool.false_or])
        have q1 : (xs[j] == v) = false := ieq_f (fun h => hpx h.symm)
        clear hpx
        go_wp2
        go_round
        case rel => exact ⟨j + 1, by omega, by go_num, hd2.out⟩
        case measure => simp [intOf]; omega
    · have hjj : j = xs.length := by omega
      subst hjj
      have hd2 := Lib.hid (show xs.contains v = false by rw [← HX.out, HI.out, List.drop_length]; rfl)
      go_wp2
      go_ret
      exact ⟨ret_bool (by have := hd2.out; simp at this; simp [this]), rfl⟩
end

/-- the trace's cells, the elements by number -/
theorem Trc.open {w : World} {p : Pgm} {g : Nat} (h : Trc w p g) (hn : 0 < (usesF p).length) : ∃ (u0 u1 : Value) (A3 : Option Addr) (b4 o4 c3 c4 b5 o5 c5 : Nat), Box5 w g u0 u1 (.slice A3 (instsF p).length c3) (.slice (some ⟨b4, o4, none⟩) (usesF p).length c4) (.slice (some ⟨b5, o5, none⟩) (usesF p).length c5) ∧ b4 < w.heap.size ∧ b5 < w.heap.size ∧
    (∀ k, k < (usesF p).length → ∃ A c bs, w.cell? ⟨b4, o4 + k, none⟩ = some (.slice A (nthU (usesF p) k).reads.length c) ∧ Rep w (ints (nthU (usesF p) k).reads) [.slice A (nthU (usesF p) k).reads.length c] bs) ∧
    ∀ k, k < (usesF p).length → w.cell? ⟨b5, o5 + k, none⟩ = some (.int .i64 (nthU (usesF p) k).write) ∧ I64 (nthU (usesF p) k).write := by
  obtain ⟨A1, A2, A3, A4, A5, c1, c2, c3, c4, c5, bs, bs3, bs4, bs5, h1, _, _, h4, h5⟩ := h
  obtain ⟨b4, o4, _, _, rfl, hl4, _⟩ := h4.sls_at (s := 1) (fun _ => rfl) (k := 0) hn
  obtain ⟨b5, o5, _, _, rfl, hl5, _⟩ := h5.sls_at (s := 1) (fun _ => rfl) (k := 0) hn
  refine ⟨_, _, A3, b4, o4, c3, c4, b5, o5, c5, h1, hl4, hl5, fun k hk => ?_, fun k hk => ?_⟩
  · obtain ⟨b, o, cs, l, he, hbl, hr, _, _, hc⟩ := h4.sls_at (s := 1) (fun _ => rfl) (k := k) hk
    obtain ⟨rfl, rfl⟩ : b4 = b ∧ o4 = o := by simpa using he
    have hr' : Rep w (ints (usesF p)[k].reads) cs l := hr
    obtain ⟨A, c, rfl⟩ := hr'.ints_form1
    rw [nthU_eq hk]
    have := (hc 0 _ rfl).1
    rw [Nat.mul_one, Nat.add_zero] at this
    exact ⟨A, c, l, this, hr'⟩
  · obtain ⟨b, o, cs, l, he, hbl, hr, _, _, hc⟩ := h5.sls_at (s := 1) (fun _ => rfl) (k := k) hk
    obtain ⟨rfl, rfl⟩ : b5 = b ∧ o5 = o := by simpa using he
    obtain ⟨rfl, rfl, hi⟩ : cs = [.int .i64 (usesF p)[k].write] ∧ l = [] ∧ I64 (usesF p)[k].write := hr
    rw [nthU_eq hk]
    have := (hc 0 _ rfl).1
    rw [Nat.mul_one, Nat.add_zero] at this
    exact ⟨this, hi⟩

set_option maxRecDepth 100000 in
set_option maxHeartbeats 8000000 in
theorem between_c {w : World} {p : Pgm} {g i j : Nat} (h : Trc w p g) (hi : i < (usesF p).length) (hj : j < (usesF p).length) :
    Calls Tryz.prog 97 #[.pointer (some ⟨g, 0, none⟩), .int .i64 (i : Int), .int .i64 (j : Int)] w fun e w' => e = .returned (.int .i64 (kindsF (nthU (usesF p) i) (nthU (usesF p) j))) ∧ Below w.heap.size w w' := by
  obtain ⟨u0, u1, A3, b4, o4, c3, c4, b5, o5, c5, ⟨x0, x1, x2, x3, x4⟩, hl4, hl5, hR, hW⟩ := h.open (by omega)
  obtain ⟨Ai, ci, bsi, kri, ri⟩ := hR i hi
  obtain ⟨Aj, cj, bsj, krj, rj⟩ := hR j hj
  have kwi := (hW i hi).1
  have kwj := (hW j hj).1
  clear hR hW h
  have RI := Lib.hid ri; clear ri
  have RJ := Lib.hid rj; clear rj
  obtain ⟨a, ha⟩ : ∃ a, a = nthU (usesF p) i := ⟨_, rfl⟩
  obtain ⟨b, hb⟩ : ∃ b, b = nthU (usesF p) j := ⟨_, rfl⟩
  rw [← ha] at kri kwi RI ⊢
  rw [← hb] at krj kwj RJ ⊢
  have HK := Lib.hid (show kindsF a b = (if b.reads.contains a.write then 1 else 0) + (if a.reads.contains b.write then 2 else 0) + (if a.write = b.write then 4 else 0) from rfl)
  obtain ⟨m, hm⟩ : ∃ m, m = (usesF p).length := ⟨_, rfl⟩
  rw [← hm] at x3 x4 hi hj
  clear ha hb hm x0 x1 x2
  cases h1 : b.reads.contains a.write <;> cases h2 : a.reads.contains b.write <;> by_cases h3 : a.write = b.write
  all_goals (
    have HX := HK.out
    rw [h1, h2] at HX
    first | rw [if_pos h3] at HX | rw [if_neg h3] at HX
    have HH := Lib.hid HX; clear HX HK
    have H1 := Lib.hid h1; clear h1
    have H2 := Lib.hid h2; clear h2
    have q3 : (a.write == b.write) = decide (a.write = b.write) := by simp [h3]
    first | rw [decide_eq_true h3] at q3 | rw [decide_eq_false h3] at q3
    clear h3
    go_enter Tryz.func97, Tryz.ntmps97
    go_wp2_with fail
    refine wp_region_noPanic ?_
    refine wp_region_held_drew (S := fun w' => w'.cell? ⟨g, 3, none⟩ = some (.slice (some ⟨b4, o4, none⟩) m c4) ∧ w'.cell? ⟨g, 4, none⟩ = some (.slice (some ⟨b5, o5, none⟩) m c5) ∧ w'.cell? ⟨b4, o4 + j, none⟩ = some (.slice Aj b.reads.length cj) ∧ w'.cell? ⟨b5, o5 + i, none⟩ = some (.int .i64 a.write)) (by kernel_rfl) (⟨x3, x4, krj, kwi⟩) (fun hHeld => ?_)
    refine goR 0 hHeld ?_
    refine goR 1 hHeld ?_
    refine goR 2 hHeld ?_
    refine goR 3 hHeld ?_
    refine goR 4 hHeld ?_
    refine goR 5 hHeld ?_
    refine goR 6 hHeld ?_
    refine goR 7 hHeld ?_
    refine goR 8 hHeld ?_
    refine goR 9 hHeld ?_
    refine goR 10 hHeld ?_
    refine goR 11 hHeld ?_
    refine goR 12 hHeld ?_
    refine goR 13 hHeld ?_
    refine stepR (i := 14) rfl (by kernel_rfl) (wanted_none rfl) (fun K hK => ?_)
    go_simp
    (refine (Contains_int_c (RJ.out.drewN 1)).mono ?_; rintro e w' ⟨rfl, rfl⟩; rw [H1.out])
    go_wp2_with fail
    refine hK.out _ _ (hHeld) (fun hHeld => ?_)
    clear hK K
    try simp only [Act.put, aq0, aq1, aq2]
    refine wpAnyH_done (by kernel_rfl) ?_ _
    refine NoPanic.normal ?_
    go_wp2_with fail
    refine wp_region_noPanic ?_
    refine wp_region_held_drew (S := fun w' => w'.cell? ⟨g, 3, none⟩ = some (.slice (some ⟨b4, o4, none⟩) m c4) ∧ w'.cell? ⟨g, 4, none⟩ = some (.slice (some ⟨b5, o5, none⟩) m c5) ∧ w'.cell? ⟨b4, o4 + i, none⟩ = some (.slice Ai a.reads.length ci) ∧ w'.cell? ⟨b5, o5 + j, none⟩ = some (.int .i64 b.write)) (by kernel_rfl) (⟨x3, x4, kri, kwj⟩) (fun hHeld => ?_)
    refine goR 0 hHeld ?_
    refine goR 1 hHeld ?_
    refine goR 2 hHeld ?_
    refine goR 3 hHeld ?_
    refine goR 4 hHeld ?_
    refine goR 5 hHeld ?_
    refine goR 6 hHeld ?_
    refine goR 7 hHeld ?_
    refine goR 8 hHeld ?_
    refine goR 9 hHeld ?_
    refine goR 10 hHeld ?_
    refine goR 11 hHeld ?_
    refine goR 12 hHeld ?_
    refine goR 13 hHeld ?_
    refine stepR (i := 14) rfl (by kernel_rfl) (wanted_none rfl) (fun K hK => ?_)
    go_simp
    (refine (Contains_int_c (RI.out.drewN 2)).mono ?_; rintro e w' ⟨rfl, rfl⟩; rw [H2.out])
    go_wp2_with fail
    refine hK.out _ _ (hHeld) (fun hHeld => ?_)
    clear hK K
    try simp only [Act.put, aq0, aq1, aq2]
    refine wpAnyH_done (by kernel_rfl) ?_ _
    refine NoPanic.normal ?_
    go_wp2_with fail
    go_quiet (fail)
    go_wp2
    go_ret
    refine ⟨ret_int (by rw [HH.out]; rfl), ?_⟩
    first | exact below_drewN (below_drewN (Below.refl _ _) _) _ | exact below_drewN (Below.refl _ _) _)
set_option maxHeartbeats 4000000 in
theorem l6Kinds_c {w : World} {a b : Us} {cs cs' : List Value} {bs bs' : List Nat} (h : Rep w a.d cs bs) (h' : Rep w b.d cs' bs') :
    Calls Tryz.prog 83 #[.agg cs.toArray, .agg cs'.toArray] w fun e w' => e = .returned (.int .i64 (kindsF a b)) ∧ Below w.heap.size w w' := by
  obtain ⟨A1, c1, d1, rfl, rfl, ha, hia⟩ := Rep.us_iff.1 h
  obtain ⟨A2, c2, d2, rfl, rfl, hb, hib⟩ := Rep.us_iff.1 h'
  have RA := Lib.hid ha; clear ha h hia
  have RB := Lib.hid hb; clear hb h' hib
  have HK := Lib.hid (show kindsF a b = (if b.reads.contains a.write then 1 else 0) + (if a.reads.contains b.write then 2 else 0) + (if a.write = b.write then 4 else 0) from rfl)
  cases h1 : b.reads.contains a.write <;> cases h2 : a.reads.contains b.write <;> by_cases h3 : a.write = b.write
  all_goals (
    have HX := HK.out
    rw [h1, h2] at HX
    first | rw [if_pos h3] at HX | rw [if_neg h3] at HX
    have HH := Lib.hid HX; clear HX HK
    have H1 := Lib.hid h1; clear h1
    have H2 := Lib.hid h2; clear h2
    have q3 : (a.write == b.write) = decide (a.write = b.write) := by simp [h3]
    first | rw [decide_eq_true h3] at q3 | rw [decide_eq_false h3] at q3
    clear h3
    go_enter Tryz.func83, Tryz.ntmps83
    go_wp2_with fail
    refine (l6Has_c (RB.out.below bel)).mono ?_
    rintro e w' ⟨rfl, rfl⟩
    rw [H1.out]
    go_wp2_with fail
    refine (l6Has_c (RA.out.below bel)).mono ?_
    rintro e w' ⟨rfl, rfl⟩
    rw [H2.out]
    go_wp2
    go_ret
    exact ⟨ret_int (by rw [HH.out]; rfl), bel⟩)
end Go.Proofs.YtpmgmekbnbligaaGreat

/- All dependences of a program, on both sides. -/
namespace Go.Proofs.YtpmgmekbnbligaaGreat
open Go.ChangeShapes Go.WideShapes Go.ChangeAt Go.RowKit Go.Deep

/-- the call answers new dependences -/
def MadeDeps (w : World) (l : List Dp) (e : Ending) (w' : World) : Prop :=
  ∃ A c bs, e = .returned (.slice A l.length c) ∧ Rep w' (sls Dp.d l) [.slice A l.length c] bs ∧ bs.Nodup ∧ (∀ b ∈ bs, w.heap.size ≤ b) ∧ Below w.heap.size w w'
theorem MadeDeps.of_grow {w w' : World} {e : TypeId} {v : Value} {l : List Dp} {B : Nat} (h : Grow w' B e 3 v (l.map Dp.d)) (hB : w.heap.size ≤ B) (hb : Below w.heap.size w w') : MadeDeps w l (.returned v) w' := by
  obtain ⟨A, c, bs, rfl, h1, h2, h3⟩ := h.rep
  rw [List.length_map] at h1 ⊢
  exact ⟨A, c, bs, rfl, h1, h2, fun b hb' => Nat.le_trans hB (h3 b hb'), hb⟩
theorem depsN_step (us : List Us) (i : Nat) : depsN us (i + 1) = depsN us i ++ depsB us i us.length := rfl
theorem depsB_nil (us : List Us) (i : Nat) : depsB us i (i + 1) = [] := by unfold depsB; rw [Nat.sub_self]; rfl
theorem depsL {us : List Us} {i k : Nat} (h : us.length ≤ 120) (hi : i ≤ us.length) (hk : k ≤ us.length) : (depsN us i ++ depsB us i k).length ≤ 20000 := by
  have h1 := depsN_len (us := us) (n := i) hi
  have h2 := depsTo_len us i (k - (i + 1)) (i + 1)
  have h3 := Nat.mul_le_mul (show i ≤ 120 by omega) h
  rw [List.length_append]
  unfold depsB
  omega
theorem dp_rep {w : World} {i k : Nat} {n : Int} (hi : i ≤ 120) (hk : k ≤ 120) (hn : 0 ≤ n ∧ n ≤ 7) : Rep w (Dp.d ⟨(i : Int), (k : Int), n⟩) [.int .i64 (i : Int), .int .i64 (k : Int), .int .i64 n] [] :=
  Rep.dp_iff.2 ⟨rfl, rfl, by unfold I64; constructor <;> (simp only; omega), by unfold I64; constructor <;> (simp only; omega), by unfold I64; constructor <;> (simp only; omega)⟩

set_option maxRecDepth 100000 in
set_option maxHeartbeats 8000000 in
theorem deps_c {w : World} {p : Pgm} {g : Nat} (h : Trc w p g) (hv : progOk p = true) :
    Calls Tryz.prog 60 #[.pointer (some ⟨g, 0, none⟩)] w (MadeDeps w (depsF (usesF p))) := by
  have hln := (progOk_all hv).2.2
  have ul := Lib.hid (usesF_len p)
  have HT := Lib.hid h
  obtain ⟨A1, A2, A3, A4, A5, c1, c2, c3, c4, c5, bs, bs3, bs4, bs5, ⟨_, _, x2, _, _⟩, _⟩ := h
  have lg := lt_of_cell x2
  have hun : (usesF p).length ≤ 120 := by rw [ul.out]; exact hln
  go_enter Tryz.func60, Tryz.ntmps60
  go_wp2
  go_loopw [3, 12] (fun u i wr => ∃ a : Nat, a ≤ (instsF p).length ∧ i = .int .i64 a ∧ Grow wr w.heap.size 93 3 u ((depsN (usesF p) a).map Dp.d) ∧ Below w.heap.size w wr) (fun _ i _ => (instsF p).length - (intOf i).toNat)
  case atStart => exact ⟨0, Nat.zero_le _, rfl, Grow.nil _ _ _ _, bel⟩
  case round =>
    obtain ⟨a, ha, rfl, hG, hb⟩ := hrel
    have HG := Lib.hid hG; clear hG
    by_cases hlt : a < (instsF p).length
    case neg =>
      have hjj : a = (instsF p).length := by omega
      subst hjj
      have HG2 := Lib.hid (show Grow wr w.heap.size 93 3 u3 ((depsF (usesF p)).map Dp.d) by rw [depsF, ul.out]; exact HG.out)
      obtain ⟨Au, cu, hfu, _, _⟩ := HG2.out.form
      subst hfu
      go_wp2
      go_ret
      exact MadeDeps.of_grow HG2.out (Nat.le_refl _) hb
    have x2r := cell_to x2 hb
    go_wp2
    go_loopw [3, 5] (fun u i wv => ∃ k : Nat, a + 1 ≤ k ∧ k ≤ (instsF p).length ∧ i = .int .i64 k ∧ Grow wv w.heap.size 93 3 u ((depsN (usesF p) a ++ depsB (usesF p) a k).map Dp.d) ∧ Below w.heap.size w wv) (fun _ i _ => (instsF p).length - (intOf i).toNat)
    case atStart => exact ⟨a + 1, Nat.le_refl _, hlt, by go_num, by rw [depsB_nil, List.append_nil]; exact HG.out, hb⟩
    case round =>
      obtain ⟨k, hak, hk, rfl, hG, hb2⟩ := hrel
      clear HG x2r
      have HG := Lib.hid hG; clear hG
      have x2r := cell_to x2 hb2
      have lgr := lt_of_cell x2r
      by_cases hkt : k < (instsF p).length
      case neg =>
        have hkk : k = (instsF p).length := by omega
        subst hkk
        have HG2 := Lib.hid (show Grow wr w.heap.size 93 3 u3 ((depsN (usesF p) (a + 1)).map Dp.d) by rw [depsN_step, ul.out]; exact HG.out)
        go_wp2
        go_roundw
        case rel => exact ⟨a + 1, by omega, by go_num, HG2.out, bel⟩
        case measure => simp [intOf]; omega
      have hkd := kindsF_bd (nthU (usesF p) a) (nthU (usesF p) k)
      have HN := Lib.hid (depsL (i := a) (k := k) hun (by rw [ul.out]; omega) (by rw [ul.out]; omega))
      obtain ⟨DL, hDL⟩ : ∃ DL, DL = depsN (usesF p) a ++ depsB (usesF p) a k := ⟨_, rfl⟩
      rw [← hDL] at HG HN
      have HDL := Lib.hid hDL; clear hDL
      obtain ⟨Au, cu, hfu, _, _⟩ := HG.out.form
      rw [List.length_map] at hfu
      by_cases hp : 0 < kindsF (nthU (usesF p) a) (nthU (usesF p) k)
      · have HS := Lib.hid (depsB_yes (us := usesF p) (by omega) hp)
        have HD := Lib.hid (fun (W : World) => dp_rep (w := W) (i := a) (k := k) (by omega) (by omega) hkd)
        subst hfu
        go_wp2_with fail
        refine (between_c (HT.out.below (below_tr hb2 bel)) (by rw [ul.out]; exact hlt) (by rw [ul.out]; exact hkt)).mono ?_
        rintro e w2 ⟨rfl, b2⟩
        have T2 : Below wr.heap.size wr w2 := bel
        clear b2
        have O6 := Lib.hid (one_newN (N := w2.heap.size) (HD.out w2) 93 rfl)
        have hbz : w.heap.size ≤ w2.heap.size := (below_tr hb2 T2).size
        obtain ⟨v, hv⟩ : ∃ v, v = kindsF (nthU (usesF p) a) (nthU (usesF p) k) := ⟨_, rfl⟩
        rw [← hv] at hkd hp HS HD O6 ⊢
        clear hv HD
        go_wp2_with (
          at_builtin
          refine wpList_append_more (w0 := w2) (B := w.heap.size) (ys := [Dp.d ⟨(a : Int), (k : Int), v⟩]) rfl (.tmp 32) (.tmp 37) _ rfl _ Tryz.underlying77 Tryz.infoDep rfl (by decide) rfl (HG.out.below T2) ?hbw rfl O6.out ?hys (by simp) (by simp) ?hlen hbz ?_
          case hbw => exact bel
          case hys => intro y hy; simp only [List.mem_singleton] at hy; rw [hy]; rfl
          case hlen => have := HN.out; rw [List.length_map]; simp only [List.length_singleton]; omega
          intro v4 w4 hG4 hg4)
        have HG4 := Lib.hid (show Grow w4 w.heap.size 93 3 v4 ((depsN (usesF p) a ++ depsB (usesF p) a (k + 1)).map Dp.d) by rw [HS.out, ← List.append_assoc, ← HDL.out, List.map_append]; exact hG4)
        have B4 : Below w.heap.size w w4 := ((below_tr hb2 T2).alloc hbz _).trans (hg4.below (by simp; omega) fun b hb => (HG.out.own_ge b hb).1)
        clear hG4 hg4
        go_wp2
        go_roundw
        case rel => exact ⟨k + 1, by omega, by omega, by go_num, HG4.out, B4⟩
        case measure => simp [intOf]; omega
      · have HS := Lib.hid (depsB_no (us := usesF p) (by omega) hp)
        go_wp2_with fail
        refine (between_c (HT.out.below (below_tr hb2 bel)) (by rw [ul.out]; exact hlt) (by rw [ul.out]; exact hkt)).mono ?_
        rintro e w2 ⟨rfl, b2⟩
        have T2 : Below wr.heap.size wr w2 := bel
        subst hfu
        have HG4 := Lib.hid (show Grow w2 w.heap.size 93 3 _ ((depsN (usesF p) a ++ depsB (usesF p) a (k + 1)).map Dp.d) by rw [HS.out, ← HDL.out]; exact HG.out.below T2)
        clear b2
        go_wp2
        go_roundw
        case rel => exact ⟨k + 1, by omega, by omega, by go_num, HG4.out, below_tr hb2 T2⟩
        case measure => simp [intOf]; omega
set_option maxRecDepth 100000 in
set_option maxHeartbeats 8000000 in
theorem l6Deps_c {w : World} {p : Pgm} {cs : List Value} {bs : List Nat} (h : Rep w p.d cs bs) (hv : progOk p = true) :
    Calls Tryz.prog 54 #[.agg cs.toArray] w (MadeDeps w (depsF (usesF p))) := by
  have hln := (progOk_all hv).2.2
  have hun : (usesF p).length ≤ 120 := by rw [usesF_len p]; exact hln
  have HP := Lib.hid h
  obtain ⟨A1, c1, A2, c2, d1, d2, rfl, rfl, g1, g2⟩ := Rep.pgm_iff.1 h
  have Garrays := Lib.hid g1
  have Gparts := Lib.hid g2
  clear h g1 g2
  have HV := Lib.hid hv; clear hv
  go_enter Tryz.func54, Tryz.ntmps54
  go_wp2_with fail
  refine (l6Uses_c (HP.out.below bel) HV.out).mono ?_
  rintro e w1 ⟨A3, c3, bs3, rfl, r1, hb13, b1⟩
  have P1 : Box2 w1 w.heap.size (.slice A1 p.arrays.length c1) (.slice A2 p.parts.length c2) := by
    refine ⟨?_, ?_⟩ <;> (rw [b1.cell (by simp [World.setCell]; try omega)]; go_simp)
  have S1 : Below w.heap.size w w1 := bel
  have HB3 := Lib.hid (show ∀ y ∈ bs3, w.heap.size + 2 ≤ y ∧ y < w1.heap.size from fun y hy => ⟨by have := hb13 y hy; simp at this; omega, Rep.lt _ r1 y hy⟩)
  have R1 := Lib.hid r1; clear r1 hb13
  obtain ⟨U0, hU0⟩ : ∃ U0, U0 = Value.slice (some ⟨w.heap.size + 1, 0, none⟩) 0 0 := ⟨_, rfl⟩
  have HU1 := Lib.hid (show Grow w1 (w.heap.size + 1) 93 3 U0 [] by rw [hU0]; exact Grow.below (Grow.madeE _ _ (by simp) (by simp)) b1)
  have HU := Lib.hid (show ∀ y, U0.ownBlock = some y → y = w.heap.size + 1 from fun y hy => by rw [hU0] at hy; simp [Value.ownBlock] at hy; omega)
  have HAP := Lib.hid (show ∀ y ∈ bs3, U0.ownBlock ≠ some y from fun y hy e => by have := HU.out y e; have := (HB3.out y hy).1; omega)
  have hw1 : w.heap.size + 2 ≤ w1.heap.size := by have := b1.size; simp at this; omega
  have HU0 := Lib.hid hU0; clear hU0 b1 P1
  obtain ⟨us, hus⟩ : ∃ us, us = usesF p := ⟨_, rfl⟩
  rw [← hus] at R1 hun ⊢
  have HUS := Lib.hid hus
  clear hus
  have hs1 := S1.size
  go_wp2
  go_loopw [3, 5] (fun u i wr => ∃ a : Nat, a ≤ us.length ∧ i = .int .i64 a ∧ Grow wr (w.heap.size + 1) 93 3 u ((depsN us a).map Dp.d) ∧ Grew w1 wr U0 u) (fun _ i _ => us.length - (intOf i).toNat)
  case atStart => exact ⟨0, Nat.zero_le _, rfl, by rw [← HU0.out]; exact HU1.out, by rw [← HU0.out]; exact Grew.refl _ _⟩
  case round =>
    obtain ⟨a, ha, rfl, hG, hgr⟩ := hrel
    have HG := Lib.hid hG; clear hG
    have Hgr := Lib.hid hgr; clear hgr
    by_cases hlt : a < us.length
    case neg =>
      have hjj : a = us.length := by omega
      subst hjj
      have Sr : Below w.heap.size w wr := S1.trans (Hgr.out.below hs1 fun b hb => by have := HU.out b hb; omega)
      obtain ⟨Au, cu, hfu, _, _⟩ := HG.out.form
      subst hfu
      go_wp2
      go_ret
      exact MadeDeps.of_grow (l := depsF (usesF p)) (B := w.heap.size + 1) (by rw [← HUS.out]; exact HG.out) (Nat.le_succ _) Sr
    go_wp2
    go_loopw [3, 6] (fun u i wv => ∃ k : Nat, a + 1 ≤ k ∧ k ≤ us.length ∧ i = .int .i64 k ∧ Grow wv (w.heap.size + 1) 93 3 u ((depsN us a ++ depsB us a k).map Dp.d) ∧ Grew w1 wv U0 u) (fun _ i _ => us.length - (intOf i).toNat)
    case atStart => exact ⟨a + 1, Nat.le_refl _, hlt, by go_num, by rw [depsB_nil, List.append_nil]; exact HG.out, Hgr.out⟩
    case round =>
      obtain ⟨k, hak, hk, rfl, hG, hgr⟩ := hrel
      clear HG Hgr
      have HG := Lib.hid hG; clear hG
      have Hgr := Lib.hid hgr; clear hgr
      have Sr : Below w.heap.size w wr := S1.trans (Hgr.out.below hs1 fun b hb => by have := HU.out b hb; omega)
      by_cases hkt : k < us.length
      case neg =>
        have hkk : k = us.length := by omega
        subst hkk
        go_wp2
        go_roundw
        case rel => exact ⟨a + 1, by omega, by go_num, HG.out, Hgr.out⟩
        case measure => simp [intOf]; omega
      have hkd := kindsF_bd (nthU us a) (nthU us k)
      have HN := Lib.hid (depsL (i := a) (k := k) hun (by omega) (by omega))
      obtain ⟨DL, hDL⟩ : ∃ DL, DL = depsN us a ++ depsB us a k := ⟨_, rfl⟩
      rw [← hDL] at HG HN
      have HDL := Lib.hid hDL; clear hDL
      obtain ⟨Au, cu, hfu, _, _⟩ := HG.out.form
      rw [List.length_map] at hfu
      have RR := R1.out.grew Hgr.out HAP.out
      obtain ⟨b4, o4, cs4, l4, rfl, hl4, h4, _, _, hc4⟩ := RR.sls_at Us.d_size (k := a) hlt
      obtain ⟨b5, o5, cs5, l5, he, hl5, h5, _, _, hc5⟩ := RR.sls_at Us.d_size (k := k) hkt
      obtain ⟨rfl, rfl⟩ : b4 = b5 ∧ o4 = o5 := by simpa using he
      rw [← nthU_eq hlt] at h4
      rw [← nthU_eq hkt] at h5
      have H4 := Lib.hid h4
      have H5 := Lib.hid h5
      obtain ⟨A6, c6, d6, rfl, rfl, _⟩ := Rep.us_iff.1 h4
      obtain ⟨A7, c7, d7, rfl, rfl, _⟩ := Rep.us_iff.1 h5
      have k0 := (hc4 0 _ rfl).1
      have k1 := (hc4 1 _ rfl).1
      have l0 := (hc5 0 _ rfl).1
      have l1 := (hc5 1 _ rfl).1
      rw [Nat.add_zero] at k0 l0
      clear hc4 hc5 h4 h5 he RR
      have HD := Lib.hid (fun (W : World) => dp_rep (w := W) (i := a) (k := k) (by omega) (by omega) hkd)
      by_cases hp : 0 < kindsF (nthU us a) (nthU us k)
      · have HS := Lib.hid (depsB_yes (us := us) (by omega) hp)
        have hq : (kindsF (nthU us a) (nthU us k) != 0) = true := ine_t (by omega)
        subst hfu
        go_wp2_with fail
        refine still_tail_drew 8 (by kernel_rfl) (by kernel_rfl) ?_
        simp only [List.take_succ_cons, List.take_zero, List.drop_succ_cons, List.drop_zero]
        repeat still_step
        try refine wpStill_nil ?_
        go_wp2_with fail
        refine (l6Kinds_c (H4.out.below bel) (H5.out.below bel)).mono ?_
        rintro e w2 ⟨rfl, b2⟩
        have T2 : Below wr.heap.size wr w2 := of_drew b2
        clear b2
        have O6 := Lib.hid (one_newN (N := w2.heap.size) (HD.out w2) 93 rfl)
        have hbz : w.heap.size + 1 ≤ w2.heap.size := by have h1 := Hgr.out.touch.size; have h2 := T2.size; omega
        obtain ⟨v, hv⟩ : ∃ v, v = kindsF (nthU us a) (nthU us k) := ⟨_, rfl⟩
        rw [← hv] at hkd hp HS HD O6 hq ⊢
        clear hv HD
        go_wp2_with (
          at_builtin
          refine wpList_append_more (w0 := w2) (B := w.heap.size + 1) (ys := [Dp.d ⟨(a : Int), (k : Int), v⟩]) rfl (.tmp 36) (.tmp 41) _ rfl _ Tryz.underlying77 Tryz.infoDep rfl (by decide) rfl (HG.out.below T2) ?hbw rfl O6.out ?hys (by simp) (by simp) ?hlen hbz ?_
          case hbw => exact bel
          case hys => intro y hy; simp only [List.mem_singleton] at hy; rw [hy]; rfl
          case hlen => have := HN.out; rw [List.length_map]; simp only [List.length_singleton]; omega
          intro v4 w4 hG4 hg4)
        have HG4 := Lib.hid (show Grow w4 (w.heap.size + 1) 93 3 v4 ((depsN us a ++ depsB us a (k + 1)).map Dp.d) by rw [HS.out, ← List.append_assoc, ← HDL.out, List.map_append]; exact hG4)
        have g4 := Lib.hid (Hgr.out.trans (hg4.after (show Below wr.heap.size wr (w2.alloc (.cells #[.int .i64 (a : Int), .int .i64 (k : Int), .int .i64 v] 93)) from T2.alloc T2.size _)))
        clear hG4 hg4
        go_wp2
        go_roundw
        case rel => exact ⟨k + 1, by omega, by omega, by go_num, HG4.out, g4.out⟩
        case measure => simp [intOf]; omega
      · have HS := Lib.hid (depsB_no (us := us) (by omega) hp)
        have hq : (kindsF (nthU us a) (nthU us k) != 0) = false := ine_f (by omega)
        go_wp2_with fail
        refine still_tail_drew 8 (by kernel_rfl) (by kernel_rfl) ?_
        simp only [List.take_succ_cons, List.take_zero, List.drop_succ_cons, List.drop_zero]
        repeat still_step
        try refine wpStill_nil ?_
        go_wp2_with fail
        refine (l6Kinds_c (H4.out.below bel) (H5.out.below bel)).mono ?_
        rintro e w2 ⟨rfl, b2⟩
        have T2 : Below wr.heap.size wr w2 := of_drew b2
        subst hfu
        have HG4 := Lib.hid (show Grow w2 (w.heap.size + 1) 93 3 _ ((depsN us a ++ depsB us a (k + 1)).map Dp.d) by rw [HS.out, ← HDL.out]; exact HG.out.below T2)
        have g4 := Lib.hid (Hgr.out.trans (Grew.of_below T2 _))
        clear b2
        go_wp2
        go_roundw
        case rel => exact ⟨k + 1, by omega, by omega, by go_num, HG4.out, g4.out⟩
        case measure => simp [intOf]; omega
end Go.Proofs.YtpmgmekbnbligaaGreat
