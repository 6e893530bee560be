/- Texts of this seat, joined: Trace, Uses, DepB, Deps. -/
import Derived.Test.YtgogjbnneoadkaaGreatZpActs
import Derived.Test.YtgogjbnneoadkaaGreatZpOrder
import Derived.Test.YtgogjbnneoadkaaGreatZpCellsS
/- A valid program's instances with the cells that they touch: trace of the program. -/
set_option linter.all false
set_option linter.unusedSimpArgs false
set_option linter.unusedVariables false
namespace Go.Proofs.YtgogjbnneoadkaaGreat
open Go.ChangeShapes Go.WideShapes Go.ChangeAt Go.RowKit Go.Deep

theorem cell_al {w : World} {p : Addr} {v : Value} {o : Obj} (h : w.cell? p = some v) : (w.alloc o).cell? p = some v := (World.cell?_alloc_some _ _ _ (by rw [h]; rfl)).trans h
theorem Grew.after {a b c : World} {v v' : Value} (g : Grew b c v v') (h : Below a.heap.size a b) : Grew a c v v' := (Grew.of_below h v).trans g
def rdD (u : Us) : D := ints u.reads
def wrD (u : Us) : D := .int u.write
/-- the block g holds the program's trace -/
def TrcN (w : World) (p : Pgm) (g N : Nat) : Prop := ∃ (A1 A2 A3 A4 A5 : Option Addr) (c1 c2 c3 c4 c5 : Nat) (bs bs3 bs4 bs5 : List Nat),
  Box5 w g (.slice A1 p.arrays.length c1) (.slice A2 p.parts.length c2) (.slice A3 (instsF p).length c3) (.slice A4 (usesF p).length c4) (.slice A5 (usesF p).length c5) ∧
  Rep w p.d [.slice A1 p.arrays.length c1, .slice A2 p.parts.length c2] bs ∧ Rep w (sls In.d (instsF p)) [.slice A3 (instsF p).length c3] bs3 ∧
  Rep w (sls rdD (usesF p)) [.slice A4 (usesF p).length c4] bs4 ∧ Rep w (sls wrD (usesF p)) [.slice A5 (usesF p).length c5] bs5 ∧ ∀ y ∈ bs3, N ≤ y
def Trc (w : World) (p : Pgm) (g : Nat) : Prop := ∃ (A1 A2 A3 A4 A5 : Option Addr) (c1 c2 c3 c4 c5 : Nat) (bs bs3 bs4 bs5 : List Nat),
  Box5 w g (.slice A1 p.arrays.length c1) (.slice A2 p.parts.length c2) (.slice A3 (instsF p).length c3) (.slice A4 (usesF p).length c4) (.slice A5 (usesF p).length c5) ∧
  Rep w p.d [.slice A1 p.arrays.length c1, .slice A2 p.parts.length c2] bs ∧ Rep w (sls In.d (instsF p)) [.slice A3 (instsF p).length c3] bs3 ∧
  Rep w (sls rdD (usesF p)) [.slice A4 (usesF p).length c4] bs4 ∧ Rep w (sls wrD (usesF p)) [.slice A5 (usesF p).length c5] bs5
theorem Trc.below {w w' : World} {p : Pgm} {g : Nat} (h : Trc w p g) (hb : Below w.heap.size w w') : Trc w' p g := by
  obtain ⟨A1, A2, A3, A4, A5, c1, c2, c3, c4, c5, bs, bs3, bs4, bs5, h1, h2, h3, h4, h5⟩ := h
  exact ⟨A1, A2, A3, A4, A5, c1, c2, c3, c4, c5, bs, bs3, bs4, bs5, h1.to hb, h2.below hb, h3.below hb, h4.below hb, h5.below hb⟩
theorem map_take {α β : Type} {f : α → β} {l : List α} {j : Nat} (h : j < l.length) : (l.take (j + 1)).map f = (l.take j).map f ++ [f l[j]] := by
  rw [List.take_succ_eq_append_getElem h, List.map_append]; rfl
theorem usesF_get {p : Pgm} {j : Nat} (h : j < (instsF p).length) : (usesF p)[j]'(by rw [usesF_len]; exact h) = useF p (instsF p)[j] := by simp [usesF]
theorem useF_bdw {p : Pgm} {x : In} (hv : progOk p = true) : I64 (useF p x).write := by
  have hok := progOk_arr hv
  have hcb := cellsF_bd hok
  have := cellF_bd (a := (stmF p x).write) (pt := x.point) hok
  show I64 (cellF p.arrays (stmF p x).write x.point)
  unfold I64; omega

theorem trace_n {w : World} {p : Pgm} {cs : List Value} {bs : List Nat} (h : Rep w p.d cs bs) (hv : progOk p = false) :
    Calls Tryz.prog 51 #[.agg cs.toArray] w fun e w' => e = .returned (.tuple #[.pointer none, .bool false]) ∧ Below w.heap.size w w' := by
  have HP := Lib.hid h
  obtain ⟨A1, c1, A2, c2, d1, d2, rfl, rfl, g1, g2⟩ := Rep.pgm_iff.1 h
  have Garrays := Lib.hid g1
  have Gparts := Lib.hid g2
  clear h g1 g2
  have HY := Lib.hid ((InstsF_2 p).trans hv)
  clear hv
  go_enter Tryz.func51, Tryz.ntmps51
  go_wp2_with fail
  refine (instances_c (HP.out.below bel)).mono ?_
  rintro e w1 ⟨A3, n3, c3, bs3, rfl, _, _, _, b1⟩
  have S1 : Below w.heap.size w w1 := bel
  clear b1
  rw [HY.out]
  go_wp2
  go_ret2
  exact ⟨rfl, S1⟩
set_option maxRecDepth 100000 in
set_option maxHeartbeats 8000000 in
theorem trace_yN {w : World} {p : Pgm} {cs : List Value} {bs : List Nat} (h : Rep w p.d cs bs) (hv : progOk p = true) :
    Calls Tryz.prog 51 #[.agg cs.toArray] w fun e w' => ∃ g, e = .returned (.tuple #[.pointer (some ⟨g, 0, none⟩), .bool true]) ∧ TrcN w' p g w.heap.size ∧ w.heap.size ≤ g ∧ Below w.heap.size w w' := by
  have HP := Lib.hid h
  obtain ⟨A1, c1, A2, c2, d1, d2, rfl, rfl, g1, g2⟩ := Rep.pgm_iff.1 h
  have Garrays := Lib.hid g1
  have Gparts := Lib.hid g2
  clear h g1 g2
  have HY := Lib.hid ((InstsF_2 p).trans hv)
  have HZ := Lib.hid (InstsF_ok hv)
  have hln := (progOk_all hv).2.2
  have HV := Lib.hid hv; clear hv
  go_enter Tryz.func51, Tryz.ntmps51
  go_wp2_with fail
  refine (instances_c (HP.out.below bel)).mono ?_
  rintro e w1 ⟨A3, n3, c3, bs3, rfl, r1, _, fr1, b1⟩
  have P1 : Box2 w1 w.heap.size (.slice A1 p.arrays.length c1) (.slice A2 p.parts.length c2) := by
    refine ⟨?_, ?_⟩ <;> (rw [b1.cell (by simp [World.setCell]; try omega)]; go_simp)
  have S1 : Below w.heap.size w w1 := bel
  clear b1
  have HFR := Lib.hid (show ∀ y ∈ bs3, w.heap.size ≤ y from fun y hy => by have := fr1 y hy; simp at this; omega); clear fr1
  rw [HY.out]
  rw [HZ.out] at r1
  obtain ⟨rfl, _, _⟩ := r1.sls_len
  have R1 := Lib.hid r1; clear r1
  have hz1 := S1.size
  have ul := Lib.hid (usesF_len p)
  go_wp2
  go_loopw [24] (fun i wr => ∃ (j : Nat) (vr vw : Value) (cb : List Nat), j ≤ (instsF p).length ∧ i = .int .i64 j ∧ GrowN wr (w1.heap.size + 1) 39 1 vr (((usesF p).take j).map rdD) cb ∧ GrowN wr (w1.heap.size + 1) 3 1 vw (((usesF p).take j).map wrD) [] ∧ Apart vr vw cb ∧ Box5 wr w1.heap.size (.slice A1 p.arrays.length c1) (.slice A2 p.parts.length c2) (.slice A3 (instsF p).length c3) vr vw ∧ wr.frozen? ⟨w1.heap.size, 3, none⟩ = false ∧ wr.frozen? ⟨w1.heap.size, 4, none⟩ = false ∧ Below w1.heap.size w1 wr) (fun i _ => (instsF p).length - (intOf i).toNat)
  case atStart => exact ⟨0, _, _, [], Nat.zero_le _, rfl, GrowN.nil _ _ _ _, GrowN.nil _ _ _ _, Apart.nil, ⟨by go_simp, by go_simp, by go_simp, by go_simp, by go_simp⟩, by go_simp, by go_simp, bel⟩
  case round =>
    obtain ⟨j, vr, vw, cb, hj, rfl, hGr, hGw, hap, hX, hf3, hf4, hb⟩ := hrel
    have Pr := P1.to hb
    have Sr := below_tr S1 hb
    have lp := lt_of_cell Pr.1
    have lg := lt_of_cell hX.1
    have HGR := Lib.hid hGr; clear hGr
    have HGW := Lib.hid hGw; clear hGw
    have HAP := Lib.hid hap; clear hap
    by_cases hlt : j < (instsF p).length
    · have HTr := Lib.hid (map_take (f := rdD) (l := usesF p) (j := j) (by rw [ul.out]; exact hlt))
      have HTw := Lib.hid (map_take (f := wrD) (l := usesF p) (j := j) (by rw [ul.out]; exact hlt))
      have HUJ := Lib.hid (usesF_get hlt)
      have HIN := Lib.hid (InOk.of_mem (List.getElem_mem hlt))
      have hww := useF_bdw (x := (instsF p)[j]) HV.out
      obtain ⟨be, oe, cse, le, rfl, hble, hre, _, _, hce⟩ := (R1.out.below hb).sls_at In.d_size (k := j) hlt
      have Ge := Lib.hid hre
      obtain ⟨A3e, c3e, d3e, rfl, rfl, g1e, g2e, g3e⟩ := Rep.in_iff.1 hre
      have k0e := (hce 0 _ rfl).1; rw [Nat.add_zero] at k0e
      have k1e := (hce 1 _ rfl).1
      have k2e := (hce 2 _ rfl).1
      have Q1e := Lib.hid g1e
      have Q2e := Lib.hid g2e
      have Q3e := Lib.hid g3e
      clear hce hre g1e g2e g3e
      have HPr := Lib.hid (HP.out.below Sr)
      go_wp2_with fail
      refine (touched_c (HPr.out.below bel) (Ge.out.below bel) HIN.out HV.out).mono ?_
      rintro e w2 ⟨A6, c6, bs6, rfl, r6, nd6, hb6, b2⟩
      have T2 : Below wr.heap.size wr w2 := bel
      rw [← HUJ.out] at r6 hww ⊢
      obtain ⟨u, hu⟩ : ∃ u, u = (usesF p)[j]'(by rw [ul.out]; exact hlt) := ⟨_, rfl⟩
      rw [← hu] at r6 hww HTr HTw ⊢
      clear hu
      have R6 := Lib.hid r6; clear r6
      have HB6 := Lib.hid (show ∀ y ∈ bs6, wr.heap.size ≤ y ∧ y < w2.heap.size from fun y hy => ⟨Nat.le_trans (by simp) (hb6 y hy), Rep.lt _ R6.out y hy⟩)
      have X2 := hX.to T2
      have f3 := (T2.frozen (p := ⟨w1.heap.size, 3, none⟩) lg).trans hf3
      have f4 := (T2.frozen (p := ⟨w1.heap.size, 4, none⟩) lg).trans hf4
      have lg2 := lt_of_cell X2.1
      have hz2 := T2.size
      have hzr := Sr.size
      have HGR2 := Lib.hid (HGR.out.below T2)
      have HGW2 := Lib.hid (HGW.out.below T2)
      have HF6 := Lib.hid (show ∀ y ∈ bs6, y ∉ cb ∧ vr.ownBlock ≠ some y ∧ w1.heap.size + 1 ≤ y from fun y hy => by
        have h1 := (HB6.out y hy).1
        exact ⟨fun hm => by have := (HGR.out.lt y hm).2; omega, fun hm => by have := (HGR.out.own y hm).2.1; omega, by omega⟩)
      have NOr : w1.heap.size ∉ ownL vr := fun hm => by have := (HGR.out.own _ (mem_ownL.1 hm)).1; omega
      have NOw : w1.heap.size ∉ ownL vw := fun hm => by have := (HGW.out.own _ (mem_ownL.1 hm)).1; omega
      have NO2 := Lib.hid (show ∀ y, w2.heap.size ≤ y → y ∉ ownL vr from fun y hy hm => by have := (HGR.out.own _ (mem_ownL.1 hm)).2.1; omega)
      have NOv := Lib.hid (show ∀ v4 w4, Grew w2 w4 vr v4 → ∀ y, v4.ownBlock = some y → y ∉ ownL vw from fun v4 w4 hh y hy hm => by
        have h1 := (HGW.out.own _ (mem_ownL.1 hm)).2.1
        rcases hh.own y hy with h2 | h2
        · exact HAP.out.o y h2 (mem_ownL.1 hm)
        · omega)
      have NOc := Lib.hid (show ∀ y ∈ cb ++ bs6, y ∉ ownL vw from fun y hy hm => by
        rcases List.mem_append.1 hy with hy | hy
        · exact HAP.out.c y (mem_ownL.1 hm) hy
        · have h1 := (HGW.out.own _ (mem_ownL.1 hm)).2.1
          have := (HB6.out y hy).1; omega)
      have APS := Lib.hid (show ∀ (v4 v6 : Value) (w4 w6 : World), Grew w2 w4 vr v4 → (∀ y, v4.ownBlock = some y → y < w4.heap.size) → Grew w4 w6 vw v6 → Apart v4 v6 (cb ++ bs6) from fun v4 v6 w4 w6 hh4 hl hh6 =>
        HAP.out.step (N0 := wr.heap.size) (N1 := w2.heap.size) (fun y hy => (HGW.out.own y hy).2.1) (fun y hy => (HGR.out.lt y hy).2) hh4.own hz2 hl (fun y hy => ⟨(HB6.out y hy).1, Nat.lt_of_lt_of_le (HB6.out y hy).2 hh4.touch.size⟩) (Nat.le_trans hz2 hh4.touch.size) hh6.own (Nat.le_refl _))
      have ZS := Lib.hid (show ∀ (v4 v6 : Value) (w4 w6 : World), Grew w2 w4 vr v4 → Grew w4 w6 vw v6 → Below w1.heap.size w1 w6 from fun v4 v6 w4 w6 hh4 hh6 =>
        ((below_tr hb T2).trans (hh4.below (by omega) (fun y hy => by have := (HGR.out.own y hy).1; omega))).trans (hh6.below (by have := hh4.touch.size; omega) (fun y hy => by have := (HGW.out.own y hy).1; omega)))
      clear hX hf3 hf4 hb6 b2
      go_wp2_with fail
      refine wp_region_noPanic ?_
      refine wp_regionT (S := fun w' => w'.cell? ⟨w1.heap.size, 3, none⟩ = some vr ∧ w'.cell? ⟨w1.heap.size, 4, none⟩ = some vw) 18 (by kernel_rfl) (⟨by have := X2.2.2.2.1; go_simp, by have := X2.2.2.2.2; go_simp⟩) (fun hHeld => ?_)
      refine goU 0 (fun _ => hHeld) ?_
      refine goU 1 (fun _ => hHeld) ?_
      refine goU 2 (fun _ => hHeld) ?_
      refine goU 3 (fun _ => hHeld) ?_
      refine goU 4 (fun _ => hHeld) ?_
      refine goT 5 hHeld ?_
      refine goU 6 (fun _ => hHeld) ?_
      refine goU 9 (fun _ => hHeld) ?_
      refine goU 10 (fun _ => hHeld) ?_
      refine goU 11 (fun _ => hHeld) ?_
      refine goT 12 hHeld ?_
      refine goU 13 (fun _ => hHeld) ?_
      refine readyT (rs := [7, 14]) (by kernel_rfl) (by simp) (all2 ?_ ?_)
      · refine opT (i := 7) rfl (wanted_none rfl) (fun K hK => ?_)
        (unfold Oper.wp; go_simp)
        refine hK.out _ _ (⟨cell_al hHeld.1, cell_al hHeld.2⟩) (fun hHeld => ?_)
        clear hK K
        try simp only [Act.put, aq0, aq1, aq2]
        refine readyT (rs := [8, 14]) (by kernel_rfl) (by simp) (all2 ?_ ?_)
        · refine opT (i := 8) rfl (wanted_none rfl) (fun K hK => ?_)
          (refine wp_append_growN (.tmp 39) (.tmp 41) _ rfl _ Tryz.underlying91 Tryz.infoInts rfl (by decide) rfl (HGR2.out.below ?hbw) rfl (R6.out.below ?hbv) nd6 HF6.out ?hc rfl ?h1 ?hlen ?hba ?_; (case hbw => exact bel); (case hbv => exact bel); (case hc => (intro jj vv hv; rcases jj with _ | jj <;> simp at hv; (subst hv; go_simp))); (case h1 => simp [Value.oneCell']); (case hlen => (simp only [List.length_map, List.length_take]; have := ul.out; omega)); (case hba => (simp; omega)); intro v4 w4 hG4 hg4; obtain ⟨A4, c4, hf4, _, _⟩ := hG4.grow.form; subst hf4; have HGg := Lib.hid hg4; have hh4 : Grew w2 w4 vr _ := hg4.after bel; have X4 := hh4.touch.box5 X2 NOr; have f43 := (hh4.touch.frozen (o := 3) lg2 NOr).trans f3; have f44 := (hh4.touch.frozen (o := 4) lg2 NOr).trans f4; have HG4 := Lib.hid hG4; have HW4 := Lib.hid (HGW2.out.touch hh4.touch (fun y hy hm => HAP.out.o y (mem_ownL.1 hm) hy) (by simp)); have hz4 := hh4.touch.size; have lg4 := lt_of_cell X4.1; have HH4 := Lib.hid hh4; clear hG4 hg4 hh4)
          refine hK.out _ _ (⟨X4.2.2.2.1, X4.2.2.2.2⟩) (fun hHeld => ?_)
          clear hK K
          try simp only [Act.put, aq0, aq1, aq2]
          refine readyT (rs := [14]) (by kernel_rfl) (by simp) (all1 ?_)
          refine opT (i := 14) rfl (wanted_none rfl) (fun K hK => ?_)
          (unfold Oper.wp; go_simp)
          refine hK.out _ _ (⟨cell_al hHeld.1, cell_al hHeld.2⟩) (fun hHeld => ?_)
          clear hK K
          try simp only [Act.put, aq0, aq1, aq2]
          refine readyT (rs := [15]) (by kernel_rfl) (by simp) (all1 ?_)
          refine opT (i := 15) rfl (wanted_none rfl) (fun K hK => ?_)
          (refine wp_append_growN (.tmp 46) (.tmp 48) _ rfl _ Tryz.underlying39 Tryz.infoInt rfl (by decide) rfl (HW4.out.below ?hbw) rfl (show Rep _ (wrD u) [.int .i64 u.write] [] from ⟨rfl, rfl, hww⟩) (by simp) (by simp) ?hc rfl ?h1 ?hlen ?hba ?_; (case hbw => exact bel); (case hc => (intro jj vv hv; rcases jj with _ | jj <;> simp at hv; (subst hv; first | (go_simp; done) | (rw [HGg.out.touch.cell (by (simp <;> omega)) (NO2.out _ (by omega))]; go_simp; done)))); (case h1 => simp [Value.oneCell']); (case hlen => (simp only [List.length_map, List.length_take]; have := ul.out; omega)); (case hba => first | omega | (simp; omega)); intro v6 w6 hG6 hg6; obtain ⟨A7, c7, hf6, _, _⟩ := hG6.grow.form; subst hf6; have hh6 : Grew w4 w6 vw _ := hg6.after bel; have X6 := hh6.touch.box5 X4 NOw; have f63 := (hh6.touch.frozen (o := 3) lg4 NOw).trans f43; have f64 := (hh6.touch.frozen (o := 4) lg4 NOw).trans f44; have HG6 := Lib.hid hG6; have HR6 := Lib.hid (HG4.out.touch hh6.touch (NOv.out _ _ HH4.out) NOc.out); have lg6 := lt_of_cell X6.1; have HAP6 := Lib.hid (APS.out _ _ _ _ HH4.out (fun y hy => (HG4.out.own y hy).2.1) hh6); have Z6 := Lib.hid (ZS.out _ _ _ _ HH4.out hh6); obtain ⟨y0, y1, y2, y3, y4⟩ := X6; clear hG6 hg6 hh6 X4)
          refine hK.out _ _ (⟨y3, y4⟩) (fun hHeld => ?_)
          clear hK K
          try simp only [Act.put, aq0, aq1, aq2]
          refine goU 16 (fun _ => hHeld) ?_
          refine goU 17 (fun _ => hHeld) ?_
          refine readyT (rs := [18]) (by kernel_rfl) (by simp) (all1 ?_)
          refine opTT (i := 18) rfl (wanted_none rfl) (by kernel_rfl) (fun K hK => ?_)
          (unfold Oper.wp; go_simp)
          refine hK.out _ _ ?_
          clear hK K
          try simp only [Act.put, aq0, aq1, aq2]
          refine goU 19 (fun h => absurd h (by decide)) ?_
          refine goU 20 (fun h => absurd h (by decide)) ?_
          refine readyT (rs := [21]) (by kernel_rfl) (by simp) (all1 ?_)
          refine opTT (i := 21) rfl (wanted_none rfl) (by kernel_rfl) (fun K hK => ?_)
          (unfold Oper.wp; go_simp)
          refine hK.out _ _ ?_
          clear hK K
          try simp only [Act.put, aq0, aq1, aq2]
          refine wpAnyT_done (by kernel_rfl) ?_ _
          refine NoPanic.normal ?_
          (go_wp2; go_roundw; (case rel => (refine ⟨j + 1, _, _, cb ++ bs6, by omega, by go_num, ?_, ?_, HAP6.out, ⟨by go_simp, by go_simp, by go_simp, by go_simp, by go_simp⟩, by go_simp, by go_simp, (Z6.out.setCell (by simp) _).setCell (by simp) _⟩; (rw [HTr.out]; exact (HR6.out.set_low (by simp) _).set_low (by simp) _); (rw [HTw.out]; exact (HG6.out.set_low (by simp) _).set_low (by simp) _))); (case measure => (simp [intOf]; omega)))
        · refine opT (i := 14) rfl (wanted_none rfl) (fun K hK => ?_)
          (unfold Oper.wp; go_simp)
          refine hK.out _ _ (⟨cell_al hHeld.1, cell_al hHeld.2⟩) (fun hHeld => ?_)
          clear hK K
          try simp only [Act.put, aq0, aq1, aq2]
          refine readyT (rs := [8]) (by kernel_rfl) (by simp) (all1 ?_)
          refine opT (i := 8) rfl (wanted_none rfl) (fun K hK => ?_)
          (refine wp_append_growN (.tmp 39) (.tmp 41) _ rfl _ Tryz.underlying91 Tryz.infoInts rfl (by decide) rfl (HGR2.out.below ?hbw) rfl (R6.out.below ?hbv) nd6 HF6.out ?hc rfl ?h1 ?hlen ?hba ?_; (case hbw => exact bel); (case hbv => exact bel); (case hc => (intro jj vv hv; rcases jj with _ | jj <;> simp at hv; (subst hv; go_simp))); (case h1 => simp [Value.oneCell']); (case hlen => (simp only [List.length_map, List.length_take]; have := ul.out; omega)); (case hba => (simp; omega)); intro v4 w4 hG4 hg4; obtain ⟨A4, c4, hf4, _, _⟩ := hG4.grow.form; subst hf4; have HGg := Lib.hid hg4; have hh4 : Grew w2 w4 vr _ := hg4.after bel; have X4 := hh4.touch.box5 X2 NOr; have f43 := (hh4.touch.frozen (o := 3) lg2 NOr).trans f3; have f44 := (hh4.touch.frozen (o := 4) lg2 NOr).trans f4; have HG4 := Lib.hid hG4; have HW4 := Lib.hid (HGW2.out.touch hh4.touch (fun y hy hm => HAP.out.o y (mem_ownL.1 hm) hy) (by simp)); have hz4 := hh4.touch.size; have lg4 := lt_of_cell X4.1; have HH4 := Lib.hid hh4; clear hG4 hg4 hh4)
          refine hK.out _ _ (⟨X4.2.2.2.1, X4.2.2.2.2⟩) (fun hHeld => ?_)
          clear hK K
          try simp only [Act.put, aq0, aq1, aq2]
          refine readyT (rs := [15]) (by kernel_rfl) (by simp) (all1 ?_)
          refine opT (i := 15) rfl (wanted_none rfl) (fun K hK => ?_)
          (refine wp_append_growN (.tmp 46) (.tmp 48) _ rfl _ Tryz.underlying39 Tryz.infoInt rfl (by decide) rfl (HW4.out.below ?hbw) rfl (show Rep _ (wrD u) [.int .i64 u.write] [] from ⟨rfl, rfl, hww⟩) (by simp) (by simp) ?hc rfl ?h1 ?hlen ?hba ?_; (case hbw => exact bel); (case hc => (intro jj vv hv; rcases jj with _ | jj <;> simp at hv; (subst hv; first | (go_simp; done) | (rw [HGg.out.touch.cell (by (simp <;> omega)) (NO2.out _ (by omega))]; go_simp; done)))); (case h1 => simp [Value.oneCell']); (case hlen => (simp only [List.length_map, List.length_take]; have := ul.out; omega)); (case hba => first | omega | (simp; omega)); intro v6 w6 hG6 hg6; obtain ⟨A7, c7, hf6, _, _⟩ := hG6.grow.form; subst hf6; have hh6 : Grew w4 w6 vw _ := hg6.after bel; have X6 := hh6.touch.box5 X4 NOw; have f63 := (hh6.touch.frozen (o := 3) lg4 NOw).trans f43; have f64 := (hh6.touch.frozen (o := 4) lg4 NOw).trans f44; have HG6 := Lib.hid hG6; have HR6 := Lib.hid (HG4.out.touch hh6.touch (NOv.out _ _ HH4.out) NOc.out); have lg6 := lt_of_cell X6.1; have HAP6 := Lib.hid (APS.out _ _ _ _ HH4.out (fun y hy => (HG4.out.own y hy).2.1) hh6); have Z6 := Lib.hid (ZS.out _ _ _ _ HH4.out hh6); obtain ⟨y0, y1, y2, y3, y4⟩ := X6; clear hG6 hg6 hh6 X4)
          refine hK.out _ _ (⟨y3, y4⟩) (fun hHeld => ?_)
          clear hK K
          try simp only [Act.put, aq0, aq1, aq2]
          refine goU 16 (fun _ => hHeld) ?_
          refine goU 17 (fun _ => hHeld) ?_
          refine readyT (rs := [18]) (by kernel_rfl) (by simp) (all1 ?_)
          refine opTT (i := 18) rfl (wanted_none rfl) (by kernel_rfl) (fun K hK => ?_)
          (unfold Oper.wp; go_simp)
          refine hK.out _ _ ?_
          clear hK K
          try simp only [Act.put, aq0, aq1, aq2]
          refine goU 19 (fun h => absurd h (by decide)) ?_
          refine goU 20 (fun h => absurd h (by decide)) ?_
          refine readyT (rs := [21]) (by kernel_rfl) (by simp) (all1 ?_)
          refine opTT (i := 21) rfl (wanted_none rfl) (by kernel_rfl) (fun K hK => ?_)
          (unfold Oper.wp; go_simp)
          refine hK.out _ _ ?_
          clear hK K
          try simp only [Act.put, aq0, aq1, aq2]
          refine wpAnyT_done (by kernel_rfl) ?_ _
          refine NoPanic.normal ?_
          (go_wp2; go_roundw; (case rel => (refine ⟨j + 1, _, _, cb ++ bs6, by omega, by go_num, ?_, ?_, HAP6.out, ⟨by go_simp, by go_simp, by go_simp, by go_simp, by go_simp⟩, by go_simp, by go_simp, (Z6.out.setCell (by simp) _).setCell (by simp) _⟩; (rw [HTr.out]; exact (HR6.out.set_low (by simp) _).set_low (by simp) _); (rw [HTw.out]; exact (HG6.out.set_low (by simp) _).set_low (by simp) _))); (case measure => (simp [intOf]; omega)))
      · refine opT (i := 14) rfl (wanted_none rfl) (fun K hK => ?_)
        (unfold Oper.wp; go_simp)
        refine hK.out _ _ (⟨cell_al hHeld.1, cell_al hHeld.2⟩) (fun hHeld => ?_)
        clear hK K
        try simp only [Act.put, aq0, aq1, aq2]
        refine readyT (rs := [7]) (by kernel_rfl) (by simp) (all1 ?_)
        refine opT (i := 7) rfl (wanted_none rfl) (fun K hK => ?_)
        (unfold Oper.wp; go_simp)
        refine hK.out _ _ (⟨cell_al hHeld.1, cell_al hHeld.2⟩) (fun hHeld => ?_)
        clear hK K
        try simp only [Act.put, aq0, aq1, aq2]
        refine readyT (rs := [8]) (by kernel_rfl) (by simp) (all1 ?_)
        refine opT (i := 8) rfl (wanted_none rfl) (fun K hK => ?_)
        (refine wp_append_growN (.tmp 39) (.tmp 41) _ rfl _ Tryz.underlying91 Tryz.infoInts rfl (by decide) rfl (HGR2.out.below ?hbw) rfl (R6.out.below ?hbv) nd6 HF6.out ?hc rfl ?h1 ?hlen ?hba ?_; (case hbw => exact bel); (case hbv => exact bel); (case hc => (intro jj vv hv; rcases jj with _ | jj <;> simp at hv; (subst hv; go_simp))); (case h1 => simp [Value.oneCell']); (case hlen => (simp only [List.length_map, List.length_take]; have := ul.out; omega)); (case hba => (simp; omega)); intro v4 w4 hG4 hg4; obtain ⟨A4, c4, hf4, _, _⟩ := hG4.grow.form; subst hf4; have HGg := Lib.hid hg4; have hh4 : Grew w2 w4 vr _ := hg4.after bel; have X4 := hh4.touch.box5 X2 NOr; have f43 := (hh4.touch.frozen (o := 3) lg2 NOr).trans f3; have f44 := (hh4.touch.frozen (o := 4) lg2 NOr).trans f4; have HG4 := Lib.hid hG4; have HW4 := Lib.hid (HGW2.out.touch hh4.touch (fun y hy hm => HAP.out.o y (mem_ownL.1 hm) hy) (by simp)); have hz4 := hh4.touch.size; have lg4 := lt_of_cell X4.1; have HH4 := Lib.hid hh4; clear hG4 hg4 hh4)
        refine hK.out _ _ (⟨X4.2.2.2.1, X4.2.2.2.2⟩) (fun hHeld => ?_)
        clear hK K
        try simp only [Act.put, aq0, aq1, aq2]
        refine readyT (rs := [15]) (by kernel_rfl) (by simp) (all1 ?_)
        refine opT (i := 15) rfl (wanted_none rfl) (fun K hK => ?_)
        (refine wp_append_growN (.tmp 46) (.tmp 48) _ rfl _ Tryz.underlying39 Tryz.infoInt rfl (by decide) rfl (HW4.out.below ?hbw) rfl (show Rep _ (wrD u) [.int .i64 u.write] [] from ⟨rfl, rfl, hww⟩) (by simp) (by simp) ?hc rfl ?h1 ?hlen ?hba ?_; (case hbw => exact bel); (case hc => (intro jj vv hv; rcases jj with _ | jj <;> simp at hv; (subst hv; first | (go_simp; done) | (rw [HGg.out.touch.cell (by (simp <;> omega)) (NO2.out _ (by omega))]; go_simp; done)))); (case h1 => simp [Value.oneCell']); (case hlen => (simp only [List.length_map, List.length_take]; have := ul.out; omega)); (case hba => first | omega | (simp; omega)); intro v6 w6 hG6 hg6; obtain ⟨A7, c7, hf6, _, _⟩ := hG6.grow.form; subst hf6; have hh6 : Grew w4 w6 vw _ := hg6.after bel; have X6 := hh6.touch.box5 X4 NOw; have f63 := (hh6.touch.frozen (o := 3) lg4 NOw).trans f43; have f64 := (hh6.touch.frozen (o := 4) lg4 NOw).trans f44; have HG6 := Lib.hid hG6; have HR6 := Lib.hid (HG4.out.touch hh6.touch (NOv.out _ _ HH4.out) NOc.out); have lg6 := lt_of_cell X6.1; have HAP6 := Lib.hid (APS.out _ _ _ _ HH4.out (fun y hy => (HG4.out.own y hy).2.1) hh6); have Z6 := Lib.hid (ZS.out _ _ _ _ HH4.out hh6); obtain ⟨y0, y1, y2, y3, y4⟩ := X6; clear hG6 hg6 hh6 X4)
        refine hK.out _ _ (⟨y3, y4⟩) (fun hHeld => ?_)
        clear hK K
        try simp only [Act.put, aq0, aq1, aq2]
        refine goU 16 (fun _ => hHeld) ?_
        refine goU 17 (fun _ => hHeld) ?_
        refine readyT (rs := [18]) (by kernel_rfl) (by simp) (all1 ?_)
        refine opTT (i := 18) rfl (wanted_none rfl) (by kernel_rfl) (fun K hK => ?_)
        (unfold Oper.wp; go_simp)
        refine hK.out _ _ ?_
        clear hK K
        try simp only [Act.put, aq0, aq1, aq2]
        refine goU 19 (fun h => absurd h (by decide)) ?_
        refine goU 20 (fun h => absurd h (by decide)) ?_
        refine readyT (rs := [21]) (by kernel_rfl) (by simp) (all1 ?_)
        refine opTT (i := 21) rfl (wanted_none rfl) (by kernel_rfl) (fun K hK => ?_)
        (unfold Oper.wp; go_simp)
        refine hK.out _ _ ?_
        clear hK K
        try simp only [Act.put, aq0, aq1, aq2]
        refine wpAnyT_done (by kernel_rfl) ?_ _
        refine NoPanic.normal ?_
        (go_wp2; go_roundw; (case rel => (refine ⟨j + 1, _, _, cb ++ bs6, by omega, by go_num, ?_, ?_, HAP6.out, ⟨by go_simp, by go_simp, by go_simp, by go_simp, by go_simp⟩, by go_simp, by go_simp, (Z6.out.setCell (by simp) _).setCell (by simp) _⟩; (rw [HTr.out]; exact (HR6.out.set_low (by simp) _).set_low (by simp) _); (rw [HTw.out]; exact (HG6.out.set_low (by simp) _).set_low (by simp) _))); (case measure => (simp [intOf]; omega)))
    · have hjj : j = (instsF p).length := by omega
      subst hjj
      obtain ⟨A4, c4, bs4, rfl, q4, _⟩ := HGR.out.grow.rep
      obtain ⟨A5, c5, bs5, rfl, q5, _⟩ := HGW.out.grow.rep
      rw [show (instsF p).length = (usesF p).length from ul.out.symm, List.take_length] at q4 q5 hX
      rw [show (instsF p).length = (usesF p).length from ul.out.symm]
      simp only [List.length_map] at q4 q5 hX
      have HX := Lib.hid hX
      have Q4 := Lib.hid q4
      have Q5 := Lib.hid q5
      clear q4 q5 hX
      go_wp2
      go_ret2
      refine ⟨w1.heap.size, rfl, ⟨A1, A2, A3, A4, A5, c1, c2, c3, c4, c5, _, _, _, _, ?_, HP.out.below Sr, R1.out.below hb, Q4.out, Q5.out, HFR.out⟩, hz1, Sr⟩
      rw [← ul.out]; exact HX.out
end Go.Proofs.YtgogjbnneoadkaaGreat

/- The cells that a valid program's instances touch: l6Uses of the reference. -/
namespace Go.Proofs.YtgogjbnneoadkaaGreat
open Go.ChangeShapes Go.WideShapes Go.ChangeAt Go.RowKit Go.Deep

end Go.Proofs.YtgogjbnneoadkaaGreat

/- The kinds of dependences between two instances, on both sides; DepBetween. -/
namespace Go.Proofs.YtgogjbnneoadkaaGreat
open Go.ChangeShapes Go.WideShapes Go.ChangeAt Go.RowKit Go.Deep

end Go.Proofs.YtgogjbnneoadkaaGreat

/- All dependences of a program, on both sides. -/
namespace Go.Proofs.YtgogjbnneoadkaaGreat
open Go.ChangeShapes Go.WideShapes Go.ChangeAt Go.RowKit Go.Deep

end Go.Proofs.YtgogjbnneoadkaaGreat
