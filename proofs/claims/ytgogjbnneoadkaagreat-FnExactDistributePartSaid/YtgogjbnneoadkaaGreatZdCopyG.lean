/- Copies of the reference: a program. -/
import Derived.Test.YtgogjbnneoadkaaGreatZdCopyN
import Derived.Test.YtgogjbnneoadkaaGreatZdOwnG
set_option linter.all false
set_option maxHeartbeats 32000000
set_option maxRecDepth 100000
namespace Go.Proofs.YtgogjbnneoadkaaGreat
open Go.ChangeShapes Go.WideShapes Go.ChangeAt Go.RowKit Go.Deep
theorem l4Copy_c {x : Pgm} {w : World} {cs : List Value} {bs : List Nat} (h : Rep w x.d cs bs) (hs : PgmSm x) :
  Calls Tryz.prog 76 #[.agg cs.toArray] w (MadeT w x.d) := by
 obtain ⟨A1, c1, A2, c2, d1, d2, rfl, rfl, g1, g2⟩ := Rep.pgm_iff.1 h
 have HA := Lib.hid g1
 have HB := Lib.hid g2
 have HS := Lib.hid hs
 have hal : x.arrays.length ≤ 1000000 := hs.1
 have hn1 : x.arrays.length ≤ 9223372036854775807 := by omega
 have hbl : x.parts.length ≤ 1000000 := hs.2.2.1
 have hn2 : x.parts.length ≤ 9223372036854775807 := by omega
 clear g1 g2 h hs
 go_enter Tryz.func76, Tryz.ntmps76
 go_wp2
 go_loopw [4] (fun i wr => ∃ (j : Nat) (u : Value), j ≤ x.arrays.length ∧ i = .int .i64 j ∧ BoxW wr (w.heap.size + 2) u (.slice none 0 0) ∧ Grow wr (w.heap.size + 3) 125 2 u ((x.arrays.take j).map Ar.d) ∧ BoxW wr (w.heap.size + 1) (.slice none 0 0) (.slice none 0 0) ∧ BoxW wr w.heap.size (.slice A1 x.arrays.length c1) (.slice A2 x.parts.length c2) ∧ w.heap.size + 3 ≤ wr.heap.size ∧ Below w.heap.size w wr) (fun i _ => x.arrays.length - (intOf i).toNat)
 case atStart => exact ⟨0, .slice none 0 0, Nat.zero_le _, rfl, ⟨⟨by go_simp, by go_simp⟩, by go_simp, by go_simp⟩, by simpa using Grow.nil _ _ _ _, ⟨⟨by go_simp, by go_simp⟩, by go_simp, by go_simp⟩, ⟨⟨by go_simp, by go_simp⟩, by go_simp, by go_simp⟩, by simp, bel⟩
 case round =>
  obtain ⟨j, u, hj, rfl, ⟨⟨k2a, k2b⟩, f2a, f2b⟩, hG, hR, hX, hz, hb⟩ := hrel
  have HR := Lib.hid hR; clear hR
  obtain ⟨⟨p0, p1⟩, z0, z1⟩ := hX
  have HX := Lib.hid (show BoxW wr w.heap.size (.slice A1 x.arrays.length c1) (.slice A2 x.parts.length c2) from ⟨⟨p0, p1⟩, z0, z1⟩)
  obtain ⟨Au, cu, hfu, _, _⟩ := hG.form
  rw [List.length_map, List.length_take] at hfu
  have HG := Lib.hid hG; clear hG
  by_cases hlt : j < x.arrays.length
  ·have HT := Lib.hid (show (x.arrays.take (j + 1)).map Ar.d = (x.arrays.take j).map Ar.d ++ [x.arrays[j].d] by rw [List.take_succ_eq_append_getElem hlt, List.map_append]; rfl)
   have HV := Lib.hid (HS.out.2.1 _ (List.getElem_mem hlt))
   obtain ⟨be, oe, cse, le, rfl, hble, hre, _, _, hce⟩ := (HA.out.below hb).sls_at Ar.d_size (k := j) hlt
   have Ge := Lib.hid hre
   obtain ⟨A2e, c2e, d2e, rfl, rfl, g1e, g2e⟩ := Rep.ar_iff.1 hre
   have k0e := (hce 0 _ rfl).1; rw [Nat.add_zero] at k0e
   have k1e := (hce 1 _ rfl).1
   have Q1e := Lib.hid g1e
   have Q2e := Lib.hid g2e
   clear hce hre g1e g2e
   have hbe := Rep.sls_blk HA.out (show 0 < x.arrays.length by omega)
   have lt2 := lt_of_cell k2a
   have hmin : min j x.arrays.length = j := by omega
   rw [hmin] at hfu
   subst hfu
   have HOW := Lib.hid HG.out.own_ge
   obtain ⟨a, ha⟩ : ∃ a, a = x.arrays[j] := ⟨_, rfl⟩
   rw [← ha] at k0e k1e HT HV Q1e Q2e
   clear hmin ha
   go_wp2_with fail
   refine wp_region_noPanic ?_
   refine wp_regionT (S := fun w' => Box2 w' (w.heap.size + 2) (.slice Au j cu) (.slice none 0 0) ∧ Box2 w' w.heap.size (.slice (some ⟨be, oe, none⟩) x.arrays.length c1) (.slice A2 x.parts.length c2) ∧ w'.cell? ⟨be, oe + j * 2, none⟩ = some (.string a.name) ∧ w'.cell? ⟨be, oe + j * 2 + 1, none⟩ = some (.slice A2e a.dims.length c2e)) 20 (by kernel_rfl) (⟨⟨by go_simp, by go_simp⟩, ⟨by go_simp, by go_simp⟩, by go_simp, by go_simp⟩) (fun hHeld => ?_)
   refine goU 0 (fun _ => hHeld) ?_
   refine goT 1 hHeld ?_
   refine goU 2 (fun _ => hHeld) ?_
   refine goT 3 hHeld ?_
   refine goU 4 (fun _ => hHeld) ?_
   refine goU 5 (fun _ => hHeld) ?_
   refine goU 6 (fun _ => hHeld) ?_
   refine goT 7 hHeld ?_
   refine goU 9 (fun _ => hHeld) ?_
   refine goT 10 hHeld ?_
   refine goU 11 (fun _ => hHeld) ?_
   refine goU 12 (fun _ => hHeld) ?_
   refine goU 13 (fun _ => hHeld) ?_
   refine goT 14 hHeld ?_
   refine readyT (rs := [8]) (by kernel_rfl) (by simp) (all1 ?_)
   refine opT (i := 8) rfl (wanted_none rfl) (fun K hK => ?_)
   (unfold Oper.wp; go_simp)
   refine hK.out _ _ (⟨hHeld.1.to ((Below.refl _ _).alloc (Nat.le_refl _) _), hHeld.2.1.to ((Below.refl _ _).alloc (Nat.le_refl _) _), cell_toC hHeld.2.2.1 ((Below.refl _ _).alloc (Nat.le_refl _) _), cell_toC hHeld.2.2.2 ((Below.refl _ _).alloc (Nat.le_refl _) _)⟩) (fun hHeld => ?_)
   clear hK K
   try simp only [Act.put, aq0, aq1, aq2]
   refine readyT (rs := [15]) (by kernel_rfl) (by simp) (all1 ?_)
   refine opT (i := 15) rfl (wanted_none rfl) (fun K hK => ?_)
   (refine wp_append_copy (B := wr.heap.size) (.tmp 24) (.tmp 30) rfl Tryz.underlying39 Tryz.infoInt rfl ?hG2 rfl (Q2e.out.below bel) HV.out (by first | (simp; done) | (simp; omega) | omega) ?_; (case hG2 => (repeat (first | exact Grow.madeE _ _ (by simp) (by simp) | refine Grow.drewG ?_ | refine Grow.allocG ?_ _))); intro v4 w4 hG4 hg4; obtain ⟨A4, c4, bs4, rfl, r4, nd4, hb4, ho4⟩ := hG4.ints; have b4 : Below wr.heap.size _ w4 := hg4.below (by first | (simp; done) | (simp; omega) | omega) (fun y hy => by have h5 : some _ = some y := hy; have h6 := Option.some.inj h5; clear h5 hy; simp at h6; omega); have B4 : Below wr.heap.size wr w4 := Below.trans bel b4; have O1 := Lib.hid (one_newN (N := w4.heap.size) (Rep.ar_iff (x := a).2 ⟨_, _, _, rfl, rfl, Q1e.out, r4⟩) 125 rfl); have N1 := Lib.hid (And.intro nd4 hb4); clear r4 nd4 hb4 ho4 hG4)
   refine hK.out _ _ (⟨hg4.touch.box2 hHeld.1 (fun hm => by have h6 := own_some hm; first | omega | (simp at h6; done) | (simp at h6; omega)), hg4.touch.box2 hHeld.2.1 (fun hm => by have h6 := own_some hm; first | omega | (simp at h6; done) | (simp at h6; omega)), hg4.touch.cellR hHeld.2.2.1 (fun hm => by have h6 := own_some hm; first | omega | (simp at h6; done) | (simp at h6; omega)), hg4.touch.cellR hHeld.2.2.2 (fun hm => by have h6 := own_some hm; first | omega | (simp at h6; done) | (simp at h6; omega))⟩) (fun hHeld => ?_)
   clear hK K
   try simp only [Act.put, aq0, aq1, aq2]
   refine goU 16 (fun _ => hHeld) ?_
   refine readyT (rs := [17]) (by kernel_rfl) (by simp) (all1 ?_)
   refine opT (i := 17) rfl (wanted_none rfl) (fun K hK => ?_)
   (unfold Oper.wp; go_simp)
   refine hK.out _ _ (⟨hHeld.1.to ((Below.refl _ _).alloc (Nat.le_refl _) _), hHeld.2.1.to ((Below.refl _ _).alloc (Nat.le_refl _) _), cell_toC hHeld.2.2.1 ((Below.refl _ _).alloc (Nat.le_refl _) _), cell_toC hHeld.2.2.2 ((Below.refl _ _).alloc (Nat.le_refl _) _)⟩) (fun hHeld => ?_)
   clear hK K
   try simp only [Act.put, aq0, aq1, aq2]
   refine readyT (rs := [18]) (by kernel_rfl) (by simp) (all1 ?_)
   refine opT (i := 18) rfl (wanted_none rfl) (fun K hK => ?_)
   (refine wp_append_more (w0 := wr) (B := w.heap.size + 3) (xs := (x.arrays.take j).map Ar.d) (ys := [a.d]) (.tmp 17) (.tmp 33) _ rfl _ Tryz.underlying27 Tryz.infoArray rfl (by decide) rfl HG.out ?hbw4 rfl O1.out ?hys4 ?hn4 ?hf4 ?hlen4 hz ?_; (case hbw4 => exact below_al B4 _); (case hys4 => (intro y hy; simp only [List.mem_singleton] at hy; rw [hy]; rfl)); (case hn4 => exact N1.out.1); (case hf4 => exact N1.out.2); (case hlen4 => (simp; omega)); intro v5 w5 hG5 hg5; have B5 : Below (w.heap.size + 3) wr w5 := ((B4.alloc B4.size _).mono hz).trans (hg5.below (Nat.le_trans hz (Nat.le_trans B4.size (by simp))) (fun b hb => (HOW.out b hb).1)); have X2 : BoxW w5 (w.heap.size + 2) (.slice Au j cu) (.slice none 0 0) := BoxW.toB ⟨⟨k2a, k2b⟩, f2a, f2b⟩ (by omega) B5; have XR := Lib.hid (BoxW.toB HR.out (by omega) B5); have XX := Lib.hid (BoxW.toB HX.out (by omega) B5); have XZ := B5.size; obtain ⟨⟨k2d, k2e⟩, f2d, f2e⟩ := X2; obtain ⟨A6, c6, hf6, _, _⟩ := hG5.form; simp only [List.length_append, List.length_map, List.length_take, List.length_singleton] at hf6; rw [show min j x.arrays.length + 1 = j + 1 by omega] at hf6; subst hf6; rw [← HT.out] at hG5; have HG5 := Lib.hid hG5; have HB5 := Lib.hid (hb.trans (B5.mono (by omega))))
   refine hK.out _ _ (⟨hg5.touch.box2 hHeld.1 (fun hm => by have := (HOW.out _ (mem_ownL.1 hm)).1; omega), hg5.touch.box2 hHeld.2.1 (fun hm => by have := (HOW.out _ (mem_ownL.1 hm)).1; omega), hg5.touch.cellR hHeld.2.2.1 (fun hm => by have := (HOW.out _ (mem_ownL.1 hm)).1; omega), hg5.touch.cellR hHeld.2.2.2 (fun hm => by have := (HOW.out _ (mem_ownL.1 hm)).1; omega)⟩) (fun hHeld => ?_)
   clear hK K
   try simp only [Act.put, aq0, aq1, aq2]
   refine goU 19 (fun _ => hHeld) ?_
   refine readyT (rs := [20]) (by kernel_rfl) (by simp) (all1 ?_)
   refine opTT (i := 20) rfl (wanted_none rfl) (by kernel_rfl) (fun K hK => ?_)
   (unfold Oper.wp; go_simp)
   refine hK.out _ _ ?_
   clear hK K
   try simp only [Act.put, aq0, aq1, aq2]
   refine wpAnyT_done (by kernel_rfl) ?_ _
   refine NoPanic.normal ?_
   (go_wp2; go_roundw; (case rel => exact ⟨j + 1, _, by omega, by go_num, ⟨⟨by go_simp, by go_simp⟩, by go_simp, by go_simp⟩, HG5.out.set_low (p := ⟨w.heap.size + 2, 0, none⟩) (by simp) _, ⟨Box2.set XR.out.1 (by first | (simp; done) | (simp; omega)) _, by rw [World.frozen?_setCell]; exact XR.out.2.1, by rw [World.frozen?_setCell]; exact XR.out.2.2⟩, ⟨Box2.set XX.out.1 (by first | (simp; done) | (simp; omega)) _, by rw [World.frozen?_setCell]; exact XX.out.2.1, by rw [World.frozen?_setCell]; exact XX.out.2.2⟩, by (simp [World.setCell]; omega), HB5.out.setCell (by first | (simp; done) | (simp; omega)) _⟩); (case measure => (simp [intOf]; omega)))
  ·have hjj : j = x.arrays.length := by omega
   subst hjj
   rw [Nat.min_self] at hfu
   subst hfu
   have hG := HG.out
   obtain ⟨A5, c5, bs5, he5, r5, nd5, hb5⟩ := hG.rep
   rw [List.length_map, List.length_take, Nat.min_self] at he5 r5
   simp only [Value.slice.injEq, true_and] at he5
   obtain ⟨rfl, rfl⟩ := he5
   rw [List.take_length] at r5
   have L5 := Lib.hid (Rep.lt _ r5)
   have N5 := Lib.hid (And.intro nd5 hb5)
   have R5 := Lib.hid (show Rep wr (sls Ar.d x.arrays) [.slice Au x.arrays.length cu] bs5 from r5)
   clear hG r5 nd5 hb5 HG
   obtain ⟨wo, rfl⟩ : ∃ wo, wo = wr := ⟨_, rfl⟩
   have lt2 := lt_of_cell k2a
   have lt0 := lt_of_cell p0
   go_wp2
   go_loopw [5] (fun i wv => ∃ (k : Nat) (v : Value), k ≤ x.parts.length ∧ i = .int .i64 k ∧ BoxW wv (w.heap.size + 2) (.slice Au x.arrays.length cu) v ∧ Grow wv wo.heap.size 54 2 v ((x.parts.take k).map Prt.d) ∧ BoxW wv (w.heap.size + 1) (.slice none 0 0) (.slice none 0 0) ∧ BoxW wv w.heap.size (.slice A1 x.arrays.length c1) (.slice A2 x.parts.length c2) ∧ Rep wv (sls Ar.d x.arrays) [.slice Au x.arrays.length cu] bs5 ∧ wo.heap.size ≤ wv.heap.size ∧ Below w.heap.size w wv) (fun i _ => x.parts.length - (intOf i).toNat)
   case atStart => exact ⟨0, .slice none 0 0, Nat.zero_le _, rfl, ⟨⟨k2a, k2b⟩, f2a, f2b⟩, by simpa using Grow.nil _ _ _ _, HR.out, HX.out, R5.out, Nat.le_refl _, hb⟩
   case round =>
    obtain ⟨wv, rfl⟩ : ∃ wv, wv = wr := ⟨_, rfl⟩
    obtain ⟨k, v, hk, rfl, ⟨⟨m2a, m2b⟩, n2a, n2b⟩, hP, hQ, hX2, hA5, hz2, hb2⟩ := hrel
    have HQ := Lib.hid hQ; clear hQ
    have HA5 := Lib.hid hA5; clear hA5
    have HX2 := Lib.hid hX2
    obtain ⟨⟨y0, y1⟩, _, _⟩ := hX2
    obtain ⟨Av, cv, hfv, _, _⟩ := hP.form
    rw [List.length_map, List.length_take] at hfv
    have HP := Lib.hid hP; clear hP
    clear k2a k2b f2a f2b p0 p1 z0 z1 HX
    by_cases hkt : k < x.parts.length
    ·have HT := Lib.hid (show (x.parts.take (k + 1)).map Prt.d = (x.parts.take k).map Prt.d ++ [x.parts[k].d] by rw [List.take_succ_eq_append_getElem hkt, List.map_append]; rfl)
     have HV := Lib.hid (HS.out.2.2.2 _ (List.getElem_mem hkt))
     obtain ⟨bg, og, csg, lg, rfl, hblg, hrg, _, _, hcg⟩ := (HB.out.below hb2).sls_at Prt.d_size (k := k) hkt
     have Gg := Lib.hid hrg
     obtain ⟨A1g, c1g, A2g, c2g, d1g, d2g, rfl, rfl, g1g, g2g⟩ := Rep.prt_iff.1 hrg
     have k0g := (hcg 0 _ rfl).1; rw [Nat.add_zero] at k0g
     have k1g := (hcg 1 _ rfl).1
     have Q1g := Lib.hid g1g
     have Q2g := Lib.hid g2g
     clear hcg hrg g1g g2g
     have hbg := Rep.sls_blk HB.out (show 0 < x.parts.length by omega)
     have lt2' := lt_of_cell m2a
     have hmin : min k x.parts.length = k := by omega
     rw [hmin] at hfv
     subst hfv
     have HOW := Lib.hid HP.out.own_ge
     obtain ⟨a, ha⟩ : ∃ a, a = x.parts[k] := ⟨_, rfl⟩
     rw [← ha] at k0g k1g Q1g Q2g HT HV Gg
     clear hmin ha
     have hbo : a.body.length ≤ 1000000 := HV.out.2.2.1
     have hno : a.body.length ≤ 9223372036854775807 := by omega
     go_wp2_with fail
     refine (l2Copy_c (Q1g.out.below bel) HV.out.1 HV.out.2.1).mono ?_
     rintro e w1 ⟨An, nn, cn, bs1, rfl, r1, nd1, hb1, b1⟩
     obtain ⟨hnn, _, _⟩ := r1.sls_len
     subst hnn
     have B1 : Below wv.heap.size wv w1 := bel
     have hc1 := (bcell B1).1
     have m0w := (hc1 _ _ (lt_of_cell y1)).trans y0
     have m9w := (hc1 _ _ (lt_of_cell y1)).trans y1
     have m1w := (hc1 _ _ hblg).trans k1g
     have lta := lt_of_cell m0w
     have ltb := lt_of_cell m1w
     have R1 := Lib.hid r1
     have N1 := Lib.hid (And.intro nd1 (show ∀ y ∈ bs1, wv.heap.size ≤ y from fun y hy => by have := hb1 y hy; (try simp at this); omega))
     have L1 := Lib.hid (Rep.lt _ r1)
     have hz1 := B1.size
     clear hc1 r1 nd1 hb1 b1
     go_wp2
     go_loopw [7] (fun i wq => ∃ (m : Nat) (u : Value), m ≤ a.body.length ∧ i = .int .i64 m ∧ BoxW wq w1.heap.size (.slice An a.nest.length cn) u ∧ Grow wq (w1.heap.size + 1) 102 9 u ((a.body.take m).map Stm.d) ∧ w1.heap.size + 1 ≤ wq.heap.size ∧ Below w1.heap.size w1 wq) (fun i _ => a.body.length - (intOf i).toNat)
     case atStart => exact ⟨0, .slice none 0 0, Nat.zero_le _, rfl, ⟨⟨by go_simp, by go_simp⟩, by go_simp, by go_simp⟩, by simpa using Grow.nil _ _ _ _, by simp, bel⟩
     case round =>
      obtain ⟨wq, rfl⟩ : ∃ wq, wq = wr := ⟨_, rfl⟩
      obtain ⟨m, u, hm, rfl, ⟨⟨r2a, r2b⟩, s2a, s2b⟩, hU, hzq, hbq⟩ := hrel
      obtain ⟨Ab, cb, hfb, _, _⟩ := hU.form
      rw [List.length_map, List.length_take] at hfb
      have HU := Lib.hid hU; clear hU
      have hcq := (bcell hbq).1
      have m0q := (hcq _ _ lta).trans m0w
      have m9q := (hcq _ _ lta).trans m9w
      have m1q := (hcq _ _ ltb).trans m1w
      have lta2 := lt_of_cell m0q
      have ltb2 := lt_of_cell m1q
      have ltr := lt_of_cell r2a
      have Bq : Below wv.heap.size wv wq := below_tr B1 hbq
      clear hcq
      by_cases hmt : m < a.body.length
      ·have HTm := Lib.hid (show (a.body.take (m + 1)).map Stm.d = (a.body.take m).map Stm.d ++ [a.body[m].d] by rw [List.take_succ_eq_append_getElem hmt, List.map_append]; rfl)
       have HVm := Lib.hid (HV.out.2.2.2 _ (List.getElem_mem hmt))
       obtain ⟨bq, oq, csq, lq, rfl, hblq, hrq, _, _, hcq⟩ := (Q2g.out.below Bq).sls_at Stm.d_size (k := m) hmt
       have Gq := Lib.hid hrq
       obtain ⟨A2q, c2q, A5q, c5q, A8q, c8q, A9q, c9q, d2q, d5q, d8q, d9q, rfl, rfl, g1q, g2q, g3q, g4q, g5q, g6q, g7q, g8q, g9q⟩ := Rep.stm_iff.1 hrq
       have k0q := (hcq 0 _ rfl).1; rw [Nat.add_zero] at k0q
       have k1q := (hcq 1 _ rfl).1
       have k2q := (hcq 2 _ rfl).1
       have k3q := (hcq 3 _ rfl).1
       have k4q := (hcq 4 _ rfl).1
       have k5q := (hcq 5 _ rfl).1
       have k6q := (hcq 6 _ rfl).1
       have k7q := (hcq 7 _ rfl).1
       have k8q := (hcq 8 _ rfl).1
       have Q1q := Lib.hid g1q
       have Q2q := Lib.hid g2q
       have Q3q := Lib.hid g3q
       have Q4q := Lib.hid g4q
       have Q5q := Lib.hid g5q
       have Q6q := Lib.hid g6q
       have Q7q := Lib.hid g7q
       have Q8q := Lib.hid g8q
       have Q9q := Lib.hid g9q
       clear hcq hrq g1q g2q g3q g4q g5q g6q g7q g8q g9q
       have hbs := Rep.sls_blk Q2g.out (show 0 < a.body.length by omega)
       have hmin : min m a.body.length = m := by omega
       rw [hmin] at hfb
       subst hfb
       have HOW := Lib.hid HU.out.own_ge
       obtain ⟨t, ht⟩ : ∃ t, t = a.body[m] := ⟨_, rfl⟩
       rw [← ht] at k0q k1q k2q k3q k4q k5q k6q k7q k8q Gq HTm HVm
       clear hmin ht m0w m1w m9w y0 y1 m2a m2b n2a n2b k0g k1g
       go_wp2_with fail
       refine wp_region_noPanic ?_
       refine wp_regionT (S := fun w' => Box2 w' w1.heap.size (.slice An a.nest.length cn) (.slice Ab m cb) ∧ Box2 w' w.heap.size (.slice A1 x.arrays.length c1) (.slice (some ⟨bg, og, none⟩) x.parts.length c2) ∧ w'.cell? ⟨bg, og + k * 2 + 1, none⟩ = some (.slice (some ⟨bq, oq, none⟩) a.body.length c2g) ∧ (w'.cell? ⟨bq, oq + m * 9, none⟩ = some (.string t.write.arr) ∧ w'.cell? ⟨bq, oq + m * 9 + 1, none⟩ = some (.slice A2q t.write.subs.length c2q) ∧ w'.cell? ⟨bq, oq + m * 9 + 2, none⟩ = some (.int .i64 t.value.kind) ∧ w'.cell? ⟨bq, oq + m * 9 + 3, none⟩ = some (.int .i64 t.value.num) ∧ w'.cell? ⟨bq, oq + m * 9 + 4, none⟩ = some (.slice A5q t.value.index.coefs.length c5q) ∧ w'.cell? ⟨bq, oq + m * 9 + 5, none⟩ = some (.int .i64 t.value.index.const) ∧ w'.cell? ⟨bq, oq + m * 9 + 6, none⟩ = some (.string t.value.read.arr) ∧ w'.cell? ⟨bq, oq + m * 9 + 7, none⟩ = some (.slice A8q t.value.read.subs.length c8q) ∧ w'.cell? ⟨bq, oq + m * 9 + 8, none⟩ = some (.slice A9q t.value.kids.length c9q))) 15 (by kernel_rfl) (⟨⟨by go_simp, by go_simp⟩, ⟨by go_simp, by go_simp⟩, by go_simp, by go_simp, by go_simp, by go_simp, by go_simp, by go_simp, by go_simp, by go_simp, by go_simp, by go_simp⟩) (fun hHeld => ?_)
       refine goU 0 (fun _ => hHeld) ?_
       refine goT 1 hHeld ?_
       refine goU 2 (fun _ => hHeld) ?_
       refine goT 3 hHeld ?_
       refine goU 4 (fun _ => hHeld) ?_
       refine goU 5 (fun _ => hHeld) ?_
       refine goU 6 (fun _ => hHeld) ?_
       refine goT 7 hHeld ?_
       refine goU 8 (fun _ => hHeld) ?_
       refine goU 9 (fun _ => hHeld) ?_
       refine goT 10 hHeld ?_
       refine readyT (rs := [11]) (by kernel_rfl) (by simp) (all1 ?_)
       refine opT (i := 11) rfl (wanted_none rfl) (fun K hK => ?_)
       go_simp
       (refine (l3Copy_c (Gq.out.below bel) HVm.out.choose_spec).mono ?_; rintro e w2 ⟨Y2, y2, Y5, y5, Y8, y8, Y9, y9, bs2, rfl, r2, nd2, hb2, b2⟩; have B2 : Below wq.heap.size wq w2 := bel; have O1 := Lib.hid (one_newN (N := w2.heap.size) r2 102 rfl); have N2 := Lib.hid (And.intro nd2 (show ∀ y ∈ bs2, wq.heap.size ≤ y from fun y hy => by have := hb2 y hy; simp at this; omega)); clear r2 nd2 hb2)
       go_wp2_with fail
       refine hK.out _ _ (⟨hHeld.1.to b2, hHeld.2.1.to b2, cell_toC hHeld.2.2.1 b2, cell_toC hHeld.2.2.2.1 b2, cell_toC hHeld.2.2.2.2.1 b2, cell_toC hHeld.2.2.2.2.2.1 b2, cell_toC hHeld.2.2.2.2.2.2.1 b2, cell_toC hHeld.2.2.2.2.2.2.2.1 b2, cell_toC hHeld.2.2.2.2.2.2.2.2.1 b2, cell_toC hHeld.2.2.2.2.2.2.2.2.2.1 b2, cell_toC hHeld.2.2.2.2.2.2.2.2.2.2.1 b2, cell_toC hHeld.2.2.2.2.2.2.2.2.2.2.2 b2⟩) (fun hHeld => ?_)
       clear hK K
       try simp only [Act.put, aq0, aq1, aq2]
       refine readyT (rs := [12]) (by kernel_rfl) (by simp) (all1 ?_)
       refine opT (i := 12) rfl (wanted_none rfl) (fun K hK => ?_)
       (unfold Oper.wp; go_simp)
       refine hK.out _ _ (⟨hHeld.1.to ((Below.refl _ _).alloc (Nat.le_refl _) _), hHeld.2.1.to ((Below.refl _ _).alloc (Nat.le_refl _) _), cell_toC hHeld.2.2.1 ((Below.refl _ _).alloc (Nat.le_refl _) _), cell_toC hHeld.2.2.2.1 ((Below.refl _ _).alloc (Nat.le_refl _) _), cell_toC hHeld.2.2.2.2.1 ((Below.refl _ _).alloc (Nat.le_refl _) _), cell_toC hHeld.2.2.2.2.2.1 ((Below.refl _ _).alloc (Nat.le_refl _) _), cell_toC hHeld.2.2.2.2.2.2.1 ((Below.refl _ _).alloc (Nat.le_refl _) _), cell_toC hHeld.2.2.2.2.2.2.2.1 ((Below.refl _ _).alloc (Nat.le_refl _) _), cell_toC hHeld.2.2.2.2.2.2.2.2.1 ((Below.refl _ _).alloc (Nat.le_refl _) _), cell_toC hHeld.2.2.2.2.2.2.2.2.2.1 ((Below.refl _ _).alloc (Nat.le_refl _) _), cell_toC hHeld.2.2.2.2.2.2.2.2.2.2.1 ((Below.refl _ _).alloc (Nat.le_refl _) _), cell_toC hHeld.2.2.2.2.2.2.2.2.2.2.2 ((Below.refl _ _).alloc (Nat.le_refl _) _)⟩) (fun hHeld => ?_)
       clear hK K
       try simp only [Act.put, aq0, aq1, aq2]
       refine readyT (rs := [13]) (by kernel_rfl) (by simp) (all1 ?_)
       refine opT (i := 13) rfl (wanted_none rfl) (fun K hK => ?_)
       (refine wp_append_more (w0 := wq) (B := w1.heap.size + 1) (xs := (a.body.take m).map Stm.d) (ys := [t.d]) (.tmp 63) (.tmp 74) _ rfl _ Tryz.underlying52 Tryz.infoStmt rfl (by decide) rfl HU.out ?hbw3 rfl O1.out ?hys3 ?hn3 ?hf3 ?hlen3 hzq ?_; (case hbw3 => exact below_al B2 _); (case hys3 => (intro y hy; simp only [List.mem_singleton] at hy; rw [hy]; exact Stm.d_size t)); (case hn3 => exact N2.out.1); (case hf3 => exact N2.out.2); (case hlen3 => (simp; omega)); intro v7 w7 hG7 hg7; have B7 : Below (w1.heap.size + 1) wq w7 := ((B2.alloc B2.size _).mono hzq).trans (hg7.below (Nat.le_trans hzq (Nat.le_trans B2.size (by simp))) (fun b hb => (HOW.out b hb).1)); have X7 : BoxW w7 w1.heap.size (.slice An a.nest.length cn) (.slice Ab m cb) := BoxW.toB ⟨⟨r2a, r2b⟩, s2a, s2b⟩ (by omega) B7; have XZ := B7.size; obtain ⟨⟨x7a, x7b⟩, x7c, x7d⟩ := X7; have ltx := lt_of_cell x7a; obtain ⟨A8, c8, hf8, _, _⟩ := hG7.form; simp only [List.length_append, List.length_map, List.length_take, List.length_singleton] at hf8; rw [show min m a.body.length + 1 = m + 1 by omega] at hf8; subst hf8; rw [← HTm.out] at hG7; have HG7 := Lib.hid hG7; have HB7 := Lib.hid (hbq.trans (B7.mono (by omega))))
       refine hK.out _ _ (⟨hg7.touch.box2 hHeld.1 (fun hm => by have := (HOW.out _ (mem_ownL.1 hm)).1; omega), hg7.touch.box2 hHeld.2.1 (fun hm => by have := (HOW.out _ (mem_ownL.1 hm)).1; omega), hg7.touch.cellR hHeld.2.2.1 (fun hm => by have := (HOW.out _ (mem_ownL.1 hm)).1; omega), hg7.touch.cellR hHeld.2.2.2.1 (fun hm => by have := (HOW.out _ (mem_ownL.1 hm)).1; omega), hg7.touch.cellR hHeld.2.2.2.2.1 (fun hm => by have := (HOW.out _ (mem_ownL.1 hm)).1; omega), hg7.touch.cellR hHeld.2.2.2.2.2.1 (fun hm => by have := (HOW.out _ (mem_ownL.1 hm)).1; omega), hg7.touch.cellR hHeld.2.2.2.2.2.2.1 (fun hm => by have := (HOW.out _ (mem_ownL.1 hm)).1; omega), hg7.touch.cellR hHeld.2.2.2.2.2.2.2.1 (fun hm => by have := (HOW.out _ (mem_ownL.1 hm)).1; omega), hg7.touch.cellR hHeld.2.2.2.2.2.2.2.2.1 (fun hm => by have := (HOW.out _ (mem_ownL.1 hm)).1; omega), hg7.touch.cellR hHeld.2.2.2.2.2.2.2.2.2.1 (fun hm => by have := (HOW.out _ (mem_ownL.1 hm)).1; omega), hg7.touch.cellR hHeld.2.2.2.2.2.2.2.2.2.2.1 (fun hm => by have := (HOW.out _ (mem_ownL.1 hm)).1; omega), hg7.touch.cellR hHeld.2.2.2.2.2.2.2.2.2.2.2 (fun hm => by have := (HOW.out _ (mem_ownL.1 hm)).1; omega)⟩) (fun hHeld => ?_)
       clear hK K
       try simp only [Act.put, aq0, aq1, aq2]
       refine goU 14 (fun _ => hHeld) ?_
       refine readyT (rs := [15]) (by kernel_rfl) (by simp) (all1 ?_)
       refine opTT (i := 15) rfl (wanted_none rfl) (by kernel_rfl) (fun K hK => ?_)
       (unfold Oper.wp; go_simp)
       refine hK.out _ _ ?_
       clear hK K
       try simp only [Act.put, aq0, aq1, aq2]
       refine wpAnyT_done (by kernel_rfl) ?_ _
       refine NoPanic.normal ?_
       (go_wp2; go_roundw; (case rel => exact ⟨m + 1, _, by omega, by go_num, ⟨⟨by go_simp, by go_simp⟩, by go_simp, by go_simp⟩, HG7.out.set_low (p := ⟨w1.heap.size, 1, none⟩) (by simp) _, by (simp [World.setCell]; omega), HB7.out.setCell (by first | (simp; done) | (simp; omega)) _⟩); (case measure => (simp [intOf]; omega)))
      ·have hmm : m = a.body.length := by omega
       subst hmm
       rw [Nat.min_self] at hfb
       subst hfb
       have hU := HU.out
       obtain ⟨A6, c6, bs6, he6, r6, nd6, hb6⟩ := hU.rep
       rw [List.length_map, List.length_take, Nat.min_self] at he6 r6
       simp only [Value.slice.injEq, true_and] at he6
       obtain ⟨rfl, rfl⟩ := he6
       rw [List.take_length] at r6
       have O1 := Lib.hid (one_newN (N := wq.heap.size) (Rep.prt_iff (x := a).2 ⟨_, _, _, _, _, _, rfl, rfl, R1.out.below hbq, (show Rep wq (sls Stm.d a.body) [.slice Ab a.body.length cb] bs6 from r6)⟩) 54 rfl)
       have N2 := Lib.hid (show (bs1 ++ bs6).Nodup ∧ ∀ y ∈ bs1 ++ bs6, wv.heap.size ≤ y from ⟨List.nodup_append.2 ⟨N1.out.1, nd6, fun y h1 z h2 e => by subst e; have q1 := L1.out y h1; have q2 := hb6 y h2; omega⟩, fun y hy => by
        rcases List.mem_append.1 hy with h1 | h1
        ·exact N1.out.2 y h1
        ·have q2 := hb6 y h1; omega⟩)
       clear hU r6 nd6 hb6 HU
       have hcv := (bcell Bq).1
       have fcv := (bcell Bq).2
       have e2a := (hcv _ _ lt2').trans m2a
       have e2b := (hcv _ _ lt2').trans m2b
       have lte := lt_of_cell e2a
       clear hcv fcv m0w m1w m9w k0g k1g
       have hzv := Bq.size
       go_wp2_with (
        at_builtin
        refine wpList_append_more (w0 := wv) (B := wo.heap.size) (xs := (x.parts.take k).map Prt.d) (ys := [a.d]) rfl (.tmp 78) (.tmp 80) _ rfl _ Tryz.underlying28 Tryz.infoPart rfl (by decide) rfl HP.out ?hbw rfl O1.out ?hys ?hn ?hf ?hlen hz2 ?_
        case hbw => exact below_al Bq _
        case hys => intro y hy; simp only [List.mem_singleton] at hy; rw [hy]; rfl
        case hn => exact N2.out.1
        case hf => exact N2.out.2
        case hlen => simp; omega
        intro v8 w8 hG8 hg8
        have B8 : Below wo.heap.size wv w8 := ((Bq.alloc Bq.size _).mono hz2).trans (hg8.below (Nat.le_trans hz2 (Nat.le_trans hzv (by simp))) (fun b hb => (HOW.out b hb).1))
        have X2 : BoxW w8 (w.heap.size + 2) (.slice Au x.arrays.length cu) (.slice Av k cv) := BoxW.toB ⟨⟨m2a, m2b⟩, n2a, n2b⟩ (by omega) B8
        have XR := Lib.hid (BoxW.toB HQ.out (by omega) B8)
        have XX := Lib.hid (BoxW.toB HX2.out (by omega) B8)
        have XA := Lib.hid (Rep.keep _ HA5.out (Keeps.of_below B8 L5.out))
        have XZ := B8.size
        obtain ⟨⟨m2d, m2e⟩, n2d, n2e⟩ := X2
        have lt8 := lt_of_cell m2d
        obtain ⟨A4, c4, hf4, _, _⟩ := hG8.form
        simp only [List.length_append, List.length_map, List.length_take, List.length_singleton] at hf4
        rw [show min k x.parts.length + 1 = k + 1 by omega] at hf4
        subst hf4
        rw [← HT.out] at hG8
        have HG8 := Lib.hid hG8
        have HB8 := Lib.hid (hb2.trans (B8.mono (by omega)))
        clear hG8 hg8)
       go_roundw
       case rel => exact ⟨k + 1, _, by omega, by go_num, ⟨⟨by go_simp, by go_simp⟩, by go_simp, by go_simp⟩, HG8.out.set_low (p := ⟨w.heap.size + 2, 1, none⟩) (by first | (simp; done) | (simp; omega)) _, ⟨Box2.set XR.out.1 (by first | (simp; done) | (simp; omega)) _, by rw [World.frozen?_setCell]; exact XR.out.2.1, by rw [World.frozen?_setCell]; exact XR.out.2.2⟩, ⟨Box2.set XX.out.1 (by first | (simp; done) | (simp; omega)) _, by rw [World.frozen?_setCell]; exact XX.out.2.1, by rw [World.frozen?_setCell]; exact XX.out.2.2⟩, Rep.keep _ XA.out ((Keeps.refl _ _).setCell (fun hm => by have := N5.out.2 _ hm; simp at this; omega) _), by (simp [World.setCell]; omega), HB8.out.setCell (by first | (simp; done) | (simp; omega)) _⟩
       case measure => simp [intOf]; omega
    ·have hkk : k = x.parts.length := by omega
     subst hkk
     rw [Nat.min_self] at hfv
     subst hfv
     have hG := HP.out
     obtain ⟨A6, c6, bs6, he6, r6, nd6, hb6⟩ := hG.rep
     rw [List.length_map, List.length_take, Nat.min_self] at he6 r6
     simp only [Value.slice.injEq, true_and] at he6
     obtain ⟨rfl, rfl⟩ := he6
     rw [List.take_length] at r6
     have H6 := Lib.hid (And.intro r6 (And.intro nd6 hb6))
     clear hG r6 nd6 hb6
     obtain ⟨⟨m1, m2⟩, m3, m4⟩ := HQ.out
     have lt1 := lt_of_cell m1
     have lt2' := lt_of_cell m2a
     go_wp2
     have hge : ∀ y ∈ bs5 ++ bs6, w.heap.size + 3 ≤ y := fun y hy => by
      rcases List.mem_append.1 hy with h1 | h1
      ·exact N5.out.2 y h1
      ·have := H6.out.2.2 y h1; omega
     have hnb : w.heap.size + 1 ∉ bs5 ++ bs6 := fun hm => by have := hge _ hm; omega
     exact bodyPost_ret (v := .agg #[.slice Au x.arrays.length cu, .slice Av x.parts.length cv]) (by simp [results, Tryz.results76, go_sem, m1, m2]) rfl ⟨[.slice Au x.arrays.length cu, .slice Av x.parts.length cv], bs5 ++ bs6, rfl, Rep.keep _ (Rep.pgm_iff.2 ⟨_, _, _, _, _, _, rfl, rfl, HA5.out, H6.out.1⟩) (((Keeps.refl _ _).setCell hnb _).setCell hnb _), List.nodup_append.2 ⟨N5.out.1, H6.out.2.1, fun y h1 z h2 e => by subst e; have q1 := L5.out y h1; have q2 := H6.out.2.2 y h2; omega⟩, fun y hy => by have := hge y hy; omega, (hb2.setCell (by simp) _).setCell (by simp) _⟩
end Go.Proofs.YtgogjbnneoadkaaGreat
