/- DistributePart of the program: the part is there, and the statements stand inside it. -/
import Derived.Test.YtgogjbnneoadkaaGreatZdSplitS
set_option linter.all false
set_option maxHeartbeats 16000000
set_option maxRecDepth 100000
namespace Go.Proofs.YtgogjbnneoadkaaGreat
open Go.ChangeShapes Go.WideShapes Go.ChangeAt Go.RowKit Go.Deep
theorem ins_fin {w8 : World} {B np X : Nat} {T : TypeId} {e0 e1 e2 ns : List Value} {l0 l1 l2 bso : List Nat} {xs zs : List Prt} {y1 y2 : Prt} {v' : Value}
  (h0 : Reps w8 (xs.map Prt.d) e0 l0) (h1 : Rep w8 y1.d e1 l1) (h2 : Reps w8 (zs.map Prt.d) e2 l2) (h4 : Rep w8 y2.d ns bso) (hin : ∀ y ∈ l0 ++ (l1 ++ (bso ++ l2)), y ≠ X)
  (hown : w8.ownsRow B T 2 v' (np + 1) (e0 ++ e1 ++ ns ++ e2)) (hlen : np + 1 = xs.length + 2 + zs.length) (hv : ∀ y, v'.ownBlock = some y → y ≠ X) :
  ∃ A c bs9, v' = .slice A (np + 1) c ∧ Rep w8 (sls Prt.d (xs ++ y1 :: y2 :: zs)) [.slice A (np + 1) c] bs9 ∧ ∀ y ∈ bs9, y ≠ X := by
 have hr : Reps w8 ((xs ++ y1 :: y2 :: zs).map Prt.d) (e0 ++ e1 ++ ns ++ e2) (l0 ++ (l1 ++ (bso ++ l2))) := by
  rw [List.map_append, List.append_assoc, List.append_assoc]
  exact (Reps_append _ _).2 ⟨_, _, _, _, rfl, rfl, h0, _, _, _, _, rfl, rfl, h1, _, _, _, _, rfl, rfl, h4, h2⟩
 obtain ⟨A, c, bs, rfl, h6, h7⟩ := Rep.of_own hown (by simp; omega) hr
 refine ⟨A, c, bs, rfl, h6, ?_⟩
 rcases h7 with ⟨_, rfl⟩ | ⟨gg, rfl, _, hgg⟩
 ·simp
 ·intro y hy
  rcases List.mem_cons.1 hy with rfl | hy
  ·exact hv _ hgg
  ·exact hin y hy
theorem own_setK {w : World} {B : Nat} {e : TypeId} {size n g c i : Nat} {es : List Value} (h : w.ownsRow B e size (.slice (some ⟨g, 0, none⟩) n c) n es) (hi : i < n * size) (u : Value) :
  (w.setCell ⟨g, i, none⟩ u).ownsRow B e size (.slice (some ⟨g, 0, none⟩) n c) n (es.set i u) := by
 obtain ⟨h1, h0 | ⟨g', cap, cur, hv, h2, h3, h4, h5, h6, h7⟩⟩ := h
 ·cases h0.1
 ·simp only [Value.slice.injEq, Option.some.injEq, Addr.mk.injEq] at hv
  obtain ⟨⟨rfl, _⟩, _, rfl⟩ := hv
  refine ⟨by simpa using h1, .inr ⟨g, c, (cur.toList.set i u).toArray, rfl, h2, ?_, h4, h5, by simpa using h6, ?_⟩⟩
  ·have hr : Row w g e cur.toList := by unfold Row; rw [h3]
   have := hr.set i u
   unfold Row at this
   exact this
  ·rw [← h7]
   simp only [List.toList_toArray]
   rw [List.take_set]
theorem own_mid {w : World} {B : Nat} {e : TypeId} {n g c k : Nat} {e0 e2 : List Value} {u v x : Value} (h : w.ownsRow B e 2 (.slice (some ⟨g, 0, none⟩) n c) n (e0 ++ [u, v] ++ e2)) (h0 : e0.length = k * 2) (hk : k < n) :
  (w.setCell ⟨g, k * 2 + 1, none⟩ x).ownsRow B e 2 (.slice (some ⟨g, 0, none⟩) n c) n (e0 ++ [u, x] ++ e2) := by
 have := own_setK h (i := k * 2 + 1) (by omega) x
 have e1 : (e0 ++ [u, v] ++ e2).set (k * 2 + 1) x = e0 ++ [u, x] ++ e2 := by
  rw [List.append_assoc, List.set_append_right _ _ (by omega), h0, Nat.add_sub_cancel_left, List.append_assoc]; rfl
 rwa [e1] at this
theorem Row.tchP {w w' : World} {g : Nat} {t : TypeId} {l : List Value} {bs : List Nat} (h : Row w g t l) (t1 : Touch bs w w') (hg : g < w.heap.size) (hn : g ∉ bs) : Row w' g t l := h.of_block (t1.block g hg hn)
theorem own_frz {w : World} {B : Nat} {e : TypeId} {size n g c : Nat} {es : List Value} (h : w.ownsRow B e size (.slice (some ⟨g, 0, none⟩) n c) n es) (i : Nat) : w.frozen? ⟨g, i, none⟩ = false := by
 obtain ⟨h1, h0 | ⟨g', cap, cur, hv, h2, h3, h4, h5, h6, h7⟩⟩ := h
 ·cases h0.1
 ·simp only [Value.slice.injEq, Option.some.injEq, Addr.mk.injEq] at hv
  obtain ⟨⟨rfl, _⟩, _, rfl⟩ := hv
  have hr : Row w g e cur.toList := by unfold Row; rw [h3]
  exact hr.frozen i
theorem distB_t {p : Pgm} {k m : Nat} (hv : progOk p = true) (hk : k < p.parts.length) (hm1 : 1 ≤ m) (hmn : m < p.parts[k].body.length) : distB p (k : Int) (m : Int) = true := by
 rw [distB, hv, inB_true (by omega) (by omega), prtF_eq hk, inB_true (by omega) (by omega)]; rfl
theorem Tryz.sizeInst3 : (Tryz.prog.info? 84).map (·.size) = some 3 := by kernel_rfl
theorem DistI_y {w : World} {p : Pgm} {k m : Nat} {cs : List Value} {bs : List Nat} (h : Rep w p.d cs bs) (hv : progOk p = true) (hk : k < p.parts.length) (hm1 : 1 ≤ m) (hmn : m < p.parts[k].body.length) :
  Calls Tryz.prog 16 #[.agg cs.toArray, .int .i64 (k : Int), .int .i64 (m : Int)] w (MadePgmB w (DistributePartF p (k : Int) (m : Int))) := by
 have HDB := Lib.hid (distB_t hv hk hm1 hmn)
 have HH := Lib.hid h
 obtain ⟨A1, c1, A2, c2, d1, d2, rfl, rfl, g1, g2⟩ := Rep.pgm_iff.1 h
 have HV := Lib.hid hv
 have HQ := Lib.hid (show inB (m : Int) 1 ((p.parts[k].body.length : Int) - 1) = true from inB_true (by omega) (by omega))
 clear g1 g2 h hv
 go_enter Tryz.func16, Tryz.ntmps16
 go_wp2_with fail
 refine (begun_y (HH.out.below bel) HV.out hk).mono ?_
 rintro e w1 ⟨A1r, c1r, g, c2r, dd, B, rfl, r1, hd1, hG1, hB1, b1⟩
 have X1 : BoxW w1 (w.heap.size + 1) (.slice none 0 0) (.slice none 0 0) := BoxW.to ⟨⟨by go_simp, by go_simp⟩, by go_simp, by go_simp⟩ b1
 have X0 : Box2 w1 w.heap.size (.slice A1 p.arrays.length c1) (.slice A2 p.parts.length c2) := Box2.to ⟨by go_simp, by go_simp⟩ b1
 have S1 : Below w.heap.size w w1 := bel
 have HD := Lib.hid (And.intro hd1 hB1)
 have R1 := Lib.hid r1
 have RP1 := Lib.hid (HH.out.below S1)
 clear b1 hB1 hd1 r1
 have lt1 := lt_of_cell X1.1.1
 obtain ⟨es, cb, q1, q2, q3, q4, q5⟩ := hG1
 obtain ⟨e0, e1, e2, l0, l1, l2, rfl, rfl, he0, he1, r0, ⟨A1p, c1p, A2p, c2p, rfl, rp, hro⟩, r2⟩ := q2.at_ PrtO.ek hk
 have hsm := (pgm_sm HV.out).2.2.2 _ (List.getElem_mem hk)
 have hnn : p.parts[k].body.length ≤ 1000000 := hsm.2.2.1
 have hpl : p.parts.length ≤ 1000000 := (pgm_sm HV.out).2.2.1
 have hnl : p.parts[k].nest.length ≤ 1000000 := hsm.1
 have HSM := Lib.hid hsm
 clear hsm
 obtain ⟨A1s, c1s, A2s, c2s, f1, f2, ef, rfl, gN, gB⟩ := Rep.prt_iff.1 rp
 simp only [List.cons.injEq, Value.slice.injEq, true_and, and_true] at ef
 obtain ⟨⟨rfl, rfl⟩, rfl, rfl⟩ := ef
 obtain ⟨bb, ob, _, _, rfl, _, _, _, _, _⟩ := gB.sls_at Stm.d_size (k := 0) (by omega)
 have hgl := gB.sls_len
 have hg2 : p.parts[k].body.length ≤ c2p := hgl.2.1
 have hg3 : c2p ≤ 9223372036854775807 := hgl.2.2
 have kc0 : w1.cell? ⟨g, k * 2, none⟩ = some (.slice A1p p.parts[k].nest.length c1p) := by
  have := q1.cells (g := g) rfl (k * 2) (.slice A1p p.parts[k].nest.length c1p) (by rw [List.append_assoc, List.getElem?_append_right (by omega), he0, Nat.sub_self]; rfl)
  rwa [add_none, Nat.zero_add] at this
 have kc1 : w1.cell? ⟨g, k * 2 + 1, none⟩ = some (.slice (some ⟨bb, ob, none⟩) p.parts[k].body.length c2p) := by
  have := q1.cells (g := g) rfl (k * 2 + 1) (.slice (some ⟨bb, ob, none⟩) p.parts[k].body.length c2p) (by rw [List.append_assoc, List.getElem?_append_right (by omega), he0, Nat.add_sub_cancel_left]; rfl)
  rwa [add_none, Nat.zero_add] at this
 have ltg := lt_of_cell kc0
 have hg4 : g ∉ l0 ++ (f1 ++ f2) ++ l2 := q5 g rfl
 have HBg : B ≤ g ∧ g < w1.heap.size := own_lt' q1 rfl
 have HC := Lib.hid (And.intro q1 (And.intro q4 hg4))
 have RQ := Lib.hid (And.intro (EReps.reps (f := Prt.d) PrtO.rep _ r0) (EReps.reps (f := Prt.d) PrtO.rep _ r2))
 have GN := Lib.hid gN
 have GB := Lib.hid gB
 have HX1 := Lib.hid X1
 have HX0 := Lib.hid X0
 have HK := Lib.hid (And.intro kc0 kc1)
 have HLN := Lib.hid ((progOk_all HV.out).2.2)
 clear q1 q2 q3 q4 q5 rp hro r0 r2 gN gB X1 X0 hgl hg4
 go_wp2_with fail
 refine (within_c _ _ _ _).mono ?_
 rintro e w3 ⟨rfl, rfl⟩
 rw [HQ.out]
 obtain ⟨y0, y1⟩ := HX0.out.to (show Below w1.heap.size w1 _ from bel)
 have lta := lt_of_cell y0
 go_wp2_with fail
 refine (trace_y (HH.out.below bel) HV.out).mono ?_
 rintro e w4 ⟨gt, rfl, trc, hgt, b4⟩
 have XO4 := Lib.hid ((BoxW.new w1 (.slice A1r p.arrays.length c1r) (.slice (some ⟨g, 0, none⟩) p.parts.length c2r) 30).to b4)
 have T4 := Lib.hid (show Below w1.heap.size w1 w4 from below_tr (below_al (Below.refl _ _) _) b4)
 have hgt4 : w1.heap.size < gt := by simp at hgt; omega
 have HTR := Lib.hid trc
 clear y0 y1 lta b4 trc kc0 kc1 hgt
 go_wp2_with fail
 refine (deps_c HTR.out HV.out).mono ?_
 rintro e w5 ⟨A5, c5, bs5, rfl, r5, -, -, b5⟩
 have XO5 := Lib.hid (XO4.out.to b5)
 have T5 := Lib.hid (below_tr T4.out b5)
 obtain ⟨t1, t2, A3, t4, t5, u1, u2, c3, u4, u5, _, bs3, _, _, ⟨_, _, x2, _, _⟩, _, rI, _, _⟩ := HTR.out.below b5
 have L5 := Lib.hid rI
 have HXT := Lib.hid x2
 have ltt := lt_of_cell x2
 obtain ⟨ds, hds⟩ : ∃ ds, ds = depsF (usesF p) := ⟨_, rfl⟩
 rw [← hds] at r5 ⊢
 have HM := Lib.hid (show ∀ d ∈ ds, DpOk (usesF p) d from fun d hd => depsF_mem d (by rw [← hds]; exact hd))
 have HBD := Lib.hid (show badF p (k : Int) (m : Int) = (ds.drop 0).any (hitD p (k : Int) (m : Int)) by rw [badF, hds]; rfl)
 have D5 := Lib.hid r5
 obtain ⟨-, h51, h52⟩ := r5.sls_len
 have hdn : ds.length ≤ 9223372036854775807 := Nat.le_trans h51 h52
 clear h51 h52 b5 r5 hds rI
 go_wp2
 go_loopw [47] (fun i wr => ∃ j : Nat, j ≤ ds.length ∧ i = .int .i64 j ∧ badF p (k : Int) (m : Int) = (ds.drop j).any (hitD p (k : Int) (m : Int)) ∧ Below w5.heap.size w5 wr) (fun i _ => ds.length - (intOf i).toNat)
 case atStart => exact ⟨0, Nat.zero_le _, rfl, HBD.out, Below.refl _ _⟩
 case round =>
  obtain ⟨j, hj, rfl, hbd, hb⟩ := hrel
  have HBJ := Lib.hid hbd
  clear hbd
  by_cases hlt : j < ds.length
  case neg =>
   have hbad : badF p (k : Int) (m : Int) = false := by rw [HBJ.out, show j = ds.length by omega, any_end]
   have HBAD := Lib.hid hbad
   have T6 := Lib.hid (below_tr T5.out hb)
   have XO6 := Lib.hid (XO5.out.to hb)
   have k0 := cell_toC HK.out.1 T6.out
   have k1 := cell_toC HK.out.2 T6.out
   have ltk := lt_of_cell k0
   have hcm : ¬ c2p = m := by omega
   have hmc : m ≤ c2p := by omega
   have hmn1 : m ≤ p.parts[k].body.length := by omega
   obtain ⟨bq, rq, hbq⟩ := (GB.out.below T6.out).sls_drop Stm.d_size (k := m) hmn
   have HN := Lib.hid (GN.out.below T6.out)
   have HB := Lib.hid (And.intro rq hbq)
   have HLQ := Lib.hid (Rep.lt _ rq)
   clear hb hbad rq hbq
   go_upto_region 12 with (fail)
   go_cut [17] (fun u17 wc => ∃ (q : Nat) (An : Option Addr) (cn : Nat) (Ac : Option Addr) (cc : Nat) (bsn bsc : List Nat), u17 = .pointer (some ⟨q, 0, none⟩) ∧ Row wc q 54 [.slice An p.parts[k].nest.length cn, .slice Ac (p.parts[k].body.length - m) cc] ∧ Rep wc (sls Lp.d p.parts[k].nest) [.slice An p.parts[k].nest.length cn] bsn ∧ Rep wc (sls Stm.d (p.parts[k].body.drop m)) [.slice Ac (p.parts[k].body.length - m) cc] bsc ∧ (∀ y ∈ bsn, wr.heap.size ≤ y) ∧ (∀ y ∈ bsc, y ∈ f2 ∨ wr.heap.size ≤ y) ∧ wr.heap.size ≤ q ∧ Below wr.heap.size wr wc)
   case first =>
    refine wp_region_noPanic ?_
    refine wp_regionT (S := fun w' => w'.cell? ⟨g, k * 2, none⟩ = some (.slice A1p p.parts[k].nest.length c1p) ∧ w'.cell? ⟨g, k * 2 + 1, none⟩ = some (.slice (some ⟨bb, ob, none⟩) p.parts[k].body.length c2p)) 14 (by kernel_rfl) (⟨by go_simp, by go_simp⟩) (fun hHeld => ?_)
    refine goU 0 (fun _ => hHeld) ?_
    refine goU 1 (fun _ => hHeld) ?_
    refine goU 2 (fun _ => hHeld) ?_
    refine goT 3 hHeld ?_
    refine goU 5 (fun _ => hHeld) ?_
    refine goU 6 (fun _ => hHeld) ?_
    refine goU 7 (fun _ => hHeld) ?_
    refine goT 8 hHeld ?_
    refine goU 9 (fun _ => hHeld) ?_
    refine goU 10 (fun _ => hHeld) ?_
    refine readyT (rs := [4, 13]) (by kernel_rfl) (by simp) (all2 ?_ ?_)
    ·refine opT (i := 4) rfl (wanted_none rfl) (fun K hK => ?_)
     go_simp
     (refine (ownNest_c (HN.out.below bel) hnl HSM.out.2.1).mono ?_; rintro e v4 ⟨An, nn, cn, bsn, rfl, rn, -, hbn, b4⟩; obtain ⟨hnn4, -, -⟩ := rn.sls_len; subst hnn4; have BW4 : Below wr.heap.size wr v4 := bel; (try have row4 := row13.to b4); (try simp at hbn); have ln4 := Rep.lt _ rn; have z4 := b4.size; (try simp at z4))
     go_wp2_with fail
     refine hK.out _ _ (⟨cell_toC hHeld.1 b4, cell_toC hHeld.2 b4⟩) (fun hHeld => ?_)
     clear hK K
     try simp only [Act.put, aq0, aq1, aq2]
     refine readyT (rs := [11, 13]) (by kernel_rfl) (by simp) (all2 ?_ ?_)
     ·refine opT (i := 11) rfl (wanted_none rfl) (fun K hK => ?_)
      go_simp
      (refine (CloneT_c (HB.out.1.below bel) (by omega)).mono ?_; rintro e v11 ⟨Ac, cc, bsc, rfl, rc, hbc, b11⟩; have BW11 : Below wr.heap.size wr v11 := bel; (first | have row11 := row4.to b11 | have row11 := row13.to b11 | skip); have lc11 := Rep.lt _ rc; have z11 := b11.size; (first | have rn11 := rn.below b11 | have rn11 := (rn.below b13).below b11))
      go_wp2_with fail
      refine hK.out _ _ (⟨cell_toC hHeld.1 b11, cell_toC hHeld.2 b11⟩) (fun hHeld => ?_)
      clear hK K
      try simp only [Act.put, aq0, aq1, aq2]
      refine goU 12 (fun _ => hHeld) ?_
      refine readyT (rs := [13]) (by kernel_rfl) (by simp) (all1 ?_)
      refine opT (i := 13) rfl (wanted_none rfl) (fun K hK => ?_)
      (refine wp_alloc1 54 (cells := [.slice none 0 0, .slice none 0 0]) (by unfold Oper.wp; go_simp) ?_; intro v13 q row13 b13 hq13 hl13; (try simp at hq13); have BW13 : Below wr.heap.size wr v13 := bel; have z13 := b13.size; (try simp at z13))
      refine hK.out _ _ (⟨cell_toC hHeld.1 b13, cell_toC hHeld.2 b13⟩) (fun hHeld => ?_)
      clear hK K
      try simp only [Act.put, aq0, aq1, aq2]
      refine readyT (rs := [14]) (by kernel_rfl) (by simp) (all1 ?_)
      refine opTT (i := 14) rfl (wanted_none rfl) (by kernel_rfl) (fun K hK => ?_)
      ((first | refine wp_store_row 54 (.tmp 17) (.tmp 103) rfl (vs := [.slice An p.parts[k].nest.length cn, .slice Ac (p.parts[k].body.length - m) cc]) rfl rfl row11 rfl Tryz.sizePart rfl ?_ | refine wp_store_row 54 (.tmp 17) (.tmp 103) rfl (vs := [.slice An p.parts[k].nest.length cn, .slice Ac (p.parts[k].body.length - m) cc]) rfl rfl row13 rfl Tryz.sizePart rfl ?_); intro v14 row14 t14; (first | (have RN := Rep.below rn11 b13; have RC := Rep.below rc b13; have BW14 := BW13; skip) | (have RN := rn11; have RC := rc; have BW14 := BW11; skip)); (try rw [List.length_drop] at RC); have HQN : ∀ y ∈ bsn, y ≠ q := (fun y hy => by (have h1 := hbn y hy; have h2 := ln4 y hy; omega)); have HQN2 : ∀ y ∈ bsn, wr.heap.size ≤ y := (fun y hy => by (have h1 := hbn y hy; omega)); have HQC : ∀ y ∈ bsc, y ≠ q := fun y hy => (hbc y hy).elim (fun h => by (have h1 := lc11 y hy; have h2 := HLQ.out y h; omega)) (fun h => by (have h1 := lc11 y hy; omega)); have HQC2 : ∀ y ∈ bsc, y ∈ f2 ∨ wr.heap.size ≤ y := fun y hy => (hbc y hy).elim (fun h => .inl (HB.out.2 y h)) (fun h => .inr (by omega)); have HBW := BW14.trans (t14.below BW14.size (by simp; omega)); have hqr : wr.heap.size ≤ q := (by omega); have HF := Lib.hid (And.intro row14 (And.intro (Rep.keep _ RN (t14.keeps fun y hy => ⟨Rep.lt _ RN y hy, by simpa using HQN y hy⟩)) (And.intro (Rep.keep _ RC (t14.keeps fun y hy => ⟨Rep.lt _ RC y hy, by simpa using HQC y hy⟩)) (And.intro HQN2 (And.intro HQC2 (And.intro hqr HBW)))))); clear HQN HQN2 HQC HQC2 RN RC t14 row14)
      refine hK.out _ _ ?_
      clear hK K
      try simp only [Act.put, aq0, aq1, aq2]
      refine wpAnyT_done (by kernel_rfl) ?_ _
      refine NoPanic.normal ?_
      (go_wp2; go_meet; (case rel => exact ⟨q, An, cn, Ac, cc, bsn, bsc, rfl, HF.out⟩))
     ·refine opT (i := 13) rfl (wanted_none rfl) (fun K hK => ?_)
      (refine wp_alloc1 54 (cells := [.slice none 0 0, .slice none 0 0]) (by unfold Oper.wp; go_simp) ?_; intro v13 q row13 b13 hq13 hl13; (try simp at hq13); have BW13 : Below wr.heap.size wr v13 := bel; have z13 := b13.size; (try simp at z13))
      refine hK.out _ _ (⟨cell_toC hHeld.1 b13, cell_toC hHeld.2 b13⟩) (fun hHeld => ?_)
      clear hK K
      try simp only [Act.put, aq0, aq1, aq2]
      refine readyT (rs := [11]) (by kernel_rfl) (by simp) (all1 ?_)
      refine opT (i := 11) rfl (wanted_none rfl) (fun K hK => ?_)
      go_simp
      (refine (CloneT_c (HB.out.1.below bel) (by omega)).mono ?_; rintro e v11 ⟨Ac, cc, bsc, rfl, rc, hbc, b11⟩; have BW11 : Below wr.heap.size wr v11 := bel; (first | have row11 := row4.to b11 | have row11 := row13.to b11 | skip); have lc11 := Rep.lt _ rc; have z11 := b11.size; (first | have rn11 := rn.below b11 | have rn11 := (rn.below b13).below b11))
      go_wp2_with fail
      refine hK.out _ _ (⟨cell_toC hHeld.1 b11, cell_toC hHeld.2 b11⟩) (fun hHeld => ?_)
      clear hK K
      try simp only [Act.put, aq0, aq1, aq2]
      refine goU 12 (fun _ => hHeld) ?_
      refine readyT (rs := [14]) (by kernel_rfl) (by simp) (all1 ?_)
      refine opTT (i := 14) rfl (wanted_none rfl) (by kernel_rfl) (fun K hK => ?_)
      ((first | refine wp_store_row 54 (.tmp 17) (.tmp 103) rfl (vs := [.slice An p.parts[k].nest.length cn, .slice Ac (p.parts[k].body.length - m) cc]) rfl rfl row11 rfl Tryz.sizePart rfl ?_ | refine wp_store_row 54 (.tmp 17) (.tmp 103) rfl (vs := [.slice An p.parts[k].nest.length cn, .slice Ac (p.parts[k].body.length - m) cc]) rfl rfl row13 rfl Tryz.sizePart rfl ?_); intro v14 row14 t14; (first | (have RN := Rep.below rn11 b13; have RC := Rep.below rc b13; have BW14 := BW13; skip) | (have RN := rn11; have RC := rc; have BW14 := BW11; skip)); (try rw [List.length_drop] at RC); have HQN : ∀ y ∈ bsn, y ≠ q := (fun y hy => by (have h1 := hbn y hy; have h2 := ln4 y hy; omega)); have HQN2 : ∀ y ∈ bsn, wr.heap.size ≤ y := (fun y hy => by (have h1 := hbn y hy; omega)); have HQC : ∀ y ∈ bsc, y ≠ q := fun y hy => (hbc y hy).elim (fun h => by (have h1 := lc11 y hy; have h2 := HLQ.out y h; omega)) (fun h => by (have h1 := lc11 y hy; omega)); have HQC2 : ∀ y ∈ bsc, y ∈ f2 ∨ wr.heap.size ≤ y := fun y hy => (hbc y hy).elim (fun h => .inl (HB.out.2 y h)) (fun h => .inr (by omega)); have HBW := BW14.trans (t14.below BW14.size (by simp; omega)); have hqr : wr.heap.size ≤ q := (by omega); have HF := Lib.hid (And.intro row14 (And.intro (Rep.keep _ RN (t14.keeps fun y hy => ⟨Rep.lt _ RN y hy, by simpa using HQN y hy⟩)) (And.intro (Rep.keep _ RC (t14.keeps fun y hy => ⟨Rep.lt _ RC y hy, by simpa using HQC y hy⟩)) (And.intro HQN2 (And.intro HQC2 (And.intro hqr HBW)))))); clear HQN HQN2 HQC HQC2 RN RC t14 row14)
      refine hK.out _ _ ?_
      clear hK K
      try simp only [Act.put, aq0, aq1, aq2]
      refine wpAnyT_done (by kernel_rfl) ?_ _
      refine NoPanic.normal ?_
      (go_wp2; go_meet; (case rel => exact ⟨q, An, cn, Ac, cc, bsn, bsc, rfl, HF.out⟩))
    ·refine opT (i := 13) rfl (wanted_none rfl) (fun K hK => ?_)
     (refine wp_alloc1 54 (cells := [.slice none 0 0, .slice none 0 0]) (by unfold Oper.wp; go_simp) ?_; intro v13 q row13 b13 hq13 hl13; (try simp at hq13); have BW13 : Below wr.heap.size wr v13 := bel; have z13 := b13.size; (try simp at z13))
     refine hK.out _ _ (⟨cell_toC hHeld.1 b13, cell_toC hHeld.2 b13⟩) (fun hHeld => ?_)
     clear hK K
     try simp only [Act.put, aq0, aq1, aq2]
     refine readyT (rs := [4]) (by kernel_rfl) (by simp) (all1 ?_)
     refine opT (i := 4) rfl (wanted_none rfl) (fun K hK => ?_)
     go_simp
     (refine (ownNest_c (HN.out.below bel) hnl HSM.out.2.1).mono ?_; rintro e v4 ⟨An, nn, cn, bsn, rfl, rn, -, hbn, b4⟩; obtain ⟨hnn4, -, -⟩ := rn.sls_len; subst hnn4; have BW4 : Below wr.heap.size wr v4 := bel; (try have row4 := row13.to b4); (try simp at hbn); have ln4 := Rep.lt _ rn; have z4 := b4.size; (try simp at z4))
     go_wp2_with fail
     refine hK.out _ _ (⟨cell_toC hHeld.1 b4, cell_toC hHeld.2 b4⟩) (fun hHeld => ?_)
     clear hK K
     try simp only [Act.put, aq0, aq1, aq2]
     refine readyT (rs := [11]) (by kernel_rfl) (by simp) (all1 ?_)
     refine opT (i := 11) rfl (wanted_none rfl) (fun K hK => ?_)
     go_simp
     (refine (CloneT_c (HB.out.1.below bel) (by omega)).mono ?_; rintro e v11 ⟨Ac, cc, bsc, rfl, rc, hbc, b11⟩; have BW11 : Below wr.heap.size wr v11 := bel; (first | have row11 := row4.to b11 | have row11 := row13.to b11 | skip); have lc11 := Rep.lt _ rc; have z11 := b11.size; (first | have rn11 := rn.below b11 | have rn11 := (rn.below b13).below b11))
     go_wp2_with fail
     refine hK.out _ _ (⟨cell_toC hHeld.1 b11, cell_toC hHeld.2 b11⟩) (fun hHeld => ?_)
     clear hK K
     try simp only [Act.put, aq0, aq1, aq2]
     refine goU 12 (fun _ => hHeld) ?_
     refine readyT (rs := [14]) (by kernel_rfl) (by simp) (all1 ?_)
     refine opTT (i := 14) rfl (wanted_none rfl) (by kernel_rfl) (fun K hK => ?_)
     ((first | refine wp_store_row 54 (.tmp 17) (.tmp 103) rfl (vs := [.slice An p.parts[k].nest.length cn, .slice Ac (p.parts[k].body.length - m) cc]) rfl rfl row11 rfl Tryz.sizePart rfl ?_ | refine wp_store_row 54 (.tmp 17) (.tmp 103) rfl (vs := [.slice An p.parts[k].nest.length cn, .slice Ac (p.parts[k].body.length - m) cc]) rfl rfl row13 rfl Tryz.sizePart rfl ?_); intro v14 row14 t14; (first | (have RN := Rep.below rn11 b13; have RC := Rep.below rc b13; have BW14 := BW13; skip) | (have RN := rn11; have RC := rc; have BW14 := BW11; skip)); (try rw [List.length_drop] at RC); have HQN : ∀ y ∈ bsn, y ≠ q := (fun y hy => by (have h1 := hbn y hy; have h2 := ln4 y hy; omega)); have HQN2 : ∀ y ∈ bsn, wr.heap.size ≤ y := (fun y hy => by (have h1 := hbn y hy; omega)); have HQC : ∀ y ∈ bsc, y ≠ q := fun y hy => (hbc y hy).elim (fun h => by (have h1 := lc11 y hy; have h2 := HLQ.out y h; omega)) (fun h => by (have h1 := lc11 y hy; omega)); have HQC2 : ∀ y ∈ bsc, y ∈ f2 ∨ wr.heap.size ≤ y := fun y hy => (hbc y hy).elim (fun h => .inl (HB.out.2 y h)) (fun h => .inr (by omega)); have HBW := BW14.trans (t14.below BW14.size (by simp; omega)); have hqr : wr.heap.size ≤ q := (by omega); have HF := Lib.hid (And.intro row14 (And.intro (Rep.keep _ RN (t14.keeps fun y hy => ⟨Rep.lt _ RN y hy, by simpa using HQN y hy⟩)) (And.intro (Rep.keep _ RC (t14.keeps fun y hy => ⟨Rep.lt _ RC y hy, by simpa using HQC y hy⟩)) (And.intro HQN2 (And.intro HQC2 (And.intro hqr HBW)))))); clear HQN HQN2 HQC HQC2 RN RC t14 row14)
     refine hK.out _ _ ?_
     clear hK K
     try simp only [Act.put, aq0, aq1, aq2]
     refine wpAnyT_done (by kernel_rfl) ?_ _
     refine NoPanic.normal ?_
     (go_wp2; go_meet; (case rel => exact ⟨q, An, cn, Ac, cc, bsn, bsc, rfl, HF.out⟩))
   case rest =>
    obtain ⟨q, An, cn, Ac, cc, bsn, bsc, rfl, rowq, rn, rc, hbn, hbc, hq, bw⟩ := hcut
    have T7 := Lib.hid (below_tr T6.out bw)
    have k1v := cell_toC HK.out.2 T7.out
    have ltv := lt_of_cell k1v
    have kfz := (T7.out.frozen (p := ⟨g, k * 2 + 1, none⟩) HBg.2).trans (own_frz HC.out.1 (k * 2 + 1))
    have HXO := Lib.hid (XO6.out.to bw)
    have HX7 := Lib.hid (HX1.out.to T7.out)
    have S7 := Lib.hid (below_tr S1 T7.out)
    have a0 := rowq.cell 0
    have a1 := rowq.cell 1
    have lq := rowq.lt
    simp only [List.getElem?_cons_zero, List.getElem?_cons_succ] at a0 a1
    have hgq : g ≠ q := by have := T6.out.size; omega
    have hgq2 : q ≠ g := hgq.symm
    have hwq : w1.heap.size ≠ g := by omega
    obtain ⟨⟨m1, m2⟩, m3, m4⟩ := HXO.out
    have ltO := lt_of_cell m1
    have hk6 : (k : Int) ≤ 1000000 := by omega
    have hk7 : (0 : Int) ≤ (k : Int) := by omega
    have HRN := Lib.hid (And.intro rn hbn)
    have HRC := Lib.hid (And.intro rc hbc)
    have BW := Lib.hid bw
    clear rowq rn rc hbn hbc bw k0 k1 ltk
    go_wp2_with fail
    obtain ⟨W6, hW6⟩ : ∃ W6, W6 = wc.setCell ⟨g, k * 2 + 1, none⟩ (.slice (some ⟨bb, ob, none⟩) m c2p) := ⟨_, rfl⟩
    rw [← hW6]
    have hz6 : W6.heap.size = wc.heap.size := by rw [hW6]; simp [World.setCell]
    have HW6 := Lib.hid hW6; clear hW6
    have hz7 := T7.out.size
    have hz8 := T6.out.size
    have hz9 := lt_of_cell XO6.out.1.1
    refine (InsertP_k (B := B) (k := k) (t := 54) (es := e0 ++ [.slice A1p p.parts[k].nest.length c1p, .slice (some ⟨bb, ob, none⟩) m c2p] ++ e2) (ns := [.slice An p.parts[k].nest.length cn, .slice Ac (p.parts[k].body.length - m) cc]) ?hown hk hpl ?hrow rfl ?hne ?h1 ?h1n ?hB).mono ?_
    case hown =>
     refine own_kept1 (w := W6) ?_ fun g' hg' => ?_
     ·rw [HW6.out]
      exact own_mid (own_kept HC.out.1 T7.out.size (fun y _ hl => T7.out.block y hl)) he0 hk
     ·obtain rfl : g = g' := by simpa [Value.ownBlock] using hg'
      exact Below.heap_alloc _ _ _ (by omega)
    case hrow =>
     have h := Row.new W6 [.slice An p.parts[k].nest.length cn, .slice Ac (p.parts[k].body.length - m) cc] 54
     rw [hz6] at h
     exact h
    case hne =>
     intro e
     have : g = wc.heap.size := by simpa [Value.ownBlock] using e
     omega
    case h1 =>
     intro u hu
     simp only [List.mem_append] at hu
     rcases hu with (hu | hu) | hu
     ·exact Reps.one _ RQ.out.1 u hu
     ·simp only [List.mem_cons, List.not_mem_nil, or_false] at hu
      rcases hu with rfl | rfl <;> rfl
     ·exact Reps.one _ RQ.out.2 u hu
    case h1n =>
     intro u hu
     simp only [List.mem_cons, List.not_mem_nil, or_false] at hu
     rcases hu with rfl | rfl <;> rfl
    case hB => simp; omega
    rintro e w8 ⟨v', rfl, hown8, hgrew8⟩
    have e5 : (e0 ++ [Value.slice A1p p.parts[k].nest.length c1p, Value.slice (some ⟨bb, ob, none⟩) m c2p]).length = (k + 1) * 2 := by rw [List.length_append, he0]; simp; omega
    have hown9 : w8.ownsRow B 54 2 v' (p.parts.length + 1) (e0 ++ [.slice A1p p.parts[k].nest.length c1p, .slice (some ⟨bb, ob, none⟩) m c2p] ++ [.slice An p.parts[k].nest.length cn, .slice Ac (p.parts[k].body.length - m) cc] ++ e2) := by
     rw [← e5, List.take_left, List.drop_left] at hown8
     exact hown8
    have hg8 : Touch [g] (W6.alloc (.cells #[.slice An p.parts[k].nest.length cn, .slice Ac (p.parts[k].body.length - m) cc] 54)) w8 := hgrew8.touch.mono (fun y hy => by
     have := mem_ownL.1 hy
     have : g = y := by simpa [Value.ownBlock] using this
     simp [this])
    have hv9 : ∀ y, v'.ownBlock = some y → y ≠ w1.heap.size := fun y hy => by
     rcases hgrew8.own y hy with h | h
     ·have : g = y := by simpa [Value.ownBlock] using h
      omega
     ·simp at h; omega
    have t8 : Touch [g] wc w8 := by
     have t6 : Touch [g] wc W6 := by rw [HW6.out]; exact (Touch.refl _ _).setCell (by simp) _
     exact (t6.trans (Touch.of_below (below_al (Below.refl _ _) _))).trans hg8
    have t18 : Touch [g] w1 w8 := (Touch.of_below T7.out).trans t8
    have hng := HC.out.2.2
    simp only [List.mem_append, not_or] at hng
    obtain ⟨⟨hng0, hng1, hng2⟩, hng3⟩ := hng
    obtain ⟨bt, rt, hbt⟩ := GB.out.sls_take (k := m) hmn1
    have lf1 := Rep.lt _ GN.out
    have lf2 := Rep.lt _ GB.out
    have ll0 := Reps.lt _ RQ.out.1
    have ll2 := Reps.lt _ RQ.out.2
    have q0 := Reps.keep _ RQ.out.1 (t18.keeps fun y hy => ⟨ll0 y hy, fun hm => hng0 (by rw [List.mem_singleton] at hm; rwa [← hm])⟩)
    have q2 := Reps.keep _ RQ.out.2 (t18.keeps fun y hy => ⟨ll2 y hy, fun hm => hng3 (by rw [List.mem_singleton] at hm; rwa [← hm])⟩)
    have q1 : Rep w8 (⟨p.parts[k].nest, p.parts[k].body.take m⟩ : Prt).d [.slice A1p p.parts[k].nest.length c1p, .slice (some ⟨bb, ob, none⟩) m c2p] (f1 ++ bt) := Rep.prt_iff.2 ⟨A1p, c1p, some ⟨bb, ob, none⟩, c2p, f1, bt, by rw [List.length_take, Nat.min_eq_left hmn1], rfl, Rep.keep _ GN.out (t18.keeps fun y hy => ⟨lf1 y hy, fun hm => hng1 (by rw [List.mem_singleton] at hm; rwa [← hm])⟩), by rw [List.length_take, Nat.min_eq_left hmn1]; exact Rep.keep _ rt (t18.keeps fun y hy => ⟨lf2 y (hbt y hy), fun hm => hng2 (by rw [List.mem_singleton] at hm; rw [← hm]; exact hbt y hy)⟩)⟩
    have q4 : Rep w8 (⟨p.parts[k].nest, p.parts[k].body.drop m⟩ : Prt).d [.slice An p.parts[k].nest.length cn, .slice Ac (p.parts[k].body.length - m) cc] (bsn ++ bsc) := Rep.prt_iff.2 ⟨An, cn, Ac, cc, bsn, bsc, by rw [List.length_drop], rfl, Rep.keep _ HRN.out.1 (t8.keeps fun y hy => ⟨Rep.lt _ HRN.out.1 y hy, fun hm => by have h1 := HRN.out.2 y hy; rw [List.mem_singleton] at hm; omega⟩), by rw [List.length_drop]; exact Rep.keep _ HRC.out.1 (t8.keeps fun y hy => ⟨Rep.lt _ HRC.out.1 y hy, fun hm => by rw [List.mem_singleton] at hm; exact (HRC.out.2 y hy).elim (fun h => hng2 (by rwa [← hm])) (fun h => by omega)⟩)⟩
    have hin : ∀ y ∈ l0 ++ ((f1 ++ bt) ++ ((bsn ++ bsc) ++ l2)), y ≠ w1.heap.size := fun y hy => by
     simp only [List.mem_append] at hy
     rcases hy with hy | (hy | hy) | (hy | hy) | hy
     ·have := ll0 y hy; omega
     ·have := lf1 y hy; omega
     ·have := lf2 y (hbt y hy); omega
     ·have := HRN.out.2 y hy; omega
     ·exact (HRC.out.2 y hy).elim (fun h => by have := lf2 y h; omega) (fun h => by omega)
     ·have := ll2 y hy; omega
    obtain ⟨A8, c8, bs9, rfl, r8, hne9⟩ := ins_fin (xs := p.parts.take k) (zs := p.parts.drop (k + 1)) q0 q1 q2 q4 hin hown9 (by rw [List.length_take, List.length_drop]; omega) hv9
    have hgB := HD.out.2
    simp at hgB
    have hzw := S1.size
    have S8 : Below w.heap.size w w8 := S7.out.trans (t8.below (by omega) (fun y hy => by rw [List.mem_singleton] at hy; omega))
    have XO8 : BoxW w8 w1.heap.size (.slice A1r p.arrays.length c1r) (.slice (some ⟨g, 0, none⟩) p.parts.length c2r) := t8.boxW HXO.out (by simp; omega)
    have XR8 : BoxW w8 (w.heap.size + 1) (.slice none 0 0) (.slice none 0 0) := t8.boxW HX7.out (by simp; omega)
    have RA8 : Rep w8 (sls Ar.d p.arrays) [.slice A1r p.arrays.length c1r] dd := Rep.keep _ R1.out (t18.keeps fun y hy => ⟨Rep.lt _ R1.out y hy, fun hm => by have := (HD.out.1 y hy).2; rw [List.mem_singleton] at hm; omega⟩)
    have HR8 := Lib.hid (And.intro r8 (And.intro hne9 (And.intro RA8 (fun hm => by have := Rep.lt _ R1.out _ hm; omega : w1.heap.size ∉ dd))))
    have HXR := Lib.hid XR8
    have HS8 := Lib.hid S8
    obtain ⟨⟨m1, m2⟩, m3, m4⟩ := XO8
    have ltO8 := lt_of_cell m1
    clear r8 hne9 RA8 XR8 hown8 hgrew8 hown9 hg8 hv9 t8 t18 hin q0 q1 q2 q4 e5 rt hbt lf1 lf2 ll0 ll2 hng0 hng1 hng2 hng3
    go_wp2_with fail
    have eq : distQ p k m = ⟨p.arrays, p.parts.take k ++ ⟨p.parts[k].nest, p.parts[k].body.take m⟩ :: ⟨p.parts[k].nest, p.parts[k].body.drop m⟩ :: p.parts.drop (k + 1)⟩ := by
     unfold distQ withQ
     rw [prtF_eq hk]
     simp
    have RQ9 : Rep (w8.setCell ⟨w1.heap.size, 1, none⟩ (.slice A8 (p.parts.length + 1) c8)) (distQ p k m).d [.slice A1r p.arrays.length c1r, .slice A8 (p.parts.length + 1) c8] (dd ++ bs9) := by
     rw [eq]
     exact Rep.pgm_of (Rep.keep _ HR8.out.2.2.1 ((Keeps.refl _ _).setCell HR8.out.2.2.2 _)) (Rep.keep _ HR8.out.1 ((Keeps.refl _ _).setCell (fun hm => HR8.out.2.1 _ hm rfl) _))
    refine (finished_c RQ9).mono ?_
    rintro e w10 ⟨A1f, c1f, A2f, c2f, bsf, rfl, rf, ndf, hbf, b10⟩
    have hz10 := HS8.out.size
    have XR9 : BoxW (w8.setCell ⟨w1.heap.size, 1, none⟩ (.slice A8 (p.parts.length + 1) c8)) (w.heap.size + 1) (.slice none 0 0) (.slice none 0 0) := ⟨Box2.set HXR.out.1 (by simp; omega) _, by rw [World.frozen?_setCell]; exact HXR.out.2.1, by rw [World.frozen?_setCell]; exact HXR.out.2.2⟩
    obtain ⟨⟨r1, r2⟩, r3, r4⟩ := XR9.to b10
    have S10 : Below w.heap.size w w10 := (HS8.out.setCell (by simp; omega) _).trans (b10.mono (by simp [World.setCell]; omega))
    have HF9 := Lib.hid (And.intro rf (And.intro ndf hbf))
    have ltR := lt_of_cell r1
    obtain ⟨Q, hQ⟩ : ∃ Q, Q = finF (distQ p k m) := ⟨_, rfl⟩
    rw [← hQ] at HF9 ⊢
    have HQ9 := Lib.hid hQ
    have HS10 := Lib.hid S10
    clear rf ndf hbf b10 XR9 RQ9 eq m1 m2 m3 m4 hQ S10
    go_wp2
    have hnb : w.heap.size + 1 ∉ bsf := fun hm => by have := HF9.out.2.2 _ hm; simp [World.setCell] at this; omega
    exact bodyPost_ret (v := .tuple #[.agg #[.slice A1f Q.1.arrays.length c1f, .slice A2f Q.1.parts.length c2f], .bool Q.2]) (by simp [results, Tryz.results16, go_sem, r1, r2, ltR]) rfl (by rw [dist_y HDB.out HBAD.out, ← HQ9.out]; exact ⟨_, _, _, _, bsf, rfl, Rep.keep _ HF9.out.1 (((Keeps.refl _ _).setCell hnb _).setCell hnb _), HF9.out.2.1, fun y hy => by have := HF9.out.2.2 y hy; simp [World.setCell] at this; omega, (HS10.out.setCell (by simp) _).setCell (by simp) _⟩)
  have dp := HM.out ds[j] (List.getElem_mem hlt)
  obtain ⟨a, hfa⟩ := Int.eq_ofNat_of_zero_le dp.f0
  obtain ⟨b, htb⟩ := Int.eq_ofNat_of_zero_le (show 0 ≤ ds[j].to_ by have := dp.ft; have := dp.f0; omega)
  have ul : (usesF p).length = (instsF p).length := usesF_len p
  have hbl : b < (instsF p).length := by have := dp.t1; rw [htb, ul] at this; omega
  have hal : a < (instsF p).length := by have := dp.ft; rw [htb, hfa] at this; omega
  have HIT := Lib.hid (show hitD p (k : Int) (m : Int) ds[j] = hitF (k : Int) (m : Int) (instsF p)[a] (instsF p)[b] by rw [hitD, hfa, htb, nthIn_eq hal, nthIn_eq hbl])
  have HSTEP := Lib.hid (HBJ.out.trans (any_at (f := hitD p (k : Int) (m : Int)) hlt))
  obtain ⟨bd, od, csd, ld, rfl, hbld, hrd, _, _, hcd⟩ := (D5.out.below hb).sls_at Dp.d_size (k := j) hlt
  have Gd := Lib.hid hrd
  obtain ⟨rfl, rfl, g1d, g2d, g3d⟩ := Rep.dp_iff.1 hrd
  have k0d := (hcd 0 _ rfl).1; rw [Nat.add_zero] at k0d
  have k1d := (hcd 1 _ rfl).1
  have k2d := (hcd 2 _ rfl).1
  have Q1d := Lib.hid g1d
  have Q2d := Lib.hid g2d
  have Q3d := Lib.hid g3d
  clear hcd hrd g1d g2d g3d
  rw [hfa] at k0d
  rw [htb] at k1d
  obtain ⟨bx, ox, csx, lx, rfl, hblx, hrx, _, _, hcx⟩ := (L5.out.below hb).sls_at In.d_size (k := a) hal
  have Gx := Lib.hid hrx
  obtain ⟨A3x, c3x, d3x, rfl, rfl, g1x, g2x, g3x⟩ := Rep.in_iff.1 hrx
  have k0x := (hcx 0 _ rfl).1; rw [Nat.add_zero] at k0x
  have k1x := (hcx 1 _ rfl).1
  have k2x := (hcx 2 _ rfl).1
  have Q1x := Lib.hid g1x
  have Q2x := Lib.hid g2x
  have Q3x := Lib.hid g3x
  clear hcx hrx g1x g2x g3x
  obtain ⟨bz, oz, csz, lz, heqz, hblz, hrz, _, _, hcz⟩ := (L5.out.below hb).sls_at In.d_size (k := b) hbl
  obtain ⟨rfl, rfl⟩ : bx = bz ∧ ox = oz := by simpa using heqz
  have Gz := Lib.hid hrz
  obtain ⟨A3z, c3z, d3z, rfl, rfl, g1z, g2z, g3z⟩ := Rep.in_iff.1 hrz
  have k0z := (hcz 0 _ rfl).1; rw [Nat.add_zero] at k0z
  have k1z := (hcz 1 _ rfl).1
  have k2z := (hcz 2 _ rfl).1
  have Q1z := Lib.hid g1z
  have Q2z := Lib.hid g2z
  have Q3z := Lib.hid g3z
  clear hcz hrz g1z g2z g3z
  have x2r := cell_to HXT.out hb
  have ltr := lt_of_cell x2r
  have hln := HLN.out
  clear dp ul hfa htb
  obtain ⟨ia, hia⟩ : ∃ ia, ia = (instsF p)[a] := ⟨_, rfl⟩
  obtain ⟨iz, hiz⟩ : ∃ iz, iz = (instsF p)[b] := ⟨_, rfl⟩
  rw [← hia, ← hiz] at HIT
  rw [← hia] at k0x k1x k2x
  rw [← hiz] at k0z k1z k2z
  clear hia hiz
  go_upto_region 8 with (fail)
  go_cut [15, 16] (fun u15 u16 wc => ∃ g1 g2 : Nat, u15 = .pointer (some ⟨g1, 0, none⟩) ∧ u16 = .pointer (some ⟨g2, 0, none⟩) ∧ Row wc g1 84 [.int .i64 ia.part, .int .i64 ia.stmt, .slice A3x ia.point.length c3x] ∧ Row wc g2 84 [.int .i64 iz.part, .int .i64 iz.stmt, .slice A3z iz.point.length c3z] ∧ Below wr.heap.size wr wc)
  case first =>
   refine wp_region_noPanic ?_
   refine wp_regionT (S := fun w' => w'.cell? ⟨gt, 2, none⟩ = some (.slice (some ⟨bx, ox, none⟩) (instsF p).length c3) ∧ w'.cell? ⟨wr.heap.size, 0, none⟩ = some (.int .i64 (a : Int)) ∧ w'.cell? ⟨wr.heap.size, 1, none⟩ = some (.int .i64 (b : Int)) ∧ w'.cell? ⟨bx, ox + a * 3, none⟩ = some (.int .i64 ia.part) ∧ w'.cell? ⟨bx, ox + a * 3 + 1, none⟩ = some (.int .i64 ia.stmt) ∧ w'.cell? ⟨bx, ox + a * 3 + 2, none⟩ = some (.slice A3x ia.point.length c3x) ∧ w'.cell? ⟨bx, ox + b * 3, none⟩ = some (.int .i64 iz.part) ∧ w'.cell? ⟨bx, ox + b * 3 + 1, none⟩ = some (.int .i64 iz.stmt) ∧ w'.cell? ⟨bx, ox + b * 3 + 2, none⟩ = some (.slice A3z iz.point.length c3z)) 19 (by kernel_rfl) (⟨by go_simp, by go_simp, by go_simp, by go_simp, by go_simp, by go_simp, by go_simp, by go_simp, by go_simp⟩) (fun hHeld => ?_)
   refine goU 0 (fun _ => hHeld) ?_
   refine goU 1 (fun _ => hHeld) ?_
   refine goU 2 (fun _ => hHeld) ?_
   refine goT 3 hHeld ?_
   refine goU 4 (fun _ => hHeld) ?_
   refine goT 5 hHeld ?_
   refine goU 6 (fun _ => hHeld) ?_
   refine goT 7 hHeld ?_
   refine goU 8 (fun _ => hHeld) ?_
   refine goU 9 (fun _ => hHeld) ?_
   refine goU 10 (fun _ => hHeld) ?_
   refine goT 11 hHeld ?_
   refine goU 12 (fun _ => hHeld) ?_
   refine goT 13 hHeld ?_
   refine goU 14 (fun _ => hHeld) ?_
   refine goT 15 hHeld ?_
   refine readyT (rs := [16, 17]) (by kernel_rfl) (by simp) (all2 ?_ ?_)
   ·refine opT (i := 16) rfl (wanted_none rfl) (fun K hK => ?_)
    (refine wp_alloc1 84 (cells := [.int .i64 0, .int .i64 0, .slice none 0 0]) (by unfold Oper.wp; go_simp) ?_; intro v16 g16 row16 b16 hg16 hl16; (try simp at hg16); have z16 := b16.size; (try simp at z16); have BW16 : Below wr.heap.size wr v16 := bel; (try have row17b := row17.to b16))
    refine hK.out _ _ (⟨cell_toC hHeld.1 b16, cell_toC hHeld.2.1 b16, cell_toC hHeld.2.2.1 b16, cell_toC hHeld.2.2.2.1 b16, cell_toC hHeld.2.2.2.2.1 b16, cell_toC hHeld.2.2.2.2.2.1 b16, cell_toC hHeld.2.2.2.2.2.2.1 b16, cell_toC hHeld.2.2.2.2.2.2.2.1 b16, cell_toC hHeld.2.2.2.2.2.2.2.2 b16⟩) (fun hHeld => ?_)
    clear hK K
    try simp only [Act.put, aq0, aq1, aq2]
    refine readyT (rs := [17]) (by kernel_rfl) (by simp) (all1 ?_)
    refine opT (i := 17) rfl (wanted_none rfl) (fun K hK => ?_)
    (refine wp_alloc1 84 (cells := [.int .i64 0, .int .i64 0, .slice none 0 0]) (by unfold Oper.wp; go_simp) ?_; intro v17 g17 row17 b17 hg17 hl17; (try simp at hg17); have z17 := b17.size; (try simp at z17); have BW17 : Below wr.heap.size wr v17 := bel; (try have row16b := row16.to b17))
    refine hK.out _ _ (⟨cell_toC hHeld.1 b17, cell_toC hHeld.2.1 b17, cell_toC hHeld.2.2.1 b17, cell_toC hHeld.2.2.2.1 b17, cell_toC hHeld.2.2.2.2.1 b17, cell_toC hHeld.2.2.2.2.2.1 b17, cell_toC hHeld.2.2.2.2.2.2.1 b17, cell_toC hHeld.2.2.2.2.2.2.2.1 b17, cell_toC hHeld.2.2.2.2.2.2.2.2 b17⟩) (fun hHeld => ?_)
    clear hK K
    try simp only [Act.put, aq0, aq1, aq2]
    refine readyT (rs := [18]) (by kernel_rfl) (by simp) (all1 ?_)
    refine opT (i := 18) rfl (wanted_none rfl) (fun K hK => ?_)
    ((first | refine wp_store_row 84 (.tmp 15) (.tmp 58) rfl (vs := [.int .i64 ia.part, .int .i64 ia.stmt, .slice A3x ia.point.length c3x]) rfl rfl row16b rfl Tryz.sizeInst3 rfl ?_ | refine wp_store_row 84 (.tmp 15) (.tmp 58) rfl (vs := [.int .i64 ia.part, .int .i64 ia.stmt, .slice A3x ia.point.length c3x]) rfl rfl row16 rfl Tryz.sizeInst3 rfl ?_); intro v18 row18 t18; (first | have row17c := Row.tchP row17b t18 (by omega) (by simp; omega) | have row17c := Row.tchP row17 t18 (by omega) (by simp; omega)); (first | have BW18 := BW17.trans (t18.below BW17.size (by simp; omega)) | have BW18 := BW16.trans (t18.below BW16.size (by simp; omega))))
    refine hK.out _ _ (⟨t18.cellR hHeld.1 (by simp; omega), t18.cellR hHeld.2.1 (by simp; omega), t18.cellR hHeld.2.2.1 (by simp; omega), t18.cellR hHeld.2.2.2.1 (by simp; omega), t18.cellR hHeld.2.2.2.2.1 (by simp; omega), t18.cellR hHeld.2.2.2.2.2.1 (by simp; omega), t18.cellR hHeld.2.2.2.2.2.2.1 (by simp; omega), t18.cellR hHeld.2.2.2.2.2.2.2.1 (by simp; omega), t18.cellR hHeld.2.2.2.2.2.2.2.2 (by simp; omega)⟩) (fun hHeld => ?_)
    clear hK K
    try simp only [Act.put, aq0, aq1, aq2]
    refine readyT (rs := [19]) (by kernel_rfl) (by simp) (all1 ?_)
    refine opTT (i := 19) rfl (wanted_none rfl) (by kernel_rfl) (fun K hK => ?_)
    (refine wp_store_row 84 (.tmp 16) (.tmp 66) rfl (vs := [.int .i64 iz.part, .int .i64 iz.stmt, .slice A3z iz.point.length c3z]) rfl rfl row17c rfl Tryz.sizeInst3 rfl ?_; intro v19 row19 t19; have HF := Lib.hid (And.intro (Row.tchP row18 t19 row18.lt (by simp; omega)) (And.intro row19 (BW18.trans (t19.below BW18.size (by simp; omega))))))
    refine hK.out _ _ ?_
    clear hK K
    try simp only [Act.put, aq0, aq1, aq2]
    refine wpAnyT_done (by kernel_rfl) ?_ _
    refine NoPanic.normal ?_
    (go_wp2; go_meet; (case rel => exact ⟨_, _, rfl, rfl, HF.out.1, HF.out.2.1, HF.out.2.2⟩))
   ·refine opT (i := 17) rfl (wanted_none rfl) (fun K hK => ?_)
    (refine wp_alloc1 84 (cells := [.int .i64 0, .int .i64 0, .slice none 0 0]) (by unfold Oper.wp; go_simp) ?_; intro v17 g17 row17 b17 hg17 hl17; (try simp at hg17); have z17 := b17.size; (try simp at z17); have BW17 : Below wr.heap.size wr v17 := bel; (try have row16b := row16.to b17))
    refine hK.out _ _ (⟨cell_toC hHeld.1 b17, cell_toC hHeld.2.1 b17, cell_toC hHeld.2.2.1 b17, cell_toC hHeld.2.2.2.1 b17, cell_toC hHeld.2.2.2.2.1 b17, cell_toC hHeld.2.2.2.2.2.1 b17, cell_toC hHeld.2.2.2.2.2.2.1 b17, cell_toC hHeld.2.2.2.2.2.2.2.1 b17, cell_toC hHeld.2.2.2.2.2.2.2.2 b17⟩) (fun hHeld => ?_)
    clear hK K
    try simp only [Act.put, aq0, aq1, aq2]
    refine readyT (rs := [16]) (by kernel_rfl) (by simp) (all1 ?_)
    refine opT (i := 16) rfl (wanted_none rfl) (fun K hK => ?_)
    (refine wp_alloc1 84 (cells := [.int .i64 0, .int .i64 0, .slice none 0 0]) (by unfold Oper.wp; go_simp) ?_; intro v16 g16 row16 b16 hg16 hl16; (try simp at hg16); have z16 := b16.size; (try simp at z16); have BW16 : Below wr.heap.size wr v16 := bel; (try have row17b := row17.to b16))
    refine hK.out _ _ (⟨cell_toC hHeld.1 b16, cell_toC hHeld.2.1 b16, cell_toC hHeld.2.2.1 b16, cell_toC hHeld.2.2.2.1 b16, cell_toC hHeld.2.2.2.2.1 b16, cell_toC hHeld.2.2.2.2.2.1 b16, cell_toC hHeld.2.2.2.2.2.2.1 b16, cell_toC hHeld.2.2.2.2.2.2.2.1 b16, cell_toC hHeld.2.2.2.2.2.2.2.2 b16⟩) (fun hHeld => ?_)
    clear hK K
    try simp only [Act.put, aq0, aq1, aq2]
    refine readyT (rs := [18]) (by kernel_rfl) (by simp) (all1 ?_)
    refine opT (i := 18) rfl (wanted_none rfl) (fun K hK => ?_)
    ((first | refine wp_store_row 84 (.tmp 15) (.tmp 58) rfl (vs := [.int .i64 ia.part, .int .i64 ia.stmt, .slice A3x ia.point.length c3x]) rfl rfl row16b rfl Tryz.sizeInst3 rfl ?_ | refine wp_store_row 84 (.tmp 15) (.tmp 58) rfl (vs := [.int .i64 ia.part, .int .i64 ia.stmt, .slice A3x ia.point.length c3x]) rfl rfl row16 rfl Tryz.sizeInst3 rfl ?_); intro v18 row18 t18; (first | have row17c := Row.tchP row17b t18 (by omega) (by simp; omega) | have row17c := Row.tchP row17 t18 (by omega) (by simp; omega)); (first | have BW18 := BW17.trans (t18.below BW17.size (by simp; omega)) | have BW18 := BW16.trans (t18.below BW16.size (by simp; omega))))
    refine hK.out _ _ (⟨t18.cellR hHeld.1 (by simp; omega), t18.cellR hHeld.2.1 (by simp; omega), t18.cellR hHeld.2.2.1 (by simp; omega), t18.cellR hHeld.2.2.2.1 (by simp; omega), t18.cellR hHeld.2.2.2.2.1 (by simp; omega), t18.cellR hHeld.2.2.2.2.2.1 (by simp; omega), t18.cellR hHeld.2.2.2.2.2.2.1 (by simp; omega), t18.cellR hHeld.2.2.2.2.2.2.2.1 (by simp; omega), t18.cellR hHeld.2.2.2.2.2.2.2.2 (by simp; omega)⟩) (fun hHeld => ?_)
    clear hK K
    try simp only [Act.put, aq0, aq1, aq2]
    refine readyT (rs := [19]) (by kernel_rfl) (by simp) (all1 ?_)
    refine opTT (i := 19) rfl (wanted_none rfl) (by kernel_rfl) (fun K hK => ?_)
    (refine wp_store_row 84 (.tmp 16) (.tmp 66) rfl (vs := [.int .i64 iz.part, .int .i64 iz.stmt, .slice A3z iz.point.length c3z]) rfl rfl row17c rfl Tryz.sizeInst3 rfl ?_; intro v19 row19 t19; have HF := Lib.hid (And.intro (Row.tchP row18 t19 row18.lt (by simp; omega)) (And.intro row19 (BW18.trans (t19.below BW18.size (by simp; omega))))))
    refine hK.out _ _ ?_
    clear hK K
    try simp only [Act.put, aq0, aq1, aq2]
    refine wpAnyT_done (by kernel_rfl) ?_ _
    refine NoPanic.normal ?_
    (go_wp2; go_meet; (case rel => exact ⟨_, _, rfl, rfl, HF.out.1, HF.out.2.1, HF.out.2.2⟩))
  case rest =>
   obtain ⟨g1, g2, rfl, rfl, row1, row2, bw⟩ := hcut
   have a0 := row1.cell 0
   have a1 := row1.cell 1
   have y0 := row2.cell 0
   have y1 := row2.cell 1
   have la := row1.lt
   have lc := row2.lt
   simp only [List.getElem?_cons_zero, List.getElem?_cons_succ] at a0 a1 y0 y1
   have S8 := Lib.hid (below_tr (below_tr (below_tr S1 T5.out) hb) bw)
   obtain ⟨⟨r0, r1⟩, r2, r3⟩ := HX1.out.to (below_tr (below_tr T5.out hb) bw)
   have ltq := lt_of_cell r0
   clear row1 row2
   by_cases d1 : ia.part = (k : Int)
   case neg =>
    have q1 : (ia.part == (k : Int)) = false := by simpa using d1
    have hh : hitF (k : Int) (m : Int) ia iz = false := by simp [hitF, d1]
    have HN := Lib.hid (show badF p (k : Int) (m : Int) = (ds.drop (j + 1)).any (hitD p (k : Int) (m : Int)) by rw [HSTEP.out, HIT.out, hh, Bool.false_or])
    clear hh
    go_wp2
    go_roundw
    case rel => exact ⟨j + 1, hlt, by go_num, HN.out, below_tr hb bw⟩
    case measure => (simp [intOf]; omega)
   have q1 : (ia.part == (k : Int)) = true := by simpa using d1
   by_cases d2 : iz.part = (k : Int)
   case neg =>
    have q2 : (iz.part == (k : Int)) = false := by simpa using d2
    have hh : hitF (k : Int) (m : Int) ia iz = false := by simp [hitF, d2]
    have HN := Lib.hid (show badF p (k : Int) (m : Int) = (ds.drop (j + 1)).any (hitD p (k : Int) (m : Int)) by rw [HSTEP.out, HIT.out, hh, Bool.false_or])
    clear hh
    go_wp2
    go_roundw
    case rel => exact ⟨j + 1, hlt, by go_num, HN.out, below_tr hb bw⟩
    case measure => (simp [intOf]; omega)
   have q2 : (iz.part == (k : Int)) = true := by simpa using d2
   by_cases d3 : iz.stmt < (m : Int)
   case neg =>
    have hh : hitF (k : Int) (m : Int) ia iz = false := by simp [hitF, d3]
    have HN := Lib.hid (show badF p (k : Int) (m : Int) = (ds.drop (j + 1)).any (hitD p (k : Int) (m : Int)) by rw [HSTEP.out, HIT.out, hh, Bool.false_or])
    clear hh
    go_wp2
    go_roundw
    case rel => exact ⟨j + 1, hlt, by go_num, HN.out, below_tr hb bw⟩
    case measure => (simp [intOf]; omega)
   by_cases d4 : (m : Int) ≤ ia.stmt
   case neg =>
    have hh : hitF (k : Int) (m : Int) ia iz = false := by simp [hitF, d4]
    have HN := Lib.hid (show badF p (k : Int) (m : Int) = (ds.drop (j + 1)).any (hitD p (k : Int) (m : Int)) by rw [HSTEP.out, HIT.out, hh, Bool.false_or])
    clear hh
    go_wp2
    go_roundw
    case rel => exact ⟨j + 1, hlt, by go_num, HN.out, below_tr hb bw⟩
    case measure => (simp [intOf]; omega)
   have hh0 : hitF (k : Int) (m : Int) ia iz = true := by rw [hitF, decide_eq_true d1, decide_eq_true d2, decide_eq_true d3, decide_eq_true d4]; rfl
   have hh : badF p (k : Int) (m : Int) = true := by rw [HSTEP.out, HIT.out, hh0, Bool.true_or]
   have HHB := Lib.hid hh
   clear hh0 hh
   go_wp2
   have Sr := S8.out
   exact bodyPost_ret (v := .tuple #[.agg #[.slice none 0 0, .slice none 0 0], .bool false]) (by simp [results, Tryz.results16, go_sem, r0, r1, ltq]) rfl (by rw [dist_bad HHB.out]; exact MadePgmB.nil bel)
theorem implDistributePart_c {w : World} {p : Pgm} {k m : Int} {cs : List Value} {bs : List Nat} (h : Rep w p.d cs bs) :
  Calls Tryz.prog 16 #[.agg cs.toArray, .int .i64 k, .int .i64 m] w (MadePgmB w (DistributePartF p k m)) := by
 cases hb : distB p k m with
 | true =>
  obtain ⟨hv, q, n, rfl, rfl, hq, h1, h2⟩ := distB_y hb
  exact DistI_y h hv hq h1 h2
 | false =>
  rw [dist_no hb]
  cases hv : (progOk p && inB k 0 ((p.parts.length : Int) - 1)) with
  | false => exact DistI_n h hv
  | true =>
   simp only [Bool.and_eq_true] at hv
   obtain ⟨hv, hin⟩ := hv
   have h2 := inB_iff.1 hin
   obtain ⟨q, rfl⟩ := Int.eq_ofNat_of_zero_le h2.1
   have hq : q < p.parts.length := by omega
   refine DistI_m h hv hq ?_
   cases hm : inB m 1 ((p.parts[q].body.length : Int) - 1) with
   | false => rfl
   | true =>
    rw [distB, hv, hin, prtF_eq hq, hm] at hb
    cases hb
end Go.Proofs.YtgogjbnneoadkaaGreat
