/- SplitLoop of the reference: the loop is divided. (Its two regions were printed by wip/gensplit.py.) -/
import Derived.Test.YtgogjbnneoadkaaGreatZtSplitS
set_option linter.all false
set_option maxHeartbeats 8000000
set_option maxRecDepth 100000
namespace Go.Proofs.YtgogjbnneoadkaaGreat
open Go.ChangeShapes Go.WideShapes Go.ChangeAt Go.RowKit Go.Deep
theorem SplitS_y {w : World} {p : Pgm} {k : Nat} {a : Int} {cs : List Value} {bs : List Nat} (h : Rep w p.d cs bs) (hz : szD p.d ≤ 10000000) (hh : hasB p (k : Int) 0 = true) (hv : progOk p = true) (hk : k < p.parts.length) (hn : 0 < p.parts[k].nest.length) {lo hi : Int} (hf : fixF p.parts[k].nest[0] = (lo, hi, true)) (hq : inB a lo hi = true) :
  Calls Tryz.prog 9 #[.agg cs.toArray, .int .i64 (k : Int), .int .i64 a] w (MadePgmB w (finF (splitQ p k lo a hi))) := by
 have HH := Lib.hid h
 obtain ⟨A1, c1, A2, c2, d1, d2, rfl, rfl, g1, g2⟩ := Rep.pgm_iff.1 h
 have HB := Lib.hid hh
 have HF := Lib.hid hf
 have HQ := Lib.hid hq
 have HV := Lib.hid hv
 clear g1 g2 h hh hf hq hv
 go_enter Tryz.func9, Tryz.ntmps9
 go_wp2_with fail
 refine (l16OwnProgram_c (HH.out.below bel) hz).mono ?_
 rintro e w1 ⟨cs1, bs1, rfl, r1, nd1, hb1, b1⟩
 obtain ⟨A1c, c1c, A2c, c2c, e1, e2, rfl, rfl, -, -⟩ := Rep.pgm_iff.1 r1
 have X0 : BoxW w1 w.heap.size (.slice A1 p.arrays.length c1) (.slice A2 p.parts.length c2) := BoxW.to ⟨⟨by go_simp, by go_simp⟩, by go_simp, by go_simp⟩ b1
 have X1 : BoxW w1 (w.heap.size + 1) (.slice none 0 0) (.slice none 0 0) := BoxW.to ⟨⟨by go_simp, by go_simp⟩, by go_simp, by go_simp⟩ b1
 have S1 : Below w.heap.size w w1 := bel
 have hge : ∀ y ∈ e1 ++ e2, w.heap.size + 2 ≤ y := fun y hy => by have := hb1 y hy; simp at this; omega
 have hno : w.heap.size ∉ e1 ++ e2 := fun hm => by have := hge _ hm; omega
 have R1 := Lib.hid (Rep.keep _ r1 (((Keeps.refl _ _).setCell (p := ⟨w.heap.size, 0, none⟩) hno (.slice A1c p.arrays.length c1c)).setCell (p := ⟨w.heap.size, 1, none⟩) hno (.slice A2c p.parts.length c2c)))
 have HX1 := Lib.hid X1
 obtain ⟨⟨m1, m2⟩, m3, m4⟩ := X0
 have lt0 := lt_of_cell m1
 clear r1 nd1 hb1 b1 hge hno X1
 go_wp2_with fail
 refine (l8Has_c R1.out).mono ?_
 rintro e w2 ⟨rfl, b2⟩
 rw [HB.out]
 obtain ⟨W1, hW1⟩ : ∃ W1, W1 = (w1.setCell ⟨w.heap.size, 0, none⟩ (.slice A1c p.arrays.length c1c)).setCell ⟨w.heap.size, 1, none⟩ (.slice A2c p.parts.length c2c) := ⟨_, rfl⟩
 have X2 : BoxW W1 (w.heap.size + 1) (.slice none 0 0) (.slice none 0 0) := by rw [hW1]; exact ⟨Box2.set (Box2.set HX1.out.1 (by simp) _) (by simp) _, by rw [World.frozen?_setCell, World.frozen?_setCell]; exact HX1.out.2.1, by rw [World.frozen?_setCell, World.frozen?_setCell]; exact HX1.out.2.2⟩
 have XA : Box2 W1 w.heap.size (.slice A1c p.arrays.length c1c) (.slice A2c p.parts.length c2c) := by
  rw [hW1]
  have e1 : (w1.setCell ⟨w.heap.size, 0, none⟩ (.slice A1c p.arrays.length c1c)).cell? ⟨w.heap.size, 1, none⟩ = some (.slice A2 p.parts.length c2) := by rw [World.cell?_setCell_other _ _ _ _ (by simp)]; exact m2
  exact ⟨by rw [World.cell?_setCell_other _ _ _ _ (by simp)]; exact World.cell?_setCell_same _ _ _ m1, World.cell?_setCell_same _ _ _ e1⟩
 have SW : Below w.heap.size w W1 := by rw [hW1]; exact (S1.setCell (by simp) _).setCell (by simp) _
 have S2 : Below w.heap.size w w2 := by rw [← hW1] at b2; exact below_tr SW b2
 rw [← hW1] at R1 b2
 have R2 := Lib.hid (R1.out.below b2)
 have HX2 := Lib.hid (X2.to b2)
 have HA2 := Lib.hid (XA.to b2)
 clear hW1 b2 m1 m2 m3 m4 R1 X2 XA HX1 S1 SW
 obtain ⟨A1x, c1x, A2x, c2x, f1, f2, ef, -, -, gP⟩ := Rep.pgm_iff.1 R2.out
 simp only [List.cons.injEq, Value.slice.injEq, true_and, and_true] at ef
 obtain ⟨⟨rfl, rfl⟩, rfl, rfl⟩ := ef
 have GP := Lib.hid gP
 clear gP
 obtain ⟨bg, og, csg, lg, rfl, hblg, hrg, _, _, hcg⟩ := GP.out.sls_at Prt.d_size (k := k) hk
 have Gg := Lib.hid hrg
 obtain ⟨A1g, c1g, A2g, c2g, d1g, d2g, rfl, rfl, g1g, g2g⟩ := Rep.prt_iff.1 hrg
 have k0g := (hcg 0 _ rfl).1; rw [Nat.add_zero] at k0g
 have k1g := (hcg 1 _ rfl).1
 have Q1g := Lib.hid g1g
 have Q2g := Lib.hid g2g
 clear hcg hrg g1g g2g
 have hnn : p.parts[k].nest.length ≤ 1000000 := ((pgm_sm HV.out).2.2.2 _ (List.getElem_mem hk)).1
 obtain ⟨be, oe, cse, le, rfl, hble, hre, _, _, hce⟩ := Q1g.out.sls_at Lp.d_size (k := 0) hn
 have Ge := Lib.hid hre
 obtain ⟨A1e, c1e, A2e, c2e, d1e, d2e, rfl, rfl, g1e, g2e⟩ := Rep.lp_iff.1 hre
 have k0e := (hce 0 _ rfl).1; rw [Nat.add_zero] at k0e
 have k1e := (hce 1 _ rfl).1
 have Q1e := Lib.hid g1e
 have Q2e := Lib.hid g2e
 clear hce hre g1e g2e
 rw [Nat.zero_mul, Nat.add_zero] at k1e
 obtain ⟨⟨p0, p1⟩, z0, z1⟩ := HX2.out
 obtain ⟨y0, y1⟩ := HA2.out
 have lta := lt_of_cell y0
 have ltr := lt_of_cell p0
 have hkb : (k : Int) < (p.parts.length : Int) := by omega
 go_wp2_with fail
 refine (l8Const_c (Ge.out.below bel)).mono ?_
 rintro e w3 ⟨rfl, b3⟩
 rw [HF.out]
 have XB : Box2 w3 w2.heap.size (.slice (some ⟨be, oe, none⟩) p.parts[k].nest.length c1g) (.slice A2g p.parts[k].body.length c2g) := (Box2.new w2 _ _ _).to b3
 have T3 : Below w2.heap.size w2 w3 := below_tr (below_al (Below.refl _ _) _) b3
 have XA3 := Lib.hid (HA2.out.to T3)
 have XR := HX2.out.to (show Below w2.heap.size w2 w3 from below_tr (below_al (Below.refl _ _) _) b3)
 have S3 : Below w.heap.size w w3 := below_tr S2 (below_tr (below_al (Below.refl _ _) _) b3)
 clear b3 p0 p1 z0 z1 y0 y1
 have HXR := Lib.hid XR
 clear XR
 have h1 : ¬ a < lo := by have := (inB_iff.1 HQ.out).1; omega
 have h2 : ¬ hi < a := by have := (inB_iff.1 HQ.out).2; omega
 obtain ⟨bdl, bdh⟩ := split_bd HV.out hk hn HF.out
 have hba := inB_iff.1 HQ.out
 have I1 : I64 lo := ⟨by omega, by omega⟩
 have I2 : I64 hi := ⟨by omega, by omega⟩
 have I3 : I64 a := ⟨by omega, by omega⟩
 have HI := Lib.hid (And.intro I1 (And.intro I2 I3))
 clear bdl bdh hba I1 I2 I3
 have h1n : (1 : Int) ≤ (p.parts[k].nest.length : Int) := by omega
 obtain ⟨A3, HA3⟩ : ∃ A3, (if c1g = 1 then some (⟨be, oe, none⟩ : Addr) else some ⟨be, oe + 2, none⟩) = A3 := ⟨_, rfl⟩
 have HRB := Lib.hid (Q2g.out.below T3)
 have hRT : ∃ bt, Rep w3 (sls Lp.d p.parts[k].nest.tail) [.slice A3 (p.parts[k].nest.length - 1) (c1g - 1)] bt ∧ ∀ y ∈ bt, y < w3.heap.size := by
  have hq := Q1g.out.below T3
  have hlt := Rep.lt _ hq
  obtain ⟨_, hc1, hc2⟩ := hq.sls_len
  rcases Nat.lt_or_ge 1 p.parts[k].nest.length with h | h
  ·obtain ⟨bt, q1, q2⟩ := hq.sls_drop Lp.d_size h
   rw [List.drop_one, Nat.one_mul] at q1
   refine ⟨bt, ?_, fun y hy => hlt y (q2 y hy)⟩
   rw [← HA3, if_neg (by omega)]
   exact q1
  ·have e1 : p.parts[k].nest.tail = [] := List.length_eq_zero_iff.1 (by rw [List.length_tail]; omega)
   rw [e1, show p.parts[k].nest.length - 1 = 0 by omega]
   exact ⟨[], Rep.sls_nil (by omega), by simp⟩
 obtain ⟨bt, hRT1, hRT2⟩ := hRT
 have HRT := Lib.hid (And.intro hRT1 hRT2)
 have HXB := Lib.hid XB
 have HT3 := Lib.hid T3
 have ltx := lt_of_cell XB.1
 obtain ⟨W3, hW3⟩ : ∃ W3, W3 = w3 := ⟨_, rfl⟩
 subst hW3
 clear hRT1 hRT2 XB T3
 go_upto_region 8 with (fail)
 go_cut [12] (fun u12 wc => ∃ (g : Nat) (A : Option Addr) (n c : Nat) (bsP : List Nat), u12 = .pointer (some ⟨g, 0, none⟩) ∧ Row wc g 54 [.slice A n c, .slice A2g p.parts[k].body.length c2g] ∧ Rep wc (⟨⟨[affConst lo], [affConst a]⟩ :: p.parts[k].nest.tail, p.parts[k].body⟩ : Prt).d [.slice A n c, .slice A2g p.parts[k].body.length c2g] bsP ∧ Below W3.heap.size W3 wc)
 case first =>
  refine wp_region_noPanic ?_
  refine wp_regionT (S := fun w' => Box2 w' w2.heap.size (.slice (some ⟨be, oe, none⟩) p.parts[k].nest.length c1g) (.slice A2g p.parts[k].body.length c2g)) 16 (by kernel_rfl) (HXB.out) (fun hHeld => ?_)
  refine goU 0 (fun _ => hHeld) ?_
  refine goU 3 (fun _ => hHeld) ?_
  refine goU 8 (fun _ => hHeld) ?_
  refine goT 9 hHeld ?_
  refine takeU (i := 10) (v := ?_) rfl rfl (by kernel_rfl) (by kernel_rfl) (by kernel_rfl) (by kernel_rfl) (fun _ _ _ h => h) ?_ (fun _ => hHeld) ?_
  rotate_left 1
  ·intro w; go_simp
   try simp only [HA3, eq_true h1n, if_true]
   try with_reducible rfl
  simp only [Act.put, aq0, aq1, aq2]
  refine goU 12 (fun _ => hHeld) ?_
  refine goT 13 hHeld ?_
  refine readyT (rs := [1, 15]) (by kernel_rfl) (by simp) (all2 ?_ ?_)
  refine opT (i := 1) rfl (wanted_none rfl) (fun K hK => ?_)
  go_simp
  refine (l1Const_c lo HI.out.1 _).mono ?_
  rintro e q1 ⟨X1, n1, k1, m1, bs1, rfl, r1, -, hb1, e1⟩
  replace e1 : Below W3.heap.size W3 q1 := of_drew e1
  have z1 : W3.heap.size ≤ q1.heap.size := e1.size
  replace hb1 : ∀ y ∈ bs1, W3.heap.size ≤ y := hb1
  have l1 := Rep.lt _ r1
  go_wp2_with fail
  refine hK.out _ _ ((show Box2 W3 _ _ _ from hHeld).to e1) (fun hHeld => ?_)
  clear hK K; try simp only [Act.put, aq0, aq1, aq2]
  refine readyT (rs := [2, 4, 15]) (by kernel_rfl) (by simp) (all3 ?_ ?_ ?_)
  refine opT (i := 2) rfl (wanted_none rfl) (fun K hK => ?_)
  refine wp_build1 61 (.tmp 49) (cells := [.slice X1 n1 k1, .int .i64 m1]) rfl (r1.below bel) (by unfold Oper.wp; go_simp) ?_
  intro q2 N2 _ o2 e2 hN2 hM2
  have z2 : q1.heap.size ≤ q2.heap.size := e2.size
  refine hK.out _ _ (hHeld.to e2) (fun hHeld => ?_)
  clear hK K; try simp only [Act.put, aq0, aq1, aq2]
  refine readyT (rs := [4, 15]) (by kernel_rfl) (by simp) (all2 ?_ ?_)
  refine opT (i := 4) rfl (wanted_none rfl) (fun K hK => ?_)
  go_simp
  refine (l1Const_c a HI.out.2.2 _).mono ?_
  rintro e q4 ⟨X4, n4, k4, m4, bs4, rfl, r4, -, hb4, e4⟩
  have z4 : q2.heap.size ≤ q4.heap.size := e4.size
  replace hb4 : ∀ y ∈ bs4, q2.heap.size ≤ y := hb4
  have l4 := Rep.lt _ r4
  go_wp2_with fail
  refine hK.out _ _ (hHeld.to e4) (fun hHeld => ?_)
  clear hK K; try simp only [Act.put, aq0, aq1, aq2]
  refine readyT (rs := [5, 15]) (by kernel_rfl) (by simp) (all2 ?_ ?_)
  refine opT (i := 5) rfl (wanted_none rfl) (fun K hK => ?_)
  refine wp_build1 61 (.tmp 52) (cells := [.slice X4 n4 k4, .int .i64 m4]) rfl (r4.below bel) (by unfold Oper.wp; go_simp) ?_
  intro q5 N5 _ o5 e5 hN5 hM5
  have z5 : q4.heap.size ≤ q5.heap.size := e5.size
  refine hK.out _ _ (hHeld.to e5) (fun hHeld => ?_)
  clear hK K; try simp only [Act.put, aq0, aq1, aq2]
  refine goU 6 (fun _ => hHeld) ?_
  refine readyT (rs := [7, 15]) (by kernel_rfl) (by simp) (all2 ?_ ?_)
  refine opT (i := 7) rfl (wanted_none rfl) (fun K hK => ?_)
  have l7 := lp_two (A := lo) (B := a) (o2.below (bel : Below _ _ q5)) (o5.below (bel : Below _ _ q5))
  refine wp_build1 59 (.tmp 54) (cells := [.slice (some ⟨N2, 0, none⟩) 1 1, .slice (some ⟨N5, 0, none⟩) 1 1]) rfl l7 (by unfold Oper.wp; go_simp) ?_
  intro q7 N7 row7 o7 e7 hN7 hM7
  have z7 : q5.heap.size ≤ q7.heap.size := e7.size
  replace l7 := l7.below e7
  refine hK.out _ _ (hHeld.to e7) (fun hHeld => ?_)
  clear hK K; try simp only [Act.put, aq0, aq1, aq2]
  refine readyT (rs := [11, 15]) (by kernel_rfl) (by simp) (all2 ?_ ?_)
  rotate_left
  refine opT (i := 15) rfl (wanted_none rfl) (fun K hK => ?_)
  refine wp_alloc1 54 (cells := [.slice none 0 0, .slice none 0 0]) (by unfold Oper.wp; go_simp) ?_
  intro q15 g row15 e15 hg15 hM15
  have z15 : q7.heap.size ≤ q15.heap.size := e15.size
  refine hK.out _ _ (hHeld.to e15) (fun hHeld => ?_)
  clear hK K; try simp only [Act.put, aq0, aq1, aq2]
  rotate_left
  refine opT (i := 15) rfl (wanted_none rfl) (fun K hK => ?_)
  refine wp_alloc1 54 (cells := [.slice none 0 0, .slice none 0 0]) (by unfold Oper.wp; go_simp) ?_
  intro q15 g row15 e15 hg15 hM15
  have z15 : q5.heap.size ≤ q15.heap.size := e15.size
  refine hK.out _ _ (hHeld.to e15) (fun hHeld => ?_)
  clear hK K; try simp only [Act.put, aq0, aq1, aq2]
  refine readyT (rs := [7]) (by kernel_rfl) (by simp) (all1 ?_)
  refine opT (i := 7) rfl (wanted_none rfl) (fun K hK => ?_)
  have l7 := lp_two (A := lo) (B := a) (o2.below (bel : Below _ _ q15)) (o5.below (bel : Below _ _ q15))
  refine wp_build1 59 (.tmp 54) (cells := [.slice (some ⟨N2, 0, none⟩) 1 1, .slice (some ⟨N5, 0, none⟩) 1 1]) rfl l7 (by unfold Oper.wp; go_simp) ?_
  intro q7 N7 row7 o7 e7 hN7 hM7
  have z7 : q15.heap.size ≤ q7.heap.size := e7.size
  replace l7 := l7.below e7
  refine hK.out _ _ (hHeld.to e7) (fun hHeld => ?_)
  clear hK K; try simp only [Act.put, aq0, aq1, aq2]
  rotate_left
  refine opT (i := 15) rfl (wanted_none rfl) (fun K hK => ?_)
  refine wp_alloc1 54 (cells := [.slice none 0 0, .slice none 0 0]) (by unfold Oper.wp; go_simp) ?_
  intro q15 g row15 e15 hg15 hM15
  have z15 : q4.heap.size ≤ q15.heap.size := e15.size
  refine hK.out _ _ (hHeld.to e15) (fun hHeld => ?_)
  clear hK K; try simp only [Act.put, aq0, aq1, aq2]
  refine readyT (rs := [5]) (by kernel_rfl) (by simp) (all1 ?_)
  refine opT (i := 5) rfl (wanted_none rfl) (fun K hK => ?_)
  refine wp_build1 61 (.tmp 52) (cells := [.slice X4 n4 k4, .int .i64 m4]) rfl (r4.below bel) (by unfold Oper.wp; go_simp) ?_
  intro q5 N5 _ o5 e5 hN5 hM5
  have z5 : q15.heap.size ≤ q5.heap.size := e5.size
  refine hK.out _ _ (hHeld.to e5) (fun hHeld => ?_)
  clear hK K; try simp only [Act.put, aq0, aq1, aq2]
  refine goU 6 (fun _ => hHeld) ?_
  refine readyT (rs := [7]) (by kernel_rfl) (by simp) (all1 ?_)
  refine opT (i := 7) rfl (wanted_none rfl) (fun K hK => ?_)
  have l7 := lp_two (A := lo) (B := a) (o2.below (bel : Below _ _ q5)) (o5.below (bel : Below _ _ q5))
  refine wp_build1 59 (.tmp 54) (cells := [.slice (some ⟨N2, 0, none⟩) 1 1, .slice (some ⟨N5, 0, none⟩) 1 1]) rfl l7 (by unfold Oper.wp; go_simp) ?_
  intro q7 N7 row7 o7 e7 hN7 hM7
  have z7 : q5.heap.size ≤ q7.heap.size := e7.size
  replace l7 := l7.below e7
  refine hK.out _ _ (hHeld.to e7) (fun hHeld => ?_)
  clear hK K; try simp only [Act.put, aq0, aq1, aq2]
  rotate_left
  refine opT (i := 15) rfl (wanted_none rfl) (fun K hK => ?_)
  refine wp_alloc1 54 (cells := [.slice none 0 0, .slice none 0 0]) (by unfold Oper.wp; go_simp) ?_
  intro q15 g row15 e15 hg15 hM15
  have z15 : q2.heap.size ≤ q15.heap.size := e15.size
  refine hK.out _ _ (hHeld.to e15) (fun hHeld => ?_)
  clear hK K; try simp only [Act.put, aq0, aq1, aq2]
  refine readyT (rs := [4]) (by kernel_rfl) (by simp) (all1 ?_)
  refine opT (i := 4) rfl (wanted_none rfl) (fun K hK => ?_)
  go_simp
  refine (l1Const_c a HI.out.2.2 _).mono ?_
  rintro e q4 ⟨X4, n4, k4, m4, bs4, rfl, r4, -, hb4, e4⟩
  have z4 : q15.heap.size ≤ q4.heap.size := e4.size
  replace hb4 : ∀ y ∈ bs4, q15.heap.size ≤ y := hb4
  have l4 := Rep.lt _ r4
  go_wp2_with fail
  refine hK.out _ _ (hHeld.to e4) (fun hHeld => ?_)
  clear hK K; try simp only [Act.put, aq0, aq1, aq2]
  refine readyT (rs := [5]) (by kernel_rfl) (by simp) (all1 ?_)
  refine opT (i := 5) rfl (wanted_none rfl) (fun K hK => ?_)
  refine wp_build1 61 (.tmp 52) (cells := [.slice X4 n4 k4, .int .i64 m4]) rfl (r4.below bel) (by unfold Oper.wp; go_simp) ?_
  intro q5 N5 _ o5 e5 hN5 hM5
  have z5 : q4.heap.size ≤ q5.heap.size := e5.size
  refine hK.out _ _ (hHeld.to e5) (fun hHeld => ?_)
  clear hK K; try simp only [Act.put, aq0, aq1, aq2]
  refine goU 6 (fun _ => hHeld) ?_
  refine readyT (rs := [7]) (by kernel_rfl) (by simp) (all1 ?_)
  refine opT (i := 7) rfl (wanted_none rfl) (fun K hK => ?_)
  have l7 := lp_two (A := lo) (B := a) (o2.below (bel : Below _ _ q5)) (o5.below (bel : Below _ _ q5))
  refine wp_build1 59 (.tmp 54) (cells := [.slice (some ⟨N2, 0, none⟩) 1 1, .slice (some ⟨N5, 0, none⟩) 1 1]) rfl l7 (by unfold Oper.wp; go_simp) ?_
  intro q7 N7 row7 o7 e7 hN7 hM7
  have z7 : q5.heap.size ≤ q7.heap.size := e7.size
  replace l7 := l7.below e7
  refine hK.out _ _ (hHeld.to e7) (fun hHeld => ?_)
  clear hK K; try simp only [Act.put, aq0, aq1, aq2]
  rotate_left
  refine opT (i := 4) rfl (wanted_none rfl) (fun K hK => ?_)
  go_simp
  refine (l1Const_c a HI.out.2.2 _).mono ?_
  rintro e q4 ⟨X4, n4, k4, m4, bs4, rfl, r4, -, hb4, e4⟩
  have z4 : q1.heap.size ≤ q4.heap.size := e4.size
  replace hb4 : ∀ y ∈ bs4, q1.heap.size ≤ y := hb4
  have l4 := Rep.lt _ r4
  go_wp2_with fail
  refine hK.out _ _ (hHeld.to e4) (fun hHeld => ?_)
  clear hK K; try simp only [Act.put, aq0, aq1, aq2]
  refine readyT (rs := [2, 5, 15]) (by kernel_rfl) (by simp) (all3 ?_ ?_ ?_)
  refine opT (i := 2) rfl (wanted_none rfl) (fun K hK => ?_)
  refine wp_build1 61 (.tmp 49) (cells := [.slice X1 n1 k1, .int .i64 m1]) rfl (r1.below bel) (by unfold Oper.wp; go_simp) ?_
  intro q2 N2 _ o2 e2 hN2 hM2
  have z2 : q4.heap.size ≤ q2.heap.size := e2.size
  refine hK.out _ _ (hHeld.to e2) (fun hHeld => ?_)
  clear hK K; try simp only [Act.put, aq0, aq1, aq2]
  refine readyT (rs := [5, 15]) (by kernel_rfl) (by simp) (all2 ?_ ?_)
  refine opT (i := 5) rfl (wanted_none rfl) (fun K hK => ?_)
  refine wp_build1 61 (.tmp 52) (cells := [.slice X4 n4 k4, .int .i64 m4]) rfl (r4.below bel) (by unfold Oper.wp; go_simp) ?_
  intro q5 N5 _ o5 e5 hN5 hM5
  have z5 : q2.heap.size ≤ q5.heap.size := e5.size
  refine hK.out _ _ (hHeld.to e5) (fun hHeld => ?_)
  clear hK K; try simp only [Act.put, aq0, aq1, aq2]
  refine goU 6 (fun _ => hHeld) ?_
  refine readyT (rs := [7, 15]) (by kernel_rfl) (by simp) (all2 ?_ ?_)
  refine opT (i := 7) rfl (wanted_none rfl) (fun K hK => ?_)
  have l7 := lp_two (A := lo) (B := a) (o2.below (bel : Below _ _ q5)) (o5.below (bel : Below _ _ q5))
  refine wp_build1 59 (.tmp 54) (cells := [.slice (some ⟨N2, 0, none⟩) 1 1, .slice (some ⟨N5, 0, none⟩) 1 1]) rfl l7 (by unfold Oper.wp; go_simp) ?_
  intro q7 N7 row7 o7 e7 hN7 hM7
  have z7 : q5.heap.size ≤ q7.heap.size := e7.size
  replace l7 := l7.below e7
  refine hK.out _ _ (hHeld.to e7) (fun hHeld => ?_)
  clear hK K; try simp only [Act.put, aq0, aq1, aq2]
  refine readyT (rs := [11, 15]) (by kernel_rfl) (by simp) (all2 ?_ ?_)
  rotate_left
  refine opT (i := 15) rfl (wanted_none rfl) (fun K hK => ?_)
  refine wp_alloc1 54 (cells := [.slice none 0 0, .slice none 0 0]) (by unfold Oper.wp; go_simp) ?_
  intro q15 g row15 e15 hg15 hM15
  have z15 : q7.heap.size ≤ q15.heap.size := e15.size
  refine hK.out _ _ (hHeld.to e15) (fun hHeld => ?_)
  clear hK K; try simp only [Act.put, aq0, aq1, aq2]
  rotate_left
  refine opT (i := 15) rfl (wanted_none rfl) (fun K hK => ?_)
  refine wp_alloc1 54 (cells := [.slice none 0 0, .slice none 0 0]) (by unfold Oper.wp; go_simp) ?_
  intro q15 g row15 e15 hg15 hM15
  have z15 : q5.heap.size ≤ q15.heap.size := e15.size
  refine hK.out _ _ (hHeld.to e15) (fun hHeld => ?_)
  clear hK K; try simp only [Act.put, aq0, aq1, aq2]
  refine readyT (rs := [7]) (by kernel_rfl) (by simp) (all1 ?_)
  refine opT (i := 7) rfl (wanted_none rfl) (fun K hK => ?_)
  have l7 := lp_two (A := lo) (B := a) (o2.below (bel : Below _ _ q15)) (o5.below (bel : Below _ _ q15))
  refine wp_build1 59 (.tmp 54) (cells := [.slice (some ⟨N2, 0, none⟩) 1 1, .slice (some ⟨N5, 0, none⟩) 1 1]) rfl l7 (by unfold Oper.wp; go_simp) ?_
  intro q7 N7 row7 o7 e7 hN7 hM7
  have z7 : q15.heap.size ≤ q7.heap.size := e7.size
  replace l7 := l7.below e7
  refine hK.out _ _ (hHeld.to e7) (fun hHeld => ?_)
  clear hK K; try simp only [Act.put, aq0, aq1, aq2]
  rotate_left
  refine opT (i := 15) rfl (wanted_none rfl) (fun K hK => ?_)
  refine wp_alloc1 54 (cells := [.slice none 0 0, .slice none 0 0]) (by unfold Oper.wp; go_simp) ?_
  intro q15 g row15 e15 hg15 hM15
  have z15 : q2.heap.size ≤ q15.heap.size := e15.size
  refine hK.out _ _ (hHeld.to e15) (fun hHeld => ?_)
  clear hK K; try simp only [Act.put, aq0, aq1, aq2]
  refine readyT (rs := [5]) (by kernel_rfl) (by simp) (all1 ?_)
  refine opT (i := 5) rfl (wanted_none rfl) (fun K hK => ?_)
  refine wp_build1 61 (.tmp 52) (cells := [.slice X4 n4 k4, .int .i64 m4]) rfl (r4.below bel) (by unfold Oper.wp; go_simp) ?_
  intro q5 N5 _ o5 e5 hN5 hM5
  have z5 : q15.heap.size ≤ q5.heap.size := e5.size
  refine hK.out _ _ (hHeld.to e5) (fun hHeld => ?_)
  clear hK K; try simp only [Act.put, aq0, aq1, aq2]
  refine goU 6 (fun _ => hHeld) ?_
  refine readyT (rs := [7]) (by kernel_rfl) (by simp) (all1 ?_)
  refine opT (i := 7) rfl (wanted_none rfl) (fun K hK => ?_)
  have l7 := lp_two (A := lo) (B := a) (o2.below (bel : Below _ _ q5)) (o5.below (bel : Below _ _ q5))
  refine wp_build1 59 (.tmp 54) (cells := [.slice (some ⟨N2, 0, none⟩) 1 1, .slice (some ⟨N5, 0, none⟩) 1 1]) rfl l7 (by unfold Oper.wp; go_simp) ?_
  intro q7 N7 row7 o7 e7 hN7 hM7
  have z7 : q5.heap.size ≤ q7.heap.size := e7.size
  replace l7 := l7.below e7
  refine hK.out _ _ (hHeld.to e7) (fun hHeld => ?_)
  clear hK K; try simp only [Act.put, aq0, aq1, aq2]
  rotate_left
  refine opT (i := 5) rfl (wanted_none rfl) (fun K hK => ?_)
  refine wp_build1 61 (.tmp 52) (cells := [.slice X4 n4 k4, .int .i64 m4]) rfl (r4.below bel) (by unfold Oper.wp; go_simp) ?_
  intro q5 N5 _ o5 e5 hN5 hM5
  have z5 : q4.heap.size ≤ q5.heap.size := e5.size
  refine hK.out _ _ (hHeld.to e5) (fun hHeld => ?_)
  clear hK K; try simp only [Act.put, aq0, aq1, aq2]
  refine readyT (rs := [2, 15]) (by kernel_rfl) (by simp) (all2 ?_ ?_)
  refine opT (i := 2) rfl (wanted_none rfl) (fun K hK => ?_)
  refine wp_build1 61 (.tmp 49) (cells := [.slice X1 n1 k1, .int .i64 m1]) rfl (r1.below bel) (by unfold Oper.wp; go_simp) ?_
  intro q2 N2 _ o2 e2 hN2 hM2
  have z2 : q5.heap.size ≤ q2.heap.size := e2.size
  refine hK.out _ _ (hHeld.to e2) (fun hHeld => ?_)
  clear hK K; try simp only [Act.put, aq0, aq1, aq2]
  refine goU 6 (fun _ => hHeld) ?_
  refine readyT (rs := [7, 15]) (by kernel_rfl) (by simp) (all2 ?_ ?_)
  refine opT (i := 7) rfl (wanted_none rfl) (fun K hK => ?_)
  have l7 := lp_two (A := lo) (B := a) (o2.below (bel : Below _ _ q2)) (o5.below (bel : Below _ _ q2))
  refine wp_build1 59 (.tmp 54) (cells := [.slice (some ⟨N2, 0, none⟩) 1 1, .slice (some ⟨N5, 0, none⟩) 1 1]) rfl l7 (by unfold Oper.wp; go_simp) ?_
  intro q7 N7 row7 o7 e7 hN7 hM7
  have z7 : q2.heap.size ≤ q7.heap.size := e7.size
  replace l7 := l7.below e7
  refine hK.out _ _ (hHeld.to e7) (fun hHeld => ?_)
  clear hK K; try simp only [Act.put, aq0, aq1, aq2]
  refine readyT (rs := [11, 15]) (by kernel_rfl) (by simp) (all2 ?_ ?_)
  rotate_left
  refine opT (i := 15) rfl (wanted_none rfl) (fun K hK => ?_)
  refine wp_alloc1 54 (cells := [.slice none 0 0, .slice none 0 0]) (by unfold Oper.wp; go_simp) ?_
  intro q15 g row15 e15 hg15 hM15
  have z15 : q7.heap.size ≤ q15.heap.size := e15.size
  refine hK.out _ _ (hHeld.to e15) (fun hHeld => ?_)
  clear hK K; try simp only [Act.put, aq0, aq1, aq2]
  rotate_left
  refine opT (i := 15) rfl (wanted_none rfl) (fun K hK => ?_)
  refine wp_alloc1 54 (cells := [.slice none 0 0, .slice none 0 0]) (by unfold Oper.wp; go_simp) ?_
  intro q15 g row15 e15 hg15 hM15
  have z15 : q2.heap.size ≤ q15.heap.size := e15.size
  refine hK.out _ _ (hHeld.to e15) (fun hHeld => ?_)
  clear hK K; try simp only [Act.put, aq0, aq1, aq2]
  refine readyT (rs := [7]) (by kernel_rfl) (by simp) (all1 ?_)
  refine opT (i := 7) rfl (wanted_none rfl) (fun K hK => ?_)
  have l7 := lp_two (A := lo) (B := a) (o2.below (bel : Below _ _ q15)) (o5.below (bel : Below _ _ q15))
  refine wp_build1 59 (.tmp 54) (cells := [.slice (some ⟨N2, 0, none⟩) 1 1, .slice (some ⟨N5, 0, none⟩) 1 1]) rfl l7 (by unfold Oper.wp; go_simp) ?_
  intro q7 N7 row7 o7 e7 hN7 hM7
  have z7 : q15.heap.size ≤ q7.heap.size := e7.size
  replace l7 := l7.below e7
  refine hK.out _ _ (hHeld.to e7) (fun hHeld => ?_)
  clear hK K; try simp only [Act.put, aq0, aq1, aq2]
  rotate_left
  refine opT (i := 15) rfl (wanted_none rfl) (fun K hK => ?_)
  refine wp_alloc1 54 (cells := [.slice none 0 0, .slice none 0 0]) (by unfold Oper.wp; go_simp) ?_
  intro q15 g row15 e15 hg15 hM15
  have z15 : q5.heap.size ≤ q15.heap.size := e15.size
  refine hK.out _ _ (hHeld.to e15) (fun hHeld => ?_)
  clear hK K; try simp only [Act.put, aq0, aq1, aq2]
  refine readyT (rs := [2]) (by kernel_rfl) (by simp) (all1 ?_)
  refine opT (i := 2) rfl (wanted_none rfl) (fun K hK => ?_)
  refine wp_build1 61 (.tmp 49) (cells := [.slice X1 n1 k1, .int .i64 m1]) rfl (r1.below bel) (by unfold Oper.wp; go_simp) ?_
  intro q2 N2 _ o2 e2 hN2 hM2
  have z2 : q15.heap.size ≤ q2.heap.size := e2.size
  refine hK.out _ _ (hHeld.to e2) (fun hHeld => ?_)
  clear hK K; try simp only [Act.put, aq0, aq1, aq2]
  refine goU 6 (fun _ => hHeld) ?_
  refine readyT (rs := [7]) (by kernel_rfl) (by simp) (all1 ?_)
  refine opT (i := 7) rfl (wanted_none rfl) (fun K hK => ?_)
  have l7 := lp_two (A := lo) (B := a) (o2.below (bel : Below _ _ q2)) (o5.below (bel : Below _ _ q2))
  refine wp_build1 59 (.tmp 54) (cells := [.slice (some ⟨N2, 0, none⟩) 1 1, .slice (some ⟨N5, 0, none⟩) 1 1]) rfl l7 (by unfold Oper.wp; go_simp) ?_
  intro q7 N7 row7 o7 e7 hN7 hM7
  have z7 : q2.heap.size ≤ q7.heap.size := e7.size
  replace l7 := l7.below e7
  refine hK.out _ _ (hHeld.to e7) (fun hHeld => ?_)
  clear hK K; try simp only [Act.put, aq0, aq1, aq2]
  rotate_left
  refine opT (i := 15) rfl (wanted_none rfl) (fun K hK => ?_)
  refine wp_alloc1 54 (cells := [.slice none 0 0, .slice none 0 0]) (by unfold Oper.wp; go_simp) ?_
  intro q15 g row15 e15 hg15 hM15
  have z15 : q4.heap.size ≤ q15.heap.size := e15.size
  refine hK.out _ _ (hHeld.to e15) (fun hHeld => ?_)
  clear hK K; try simp only [Act.put, aq0, aq1, aq2]
  refine readyT (rs := [2, 5]) (by kernel_rfl) (by simp) (all2 ?_ ?_)
  refine opT (i := 2) rfl (wanted_none rfl) (fun K hK => ?_)
  refine wp_build1 61 (.tmp 49) (cells := [.slice X1 n1 k1, .int .i64 m1]) rfl (r1.below bel) (by unfold Oper.wp; go_simp) ?_
  intro q2 N2 _ o2 e2 hN2 hM2
  have z2 : q15.heap.size ≤ q2.heap.size := e2.size
  refine hK.out _ _ (hHeld.to e2) (fun hHeld => ?_)
  clear hK K; try simp only [Act.put, aq0, aq1, aq2]
  refine readyT (rs := [5]) (by kernel_rfl) (by simp) (all1 ?_)
  refine opT (i := 5) rfl (wanted_none rfl) (fun K hK => ?_)
  refine wp_build1 61 (.tmp 52) (cells := [.slice X4 n4 k4, .int .i64 m4]) rfl (r4.below bel) (by unfold Oper.wp; go_simp) ?_
  intro q5 N5 _ o5 e5 hN5 hM5
  have z5 : q2.heap.size ≤ q5.heap.size := e5.size
  refine hK.out _ _ (hHeld.to e5) (fun hHeld => ?_)
  clear hK K; try simp only [Act.put, aq0, aq1, aq2]
  refine goU 6 (fun _ => hHeld) ?_
  refine readyT (rs := [7]) (by kernel_rfl) (by simp) (all1 ?_)
  refine opT (i := 7) rfl (wanted_none rfl) (fun K hK => ?_)
  have l7 := lp_two (A := lo) (B := a) (o2.below (bel : Below _ _ q5)) (o5.below (bel : Below _ _ q5))
  refine wp_build1 59 (.tmp 54) (cells := [.slice (some ⟨N2, 0, none⟩) 1 1, .slice (some ⟨N5, 0, none⟩) 1 1]) rfl l7 (by unfold Oper.wp; go_simp) ?_
  intro q7 N7 row7 o7 e7 hN7 hM7
  have z7 : q5.heap.size ≤ q7.heap.size := e7.size
  replace l7 := l7.below e7
  refine hK.out _ _ (hHeld.to e7) (fun hHeld => ?_)
  clear hK K; try simp only [Act.put, aq0, aq1, aq2]
  rotate_left
  refine opT (i := 5) rfl (wanted_none rfl) (fun K hK => ?_)
  refine wp_build1 61 (.tmp 52) (cells := [.slice X4 n4 k4, .int .i64 m4]) rfl (r4.below bel) (by unfold Oper.wp; go_simp) ?_
  intro q5 N5 _ o5 e5 hN5 hM5
  have z5 : q15.heap.size ≤ q5.heap.size := e5.size
  refine hK.out _ _ (hHeld.to e5) (fun hHeld => ?_)
  clear hK K; try simp only [Act.put, aq0, aq1, aq2]
  refine readyT (rs := [2]) (by kernel_rfl) (by simp) (all1 ?_)
  refine opT (i := 2) rfl (wanted_none rfl) (fun K hK => ?_)
  refine wp_build1 61 (.tmp 49) (cells := [.slice X1 n1 k1, .int .i64 m1]) rfl (r1.below bel) (by unfold Oper.wp; go_simp) ?_
  intro q2 N2 _ o2 e2 hN2 hM2
  have z2 : q5.heap.size ≤ q2.heap.size := e2.size
  refine hK.out _ _ (hHeld.to e2) (fun hHeld => ?_)
  clear hK K; try simp only [Act.put, aq0, aq1, aq2]
  refine goU 6 (fun _ => hHeld) ?_
  refine readyT (rs := [7]) (by kernel_rfl) (by simp) (all1 ?_)
  refine opT (i := 7) rfl (wanted_none rfl) (fun K hK => ?_)
  have l7 := lp_two (A := lo) (B := a) (o2.below (bel : Below _ _ q2)) (o5.below (bel : Below _ _ q2))
  refine wp_build1 59 (.tmp 54) (cells := [.slice (some ⟨N2, 0, none⟩) 1 1, .slice (some ⟨N5, 0, none⟩) 1 1]) rfl l7 (by unfold Oper.wp; go_simp) ?_
  intro q7 N7 row7 o7 e7 hN7 hM7
  have z7 : q2.heap.size ≤ q7.heap.size := e7.size
  replace l7 := l7.below e7
  refine hK.out _ _ (hHeld.to e7) (fun hHeld => ?_)
  clear hK K; try simp only [Act.put, aq0, aq1, aq2]
  rotate_left
  refine opT (i := 15) rfl (wanted_none rfl) (fun K hK => ?_)
  refine wp_alloc1 54 (cells := [.slice none 0 0, .slice none 0 0]) (by unfold Oper.wp; go_simp) ?_
  intro q15 g row15 e15 hg15 hM15
  have z15 : q1.heap.size ≤ q15.heap.size := e15.size
  refine hK.out _ _ (hHeld.to e15) (fun hHeld => ?_)
  clear hK K; try simp only [Act.put, aq0, aq1, aq2]
  refine readyT (rs := [2, 4]) (by kernel_rfl) (by simp) (all2 ?_ ?_)
  refine opT (i := 2) rfl (wanted_none rfl) (fun K hK => ?_)
  refine wp_build1 61 (.tmp 49) (cells := [.slice X1 n1 k1, .int .i64 m1]) rfl (r1.below bel) (by unfold Oper.wp; go_simp) ?_
  intro q2 N2 _ o2 e2 hN2 hM2
  have z2 : q15.heap.size ≤ q2.heap.size := e2.size
  refine hK.out _ _ (hHeld.to e2) (fun hHeld => ?_)
  clear hK K; try simp only [Act.put, aq0, aq1, aq2]
  refine readyT (rs := [4]) (by kernel_rfl) (by simp) (all1 ?_)
  refine opT (i := 4) rfl (wanted_none rfl) (fun K hK => ?_)
  go_simp
  refine (l1Const_c a HI.out.2.2 _).mono ?_
  rintro e q4 ⟨X4, n4, k4, m4, bs4, rfl, r4, -, hb4, e4⟩
  have z4 : q2.heap.size ≤ q4.heap.size := e4.size
  replace hb4 : ∀ y ∈ bs4, q2.heap.size ≤ y := hb4
  have l4 := Rep.lt _ r4
  go_wp2_with fail
  refine hK.out _ _ (hHeld.to e4) (fun hHeld => ?_)
  clear hK K; try simp only [Act.put, aq0, aq1, aq2]
  refine readyT (rs := [5]) (by kernel_rfl) (by simp) (all1 ?_)
  refine opT (i := 5) rfl (wanted_none rfl) (fun K hK => ?_)
  refine wp_build1 61 (.tmp 52) (cells := [.slice X4 n4 k4, .int .i64 m4]) rfl (r4.below bel) (by unfold Oper.wp; go_simp) ?_
  intro q5 N5 _ o5 e5 hN5 hM5
  have z5 : q4.heap.size ≤ q5.heap.size := e5.size
  refine hK.out _ _ (hHeld.to e5) (fun hHeld => ?_)
  clear hK K; try simp only [Act.put, aq0, aq1, aq2]
  refine goU 6 (fun _ => hHeld) ?_
  refine readyT (rs := [7]) (by kernel_rfl) (by simp) (all1 ?_)
  refine opT (i := 7) rfl (wanted_none rfl) (fun K hK => ?_)
  have l7 := lp_two (A := lo) (B := a) (o2.below (bel : Below _ _ q5)) (o5.below (bel : Below _ _ q5))
  refine wp_build1 59 (.tmp 54) (cells := [.slice (some ⟨N2, 0, none⟩) 1 1, .slice (some ⟨N5, 0, none⟩) 1 1]) rfl l7 (by unfold Oper.wp; go_simp) ?_
  intro q7 N7 row7 o7 e7 hN7 hM7
  have z7 : q5.heap.size ≤ q7.heap.size := e7.size
  replace l7 := l7.below e7
  refine hK.out _ _ (hHeld.to e7) (fun hHeld => ?_)
  clear hK K; try simp only [Act.put, aq0, aq1, aq2]
  rotate_left
  refine opT (i := 4) rfl (wanted_none rfl) (fun K hK => ?_)
  go_simp
  refine (l1Const_c a HI.out.2.2 _).mono ?_
  rintro e q4 ⟨X4, n4, k4, m4, bs4, rfl, r4, -, hb4, e4⟩
  have z4 : q15.heap.size ≤ q4.heap.size := e4.size
  replace hb4 : ∀ y ∈ bs4, q15.heap.size ≤ y := hb4
  have l4 := Rep.lt _ r4
  go_wp2_with fail
  refine hK.out _ _ (hHeld.to e4) (fun hHeld => ?_)
  clear hK K; try simp only [Act.put, aq0, aq1, aq2]
  refine readyT (rs := [2, 5]) (by kernel_rfl) (by simp) (all2 ?_ ?_)
  refine opT (i := 2) rfl (wanted_none rfl) (fun K hK => ?_)
  refine wp_build1 61 (.tmp 49) (cells := [.slice X1 n1 k1, .int .i64 m1]) rfl (r1.below bel) (by unfold Oper.wp; go_simp) ?_
  intro q2 N2 _ o2 e2 hN2 hM2
  have z2 : q4.heap.size ≤ q2.heap.size := e2.size
  refine hK.out _ _ (hHeld.to e2) (fun hHeld => ?_)
  clear hK K; try simp only [Act.put, aq0, aq1, aq2]
  refine readyT (rs := [5]) (by kernel_rfl) (by simp) (all1 ?_)
  refine opT (i := 5) rfl (wanted_none rfl) (fun K hK => ?_)
  refine wp_build1 61 (.tmp 52) (cells := [.slice X4 n4 k4, .int .i64 m4]) rfl (r4.below bel) (by unfold Oper.wp; go_simp) ?_
  intro q5 N5 _ o5 e5 hN5 hM5
  have z5 : q2.heap.size ≤ q5.heap.size := e5.size
  refine hK.out _ _ (hHeld.to e5) (fun hHeld => ?_)
  clear hK K; try simp only [Act.put, aq0, aq1, aq2]
  refine goU 6 (fun _ => hHeld) ?_
  refine readyT (rs := [7]) (by kernel_rfl) (by simp) (all1 ?_)
  refine opT (i := 7) rfl (wanted_none rfl) (fun K hK => ?_)
  have l7 := lp_two (A := lo) (B := a) (o2.below (bel : Below _ _ q5)) (o5.below (bel : Below _ _ q5))
  refine wp_build1 59 (.tmp 54) (cells := [.slice (some ⟨N2, 0, none⟩) 1 1, .slice (some ⟨N5, 0, none⟩) 1 1]) rfl l7 (by unfold Oper.wp; go_simp) ?_
  intro q7 N7 row7 o7 e7 hN7 hM7
  have z7 : q5.heap.size ≤ q7.heap.size := e7.size
  replace l7 := l7.below e7
  refine hK.out _ _ (hHeld.to e7) (fun hHeld => ?_)
  clear hK K; try simp only [Act.put, aq0, aq1, aq2]
  rotate_left
  refine opT (i := 5) rfl (wanted_none rfl) (fun K hK => ?_)
  refine wp_build1 61 (.tmp 52) (cells := [.slice X4 n4 k4, .int .i64 m4]) rfl (r4.below bel) (by unfold Oper.wp; go_simp) ?_
  intro q5 N5 _ o5 e5 hN5 hM5
  have z5 : q4.heap.size ≤ q5.heap.size := e5.size
  refine hK.out _ _ (hHeld.to e5) (fun hHeld => ?_)
  clear hK K; try simp only [Act.put, aq0, aq1, aq2]
  refine readyT (rs := [2]) (by kernel_rfl) (by simp) (all1 ?_)
  refine opT (i := 2) rfl (wanted_none rfl) (fun K hK => ?_)
  refine wp_build1 61 (.tmp 49) (cells := [.slice X1 n1 k1, .int .i64 m1]) rfl (r1.below bel) (by unfold Oper.wp; go_simp) ?_
  intro q2 N2 _ o2 e2 hN2 hM2
  have z2 : q5.heap.size ≤ q2.heap.size := e2.size
  refine hK.out _ _ (hHeld.to e2) (fun hHeld => ?_)
  clear hK K; try simp only [Act.put, aq0, aq1, aq2]
  refine goU 6 (fun _ => hHeld) ?_
  refine readyT (rs := [7]) (by kernel_rfl) (by simp) (all1 ?_)
  refine opT (i := 7) rfl (wanted_none rfl) (fun K hK => ?_)
  have l7 := lp_two (A := lo) (B := a) (o2.below (bel : Below _ _ q2)) (o5.below (bel : Below _ _ q2))
  refine wp_build1 59 (.tmp 54) (cells := [.slice (some ⟨N2, 0, none⟩) 1 1, .slice (some ⟨N5, 0, none⟩) 1 1]) rfl l7 (by unfold Oper.wp; go_simp) ?_
  intro q7 N7 row7 o7 e7 hN7 hM7
  have z7 : q2.heap.size ≤ q7.heap.size := e7.size
  replace l7 := l7.below e7
  refine hK.out _ _ (hHeld.to e7) (fun hHeld => ?_)
  clear hK K; try simp only [Act.put, aq0, aq1, aq2]
  rotate_left
  refine opT (i := 15) rfl (wanted_none rfl) (fun K hK => ?_)
  refine wp_alloc1 54 (cells := [.slice none 0 0, .slice none 0 0]) (by unfold Oper.wp; go_simp) ?_
  intro q15 g row15 e15 hg15 hM15
  replace e15 : Below W3.heap.size W3 q15 := of_drew e15
  replace hg15 : W3.heap.size ≤ g := hg15
  have z15 : W3.heap.size ≤ q15.heap.size := e15.size
  refine hK.out _ _ ((show Box2 W3 _ _ _ from hHeld).to e15) (fun hHeld => ?_)
  clear hK K; try simp only [Act.put, aq0, aq1, aq2]
  refine readyT (rs := [1]) (by kernel_rfl) (by simp) (all1 ?_)
  refine opT (i := 1) rfl (wanted_none rfl) (fun K hK => ?_)
  go_simp
  refine (l1Const_c lo HI.out.1 _).mono ?_
  rintro e q1 ⟨X1, n1, k1, m1, bs1, rfl, r1, -, hb1, e1⟩
  have z1 : q15.heap.size ≤ q1.heap.size := e1.size
  replace hb1 : ∀ y ∈ bs1, q15.heap.size ≤ y := hb1
  have l1 := Rep.lt _ r1
  go_wp2_with fail
  refine hK.out _ _ (hHeld.to e1) (fun hHeld => ?_)
  clear hK K; try simp only [Act.put, aq0, aq1, aq2]
  refine readyT (rs := [2, 4]) (by kernel_rfl) (by simp) (all2 ?_ ?_)
  refine opT (i := 2) rfl (wanted_none rfl) (fun K hK => ?_)
  refine wp_build1 61 (.tmp 49) (cells := [.slice X1 n1 k1, .int .i64 m1]) rfl (r1.below bel) (by unfold Oper.wp; go_simp) ?_
  intro q2 N2 _ o2 e2 hN2 hM2
  have z2 : q1.heap.size ≤ q2.heap.size := e2.size
  refine hK.out _ _ (hHeld.to e2) (fun hHeld => ?_)
  clear hK K; try simp only [Act.put, aq0, aq1, aq2]
  refine readyT (rs := [4]) (by kernel_rfl) (by simp) (all1 ?_)
  refine opT (i := 4) rfl (wanted_none rfl) (fun K hK => ?_)
  go_simp
  refine (l1Const_c a HI.out.2.2 _).mono ?_
  rintro e q4 ⟨X4, n4, k4, m4, bs4, rfl, r4, -, hb4, e4⟩
  have z4 : q2.heap.size ≤ q4.heap.size := e4.size
  replace hb4 : ∀ y ∈ bs4, q2.heap.size ≤ y := hb4
  have l4 := Rep.lt _ r4
  go_wp2_with fail
  refine hK.out _ _ (hHeld.to e4) (fun hHeld => ?_)
  clear hK K; try simp only [Act.put, aq0, aq1, aq2]
  refine readyT (rs := [5]) (by kernel_rfl) (by simp) (all1 ?_)
  refine opT (i := 5) rfl (wanted_none rfl) (fun K hK => ?_)
  refine wp_build1 61 (.tmp 52) (cells := [.slice X4 n4 k4, .int .i64 m4]) rfl (r4.below bel) (by unfold Oper.wp; go_simp) ?_
  intro q5 N5 _ o5 e5 hN5 hM5
  have z5 : q4.heap.size ≤ q5.heap.size := e5.size
  refine hK.out _ _ (hHeld.to e5) (fun hHeld => ?_)
  clear hK K; try simp only [Act.put, aq0, aq1, aq2]
  refine goU 6 (fun _ => hHeld) ?_
  refine readyT (rs := [7]) (by kernel_rfl) (by simp) (all1 ?_)
  refine opT (i := 7) rfl (wanted_none rfl) (fun K hK => ?_)
  have l7 := lp_two (A := lo) (B := a) (o2.below (bel : Below _ _ q5)) (o5.below (bel : Below _ _ q5))
  refine wp_build1 59 (.tmp 54) (cells := [.slice (some ⟨N2, 0, none⟩) 1 1, .slice (some ⟨N5, 0, none⟩) 1 1]) rfl l7 (by unfold Oper.wp; go_simp) ?_
  intro q7 N7 row7 o7 e7 hN7 hM7
  have z7 : q5.heap.size ≤ q7.heap.size := e7.size
  replace l7 := l7.below e7
  refine hK.out _ _ (hHeld.to e7) (fun hHeld => ?_)
  clear hK K; try simp only [Act.put, aq0, aq1, aq2]
  rotate_left
  refine opT (i := 4) rfl (wanted_none rfl) (fun K hK => ?_)
  go_simp
  refine (l1Const_c a HI.out.2.2 _).mono ?_
  rintro e q4 ⟨X4, n4, k4, m4, bs4, rfl, r4, -, hb4, e4⟩
  have z4 : q1.heap.size ≤ q4.heap.size := e4.size
  replace hb4 : ∀ y ∈ bs4, q1.heap.size ≤ y := hb4
  have l4 := Rep.lt _ r4
  go_wp2_with fail
  refine hK.out _ _ (hHeld.to e4) (fun hHeld => ?_)
  clear hK K; try simp only [Act.put, aq0, aq1, aq2]
  refine readyT (rs := [2, 5]) (by kernel_rfl) (by simp) (all2 ?_ ?_)
  refine opT (i := 2) rfl (wanted_none rfl) (fun K hK => ?_)
  refine wp_build1 61 (.tmp 49) (cells := [.slice X1 n1 k1, .int .i64 m1]) rfl (r1.below bel) (by unfold Oper.wp; go_simp) ?_
  intro q2 N2 _ o2 e2 hN2 hM2
  have z2 : q4.heap.size ≤ q2.heap.size := e2.size
  refine hK.out _ _ (hHeld.to e2) (fun hHeld => ?_)
  clear hK K; try simp only [Act.put, aq0, aq1, aq2]
  refine readyT (rs := [5]) (by kernel_rfl) (by simp) (all1 ?_)
  refine opT (i := 5) rfl (wanted_none rfl) (fun K hK => ?_)
  refine wp_build1 61 (.tmp 52) (cells := [.slice X4 n4 k4, .int .i64 m4]) rfl (r4.below bel) (by unfold Oper.wp; go_simp) ?_
  intro q5 N5 _ o5 e5 hN5 hM5
  have z5 : q2.heap.size ≤ q5.heap.size := e5.size
  refine hK.out _ _ (hHeld.to e5) (fun hHeld => ?_)
  clear hK K; try simp only [Act.put, aq0, aq1, aq2]
  refine goU 6 (fun _ => hHeld) ?_
  refine readyT (rs := [7]) (by kernel_rfl) (by simp) (all1 ?_)
  refine opT (i := 7) rfl (wanted_none rfl) (fun K hK => ?_)
  have l7 := lp_two (A := lo) (B := a) (o2.below (bel : Below _ _ q5)) (o5.below (bel : Below _ _ q5))
  refine wp_build1 59 (.tmp 54) (cells := [.slice (some ⟨N2, 0, none⟩) 1 1, .slice (some ⟨N5, 0, none⟩) 1 1]) rfl l7 (by unfold Oper.wp; go_simp) ?_
  intro q7 N7 row7 o7 e7 hN7 hM7
  have z7 : q5.heap.size ≤ q7.heap.size := e7.size
  replace l7 := l7.below e7
  refine hK.out _ _ (hHeld.to e7) (fun hHeld => ?_)
  clear hK K; try simp only [Act.put, aq0, aq1, aq2]
  rotate_left
  refine opT (i := 5) rfl (wanted_none rfl) (fun K hK => ?_)
  refine wp_build1 61 (.tmp 52) (cells := [.slice X4 n4 k4, .int .i64 m4]) rfl (r4.below bel) (by unfold Oper.wp; go_simp) ?_
  intro q5 N5 _ o5 e5 hN5 hM5
  have z5 : q4.heap.size ≤ q5.heap.size := e5.size
  refine hK.out _ _ (hHeld.to e5) (fun hHeld => ?_)
  clear hK K; try simp only [Act.put, aq0, aq1, aq2]
  refine readyT (rs := [2]) (by kernel_rfl) (by simp) (all1 ?_)
  refine opT (i := 2) rfl (wanted_none rfl) (fun K hK => ?_)
  refine wp_build1 61 (.tmp 49) (cells := [.slice X1 n1 k1, .int .i64 m1]) rfl (r1.below bel) (by unfold Oper.wp; go_simp) ?_
  intro q2 N2 _ o2 e2 hN2 hM2
  have z2 : q5.heap.size ≤ q2.heap.size := e2.size
  refine hK.out _ _ (hHeld.to e2) (fun hHeld => ?_)
  clear hK K; try simp only [Act.put, aq0, aq1, aq2]
  refine goU 6 (fun _ => hHeld) ?_
  refine readyT (rs := [7]) (by kernel_rfl) (by simp) (all1 ?_)
  refine opT (i := 7) rfl (wanted_none rfl) (fun K hK => ?_)
  have l7 := lp_two (A := lo) (B := a) (o2.below (bel : Below _ _ q2)) (o5.below (bel : Below _ _ q2))
  refine wp_build1 59 (.tmp 54) (cells := [.slice (some ⟨N2, 0, none⟩) 1 1, .slice (some ⟨N5, 0, none⟩) 1 1]) rfl l7 (by unfold Oper.wp; go_simp) ?_
  intro q7 N7 row7 o7 e7 hN7 hM7
  have z7 : q2.heap.size ≤ q7.heap.size := e7.size
  replace l7 := l7.below e7
  refine hK.out _ _ (hHeld.to e7) (fun hHeld => ?_)
  clear hK K; try simp only [Act.put, aq0, aq1, aq2]
  rotate_left
  all_goals
   first
    |(
     refine readyT (rs := [11]) (by kernel_rfl) (by simp) (all1 ?_)
     refine opT (i := 11) rfl (wanted_none rfl) (fun K hK => ?_)
     have hC11 : ∀ y, (y ∈ (N2 :: bs1) ++ (N5 :: bs4) ∨ y < W3.heap.size) → y < N7 := fun y hy => by rcases hy with hy | hy; (rcases List.mem_append.1 hy with hy | hy; (rcases List.mem_cons.1 hy with rfl | hy; omega; (have := l1 y hy; omega)); (rcases List.mem_cons.1 hy with rfl | hy; omega; (have := l4 y hy; omega))); omega
     refine wp_append_S (C := fun y => y ∈ (N2 :: bs1) ++ (N5 :: bs4) ∨ y < W3.heap.size) (B := N7) (xs := [(⟨[affConst lo], [affConst a]⟩ : Lp).d]) (ys := p.parts[k].nest.tail.map Lp.d) (.tmp 55) (.tmp 58) _ rfl _ Tryz.underlying51 Tryz.infoLoop rfl (by decide) rfl (GrowS.one (row7.to bel) (l7.below bel) rfl (fun y hy => .inl hy)) rfl (HRT.out.1.below bel) (fun y hy => by obtain ⟨z, _, rfl⟩ := List.mem_map.1 hy; rfl) (fun y hy => .inr (HRT.out.2 y hy)) hC11 (by simp only [List.length_singleton, List.length_map, List.length_tail]; omega) (by omega) ?_
     intro v11 q11 hG11 b11 t11
     have z11 := b11.size
     have T11 := t11.touch.mono (bs' := [N7]) (fun y hy => by rw [own_some hy]; exact List.mem_singleton.2 rfl)
     have own11 := fun (y : Nat) (hy : v11.ownBlock = some y) => And.intro (t11.own y hy) (hG11.own_ge y hy).2
     have BQ : Below W3.heap.size W3 q11 := Below.trans bel (b11.mono (by omega))
     obtain ⟨A11, c11, bs11, hf11, r11', hbs11⟩ := hG11.rep
     have r11 : Rep q11 (sls Lp.d ((⟨[affConst lo], [affConst a]⟩ : Lp) :: p.parts[k].nest.tail)) [.slice A11 ((⟨[affConst lo], [affConst a]⟩ : Lp) :: p.parts[k].nest.tail).length c11] bs11 := by simpa [sls] using r11'
     obtain ⟨n11, hn11⟩ : ∃ n, n = ((⟨[affConst lo], [affConst a]⟩ : Lp) :: p.parts[k].nest.tail).length := ⟨_, rfl⟩
     replace hf11 : v11 = .slice A11 n11 c11 := by rw [hf11, hn11]; simp
     rw [← hn11] at r11
     have HN11 := Lib.hid hn11
     have HR11 := Lib.hid (And.intro r11 (And.intro hbs11 own11))
     have HBQ := Lib.hid BQ
     subst hf11
     clear hn11 r11' hG11 hC11 r11 hbs11 own11 BQ
     refine hK.out _ _ (T11.box2 hHeld (by simp; omega)) (fun hHeld => ?_)
     clear hK K; try simp only [Act.put, aq0, aq1, aq2]
     refine goU 14 (fun _ => hHeld) ?_
     refine readyT (rs := [16]) (by kernel_rfl) (by simp) (all1 ?_)
     refine opTT (i := 16) rfl (wanted_none rfl) (by kernel_rfl) (fun K hK => ?_)
     refine wp_store_row 54 (.tmp 12) (.tmp 62) rfl (vs := [.slice A11 n11 c11, .slice A2g p.parts[k].body.length c2g]) rfl rfl ((row15.to bel).of_block (T11.block g (by omega) (by simp; omega))) rfl Tryz.sizePart2 rfl ?_
     intro q16 r16 t16
     refine hK.out _ _ ?_
     clear hK K; try simp only [Act.put, aq0, aq1, aq2]
     refine wpAnyT_done (by kernel_rfl) ?_ _
     refine NoPanic.normal ?_
     have B16 := HBQ.out
     have B17 : Below W3.heap.size W3 q16 := B16.trans (t16.below B16.size (by simp; omega))
     have hne : ∀ y ∈ bs11, y ≠ g := fun y hy => by rcases HR11.out.2.1 y hy with hy | hy; (rcases hy with hy | hy; (rcases List.mem_append.1 hy with hy | hy; (rcases List.mem_cons.1 hy with rfl | hy; omega; (have := l1 y hy; have := hb1 y hy; omega)); (rcases List.mem_cons.1 hy with rfl | hy; omega; (have := l4 y hy; have := hb4 y hy; omega))); omega); (have h5 := HR11.out.2.2 y hy; rcases h5 with ⟨h5 | h5, h6⟩; (have h7 : some N7 = some y := h5; have h8 := Option.some.inj h7; omega); omega)
     have RN := HR11.out.1
     have HF := Lib.hid (And.intro r16 (And.intro (Rep.keep _ RN (t16.keeps (l := bs11) fun y hy => ⟨Rep.lt _ RN y hy, by simpa using hne y hy⟩)) (And.intro (Rep.keep _ HRB.out (Keeps.of_below B17 (Rep.lt _ HRB.out))) B17)))
     clear RN hne B16 B17 r16 t16
     go_wp2
     go_meet
     case rel => exact ⟨g, A11, n11, c11, bs11 ++ d2g, rfl, HF.out.1, Rep.prt_iff.2 ⟨A11, c11, A2g, c2g, bs11, d2g, by rw [HN11.out], rfl, by rw [← HN11.out]; exact HF.out.2.1, HF.out.2.2.1⟩, HF.out.2.2.2⟩)
    |(
     refine opT (i := 11) rfl (wanted_none rfl) (fun K hK => ?_)
     have hC11 : ∀ y, (y ∈ (N2 :: bs1) ++ (N5 :: bs4) ∨ y < W3.heap.size) → y < N7 := fun y hy => by rcases hy with hy | hy; (rcases List.mem_append.1 hy with hy | hy; (rcases List.mem_cons.1 hy with rfl | hy; omega; (have := l1 y hy; omega)); (rcases List.mem_cons.1 hy with rfl | hy; omega; (have := l4 y hy; omega))); omega
     refine wp_append_S (C := fun y => y ∈ (N2 :: bs1) ++ (N5 :: bs4) ∨ y < W3.heap.size) (B := N7) (xs := [(⟨[affConst lo], [affConst a]⟩ : Lp).d]) (ys := p.parts[k].nest.tail.map Lp.d) (.tmp 55) (.tmp 58) _ rfl _ Tryz.underlying51 Tryz.infoLoop rfl (by decide) rfl (GrowS.one (row7.to bel) (l7.below bel) rfl (fun y hy => .inl hy)) rfl (HRT.out.1.below bel) (fun y hy => by obtain ⟨z, _, rfl⟩ := List.mem_map.1 hy; rfl) (fun y hy => .inr (HRT.out.2 y hy)) hC11 (by simp only [List.length_singleton, List.length_map, List.length_tail]; omega) (by omega) ?_
     intro v11 q11 hG11 b11 t11
     have z11 := b11.size
     have T11 := t11.touch.mono (bs' := [N7]) (fun y hy => by rw [own_some hy]; exact List.mem_singleton.2 rfl)
     have own11 := fun (y : Nat) (hy : v11.ownBlock = some y) => And.intro (t11.own y hy) (hG11.own_ge y hy).2
     have BQ : Below W3.heap.size W3 q11 := Below.trans bel (b11.mono (by omega))
     obtain ⟨A11, c11, bs11, hf11, r11', hbs11⟩ := hG11.rep
     have r11 : Rep q11 (sls Lp.d ((⟨[affConst lo], [affConst a]⟩ : Lp) :: p.parts[k].nest.tail)) [.slice A11 ((⟨[affConst lo], [affConst a]⟩ : Lp) :: p.parts[k].nest.tail).length c11] bs11 := by simpa [sls] using r11'
     obtain ⟨n11, hn11⟩ : ∃ n, n = ((⟨[affConst lo], [affConst a]⟩ : Lp) :: p.parts[k].nest.tail).length := ⟨_, rfl⟩
     replace hf11 : v11 = .slice A11 n11 c11 := by rw [hf11, hn11]; simp
     rw [← hn11] at r11
     have HN11 := Lib.hid hn11
     have HR11 := Lib.hid (And.intro r11 (And.intro hbs11 own11))
     have HBQ := Lib.hid BQ
     subst hf11
     clear hn11 r11' hG11 hC11 r11 hbs11 own11 BQ
     refine hK.out _ _ (T11.box2 hHeld (by simp; omega)) (fun hHeld => ?_)
     clear hK K; try simp only [Act.put, aq0, aq1, aq2]
     refine goU 14 (fun _ => hHeld) ?_
     refine readyT (rs := [15]) (by kernel_rfl) (by simp) (all1 ?_)
     refine opT (i := 15) rfl (wanted_none rfl) (fun K hK => ?_)
     refine wp_alloc1 54 (cells := [.slice none 0 0, .slice none 0 0]) (by unfold Oper.wp; go_simp) ?_
     intro q15 g row15 e15 hg15 hM15
     have z15 := e15.size
     refine hK.out _ _ (hHeld.to e15) (fun hHeld => ?_)
     clear hK K; try simp only [Act.put, aq0, aq1, aq2]
     refine readyT (rs := [16]) (by kernel_rfl) (by simp) (all1 ?_)
     refine opTT (i := 16) rfl (wanted_none rfl) (by kernel_rfl) (fun K hK => ?_)
     refine wp_store_row 54 (.tmp 12) (.tmp 62) rfl (vs := [.slice A11 n11 c11, .slice A2g p.parts[k].body.length c2g]) rfl rfl row15 rfl Tryz.sizePart2 rfl ?_
     intro q16 r16 t16
     refine hK.out _ _ ?_
     clear hK K; try simp only [Act.put, aq0, aq1, aq2]
     refine wpAnyT_done (by kernel_rfl) ?_ _
     refine NoPanic.normal ?_
     have B16 := (below_tr HBQ.out e15)
     have B17 : Below W3.heap.size W3 q16 := B16.trans (t16.below B16.size (by simp; omega))
     have hne : ∀ y ∈ bs11, y ≠ g := fun y hy => by rcases HR11.out.2.1 y hy with hy | hy; (rcases hy with hy | hy; (rcases List.mem_append.1 hy with hy | hy; (rcases List.mem_cons.1 hy with rfl | hy; omega; (have := l1 y hy; have := hb1 y hy; omega)); (rcases List.mem_cons.1 hy with rfl | hy; omega; (have := l4 y hy; have := hb4 y hy; omega))); omega); (have h5 := HR11.out.2.2 y hy; rcases h5 with ⟨h5 | h5, h6⟩; (have h7 : some N7 = some y := h5; have h8 := Option.some.inj h7; omega); omega)
     have RN := (HR11.out.1.below e15)
     have HF := Lib.hid (And.intro r16 (And.intro (Rep.keep _ RN (t16.keeps (l := bs11) fun y hy => ⟨Rep.lt _ RN y hy, by simpa using hne y hy⟩)) (And.intro (Rep.keep _ HRB.out (Keeps.of_below B17 (Rep.lt _ HRB.out))) B17)))
     clear RN hne B16 B17 r16 t16
     go_wp2
     go_meet
     case rel => exact ⟨g, A11, n11, c11, bs11 ++ d2g, rfl, HF.out.1, Rep.prt_iff.2 ⟨A11, c11, A2g, c2g, bs11, d2g, by rw [HN11.out], rfl, by rw [← HN11.out]; exact HF.out.2.1, HF.out.2.2.1⟩, HF.out.2.2.2⟩)
 case rest =>
  obtain ⟨g8, A8, n8, c8, bs8, rfl, row8, rp8, bw8⟩ := hcut
  rename World => V8
  have HR8 := Lib.hid (And.intro row8 rp8)
  have hz8 := bw8.size
  have HRT8 := Lib.hid (And.intro (HRT.out.1.below bw8) (fun y hy => Nat.lt_of_lt_of_le (HRT.out.2 y hy) hz8 : ∀ y ∈ bt, y < V8.heap.size))
  have HRB8 := Lib.hid (HRB.out.below bw8)
  have HXB8 := Lib.hid (HXB.out.to bw8)
  have HT8 := Lib.hid (below_tr HT3.out bw8)
  have XA8 := Lib.hid (XA3.out.to bw8)
  have HXR8 := Lib.hid (HXR.out.to bw8)
  have HS8 := Lib.hid (below_tr S3 bw8)
  clear HRT HRB HXB HT3 XA3 HXR S3 row8 rp8 bw8
  go_upto_region 9 with (fail)
  go_cut [13] (fun u13 wc => ∃ (g : Nat) (A : Option Addr) (n c : Nat) (bsP : List Nat), u13 = .pointer (some ⟨g, 0, none⟩) ∧ Row wc g 54 [.slice A n c, .slice A2g p.parts[k].body.length c2g] ∧ Rep wc (⟨⟨[affConst a], [affConst hi]⟩ :: p.parts[k].nest.tail, p.parts[k].body⟩ : Prt).d [.slice A n c, .slice A2g p.parts[k].body.length c2g] bsP ∧ Below V8.heap.size V8 wc)
  case first =>
   refine wp_region_noPanic ?_
   refine wp_regionT (S := fun w' => Box2 w' w2.heap.size (.slice (some ⟨be, oe, none⟩) p.parts[k].nest.length c1g) (.slice A2g p.parts[k].body.length c2g)) 16 (by kernel_rfl) (HXB8.out) (fun hHeld => ?_)
   refine goU 0 (fun _ => hHeld) ?_
   refine goU 3 (fun _ => hHeld) ?_
   refine goU 8 (fun _ => hHeld) ?_
   refine goT 9 hHeld ?_
   refine takeU (i := 10) (v := ?_) rfl rfl (by kernel_rfl) (by kernel_rfl) (by kernel_rfl) (by kernel_rfl) (fun _ _ _ h => h) ?_ (fun _ => hHeld) ?_
   rotate_left 1
   ·intro w; go_simp
    try simp only [HA3, eq_true h1n, if_true]
    try with_reducible rfl
   simp only [Act.put, aq0, aq1, aq2]
   refine goU 12 (fun _ => hHeld) ?_
   refine goT 13 hHeld ?_
   refine readyT (rs := [1, 15]) (by kernel_rfl) (by simp) (all2 ?_ ?_)
   refine opT (i := 1) rfl (wanted_none rfl) (fun K hK => ?_)
   go_simp
   refine (l1Const_c a HI.out.2.2 _).mono ?_
   rintro e q1 ⟨X1, n1, k1, m1, bs1, rfl, r1, -, hb1, e1⟩
   replace e1 : Below V8.heap.size V8 q1 := of_drew e1
   have z1 : V8.heap.size ≤ q1.heap.size := e1.size
   replace hb1 : ∀ y ∈ bs1, V8.heap.size ≤ y := hb1
   have l1 := Rep.lt _ r1
   go_wp2_with fail
   refine hK.out _ _ ((show Box2 V8 _ _ _ from hHeld).to e1) (fun hHeld => ?_)
   clear hK K; try simp only [Act.put, aq0, aq1, aq2]
   refine readyT (rs := [2, 4, 15]) (by kernel_rfl) (by simp) (all3 ?_ ?_ ?_)
   refine opT (i := 2) rfl (wanted_none rfl) (fun K hK => ?_)
   refine wp_build1 61 (.tmp 64) (cells := [.slice X1 n1 k1, .int .i64 m1]) rfl (r1.below bel) (by unfold Oper.wp; go_simp) ?_
   intro q2 N2 _ o2 e2 hN2 hM2
   have z2 : q1.heap.size ≤ q2.heap.size := e2.size
   refine hK.out _ _ (hHeld.to e2) (fun hHeld => ?_)
   clear hK K; try simp only [Act.put, aq0, aq1, aq2]
   refine readyT (rs := [4, 15]) (by kernel_rfl) (by simp) (all2 ?_ ?_)
   refine opT (i := 4) rfl (wanted_none rfl) (fun K hK => ?_)
   go_simp
   refine (l1Const_c hi HI.out.2.1 _).mono ?_
   rintro e q4 ⟨X4, n4, k4, m4, bs4, rfl, r4, -, hb4, e4⟩
   have z4 : q2.heap.size ≤ q4.heap.size := e4.size
   replace hb4 : ∀ y ∈ bs4, q2.heap.size ≤ y := hb4
   have l4 := Rep.lt _ r4
   go_wp2_with fail
   refine hK.out _ _ (hHeld.to e4) (fun hHeld => ?_)
   clear hK K; try simp only [Act.put, aq0, aq1, aq2]
   refine readyT (rs := [5, 15]) (by kernel_rfl) (by simp) (all2 ?_ ?_)
   refine opT (i := 5) rfl (wanted_none rfl) (fun K hK => ?_)
   refine wp_build1 61 (.tmp 67) (cells := [.slice X4 n4 k4, .int .i64 m4]) rfl (r4.below bel) (by unfold Oper.wp; go_simp) ?_
   intro q5 N5 _ o5 e5 hN5 hM5
   have z5 : q4.heap.size ≤ q5.heap.size := e5.size
   refine hK.out _ _ (hHeld.to e5) (fun hHeld => ?_)
   clear hK K; try simp only [Act.put, aq0, aq1, aq2]
   refine goU 6 (fun _ => hHeld) ?_
   refine readyT (rs := [7, 15]) (by kernel_rfl) (by simp) (all2 ?_ ?_)
   refine opT (i := 7) rfl (wanted_none rfl) (fun K hK => ?_)
   have l7 := lp_two (A := a) (B := hi) (o2.below (bel : Below _ _ q5)) (o5.below (bel : Below _ _ q5))
   refine wp_build1 59 (.tmp 69) (cells := [.slice (some ⟨N2, 0, none⟩) 1 1, .slice (some ⟨N5, 0, none⟩) 1 1]) rfl l7 (by unfold Oper.wp; go_simp) ?_
   intro q7 N7 row7 o7 e7 hN7 hM7
   have z7 : q5.heap.size ≤ q7.heap.size := e7.size
   replace l7 := l7.below e7
   refine hK.out _ _ (hHeld.to e7) (fun hHeld => ?_)
   clear hK K; try simp only [Act.put, aq0, aq1, aq2]
   refine readyT (rs := [11, 15]) (by kernel_rfl) (by simp) (all2 ?_ ?_)
   rotate_left
   refine opT (i := 15) rfl (wanted_none rfl) (fun K hK => ?_)
   refine wp_alloc1 54 (cells := [.slice none 0 0, .slice none 0 0]) (by unfold Oper.wp; go_simp) ?_
   intro q15 g row15 e15 hg15 hM15
   have z15 : q7.heap.size ≤ q15.heap.size := e15.size
   refine hK.out _ _ (hHeld.to e15) (fun hHeld => ?_)
   clear hK K; try simp only [Act.put, aq0, aq1, aq2]
   rotate_left
   refine opT (i := 15) rfl (wanted_none rfl) (fun K hK => ?_)
   refine wp_alloc1 54 (cells := [.slice none 0 0, .slice none 0 0]) (by unfold Oper.wp; go_simp) ?_
   intro q15 g row15 e15 hg15 hM15
   have z15 : q5.heap.size ≤ q15.heap.size := e15.size
   refine hK.out _ _ (hHeld.to e15) (fun hHeld => ?_)
   clear hK K; try simp only [Act.put, aq0, aq1, aq2]
   refine readyT (rs := [7]) (by kernel_rfl) (by simp) (all1 ?_)
   refine opT (i := 7) rfl (wanted_none rfl) (fun K hK => ?_)
   have l7 := lp_two (A := a) (B := hi) (o2.below (bel : Below _ _ q15)) (o5.below (bel : Below _ _ q15))
   refine wp_build1 59 (.tmp 69) (cells := [.slice (some ⟨N2, 0, none⟩) 1 1, .slice (some ⟨N5, 0, none⟩) 1 1]) rfl l7 (by unfold Oper.wp; go_simp) ?_
   intro q7 N7 row7 o7 e7 hN7 hM7
   have z7 : q15.heap.size ≤ q7.heap.size := e7.size
   replace l7 := l7.below e7
   refine hK.out _ _ (hHeld.to e7) (fun hHeld => ?_)
   clear hK K; try simp only [Act.put, aq0, aq1, aq2]
   rotate_left
   refine opT (i := 15) rfl (wanted_none rfl) (fun K hK => ?_)
   refine wp_alloc1 54 (cells := [.slice none 0 0, .slice none 0 0]) (by unfold Oper.wp; go_simp) ?_
   intro q15 g row15 e15 hg15 hM15
   have z15 : q4.heap.size ≤ q15.heap.size := e15.size
   refine hK.out _ _ (hHeld.to e15) (fun hHeld => ?_)
   clear hK K; try simp only [Act.put, aq0, aq1, aq2]
   refine readyT (rs := [5]) (by kernel_rfl) (by simp) (all1 ?_)
   refine opT (i := 5) rfl (wanted_none rfl) (fun K hK => ?_)
   refine wp_build1 61 (.tmp 67) (cells := [.slice X4 n4 k4, .int .i64 m4]) rfl (r4.below bel) (by unfold Oper.wp; go_simp) ?_
   intro q5 N5 _ o5 e5 hN5 hM5
   have z5 : q15.heap.size ≤ q5.heap.size := e5.size
   refine hK.out _ _ (hHeld.to e5) (fun hHeld => ?_)
   clear hK K; try simp only [Act.put, aq0, aq1, aq2]
   refine goU 6 (fun _ => hHeld) ?_
   refine readyT (rs := [7]) (by kernel_rfl) (by simp) (all1 ?_)
   refine opT (i := 7) rfl (wanted_none rfl) (fun K hK => ?_)
   have l7 := lp_two (A := a) (B := hi) (o2.below (bel : Below _ _ q5)) (o5.below (bel : Below _ _ q5))
   refine wp_build1 59 (.tmp 69) (cells := [.slice (some ⟨N2, 0, none⟩) 1 1, .slice (some ⟨N5, 0, none⟩) 1 1]) rfl l7 (by unfold Oper.wp; go_simp) ?_
   intro q7 N7 row7 o7 e7 hN7 hM7
   have z7 : q5.heap.size ≤ q7.heap.size := e7.size
   replace l7 := l7.below e7
   refine hK.out _ _ (hHeld.to e7) (fun hHeld => ?_)
   clear hK K; try simp only [Act.put, aq0, aq1, aq2]
   rotate_left
   refine opT (i := 15) rfl (wanted_none rfl) (fun K hK => ?_)
   refine wp_alloc1 54 (cells := [.slice none 0 0, .slice none 0 0]) (by unfold Oper.wp; go_simp) ?_
   intro q15 g row15 e15 hg15 hM15
   have z15 : q2.heap.size ≤ q15.heap.size := e15.size
   refine hK.out _ _ (hHeld.to e15) (fun hHeld => ?_)
   clear hK K; try simp only [Act.put, aq0, aq1, aq2]
   refine readyT (rs := [4]) (by kernel_rfl) (by simp) (all1 ?_)
   refine opT (i := 4) rfl (wanted_none rfl) (fun K hK => ?_)
   go_simp
   refine (l1Const_c hi HI.out.2.1 _).mono ?_
   rintro e q4 ⟨X4, n4, k4, m4, bs4, rfl, r4, -, hb4, e4⟩
   have z4 : q15.heap.size ≤ q4.heap.size := e4.size
   replace hb4 : ∀ y ∈ bs4, q15.heap.size ≤ y := hb4
   have l4 := Rep.lt _ r4
   go_wp2_with fail
   refine hK.out _ _ (hHeld.to e4) (fun hHeld => ?_)
   clear hK K; try simp only [Act.put, aq0, aq1, aq2]
   refine readyT (rs := [5]) (by kernel_rfl) (by simp) (all1 ?_)
   refine opT (i := 5) rfl (wanted_none rfl) (fun K hK => ?_)
   refine wp_build1 61 (.tmp 67) (cells := [.slice X4 n4 k4, .int .i64 m4]) rfl (r4.below bel) (by unfold Oper.wp; go_simp) ?_
   intro q5 N5 _ o5 e5 hN5 hM5
   have z5 : q4.heap.size ≤ q5.heap.size := e5.size
   refine hK.out _ _ (hHeld.to e5) (fun hHeld => ?_)
   clear hK K; try simp only [Act.put, aq0, aq1, aq2]
   refine goU 6 (fun _ => hHeld) ?_
   refine readyT (rs := [7]) (by kernel_rfl) (by simp) (all1 ?_)
   refine opT (i := 7) rfl (wanted_none rfl) (fun K hK => ?_)
   have l7 := lp_two (A := a) (B := hi) (o2.below (bel : Below _ _ q5)) (o5.below (bel : Below _ _ q5))
   refine wp_build1 59 (.tmp 69) (cells := [.slice (some ⟨N2, 0, none⟩) 1 1, .slice (some ⟨N5, 0, none⟩) 1 1]) rfl l7 (by unfold Oper.wp; go_simp) ?_
   intro q7 N7 row7 o7 e7 hN7 hM7
   have z7 : q5.heap.size ≤ q7.heap.size := e7.size
   replace l7 := l7.below e7
   refine hK.out _ _ (hHeld.to e7) (fun hHeld => ?_)
   clear hK K; try simp only [Act.put, aq0, aq1, aq2]
   rotate_left
   refine opT (i := 4) rfl (wanted_none rfl) (fun K hK => ?_)
   go_simp
   refine (l1Const_c hi HI.out.2.1 _).mono ?_
   rintro e q4 ⟨X4, n4, k4, m4, bs4, rfl, r4, -, hb4, e4⟩
   have z4 : q1.heap.size ≤ q4.heap.size := e4.size
   replace hb4 : ∀ y ∈ bs4, q1.heap.size ≤ y := hb4
   have l4 := Rep.lt _ r4
   go_wp2_with fail
   refine hK.out _ _ (hHeld.to e4) (fun hHeld => ?_)
   clear hK K; try simp only [Act.put, aq0, aq1, aq2]
   refine readyT (rs := [2, 5, 15]) (by kernel_rfl) (by simp) (all3 ?_ ?_ ?_)
   refine opT (i := 2) rfl (wanted_none rfl) (fun K hK => ?_)
   refine wp_build1 61 (.tmp 64) (cells := [.slice X1 n1 k1, .int .i64 m1]) rfl (r1.below bel) (by unfold Oper.wp; go_simp) ?_
   intro q2 N2 _ o2 e2 hN2 hM2
   have z2 : q4.heap.size ≤ q2.heap.size := e2.size
   refine hK.out _ _ (hHeld.to e2) (fun hHeld => ?_)
   clear hK K; try simp only [Act.put, aq0, aq1, aq2]
   refine readyT (rs := [5, 15]) (by kernel_rfl) (by simp) (all2 ?_ ?_)
   refine opT (i := 5) rfl (wanted_none rfl) (fun K hK => ?_)
   refine wp_build1 61 (.tmp 67) (cells := [.slice X4 n4 k4, .int .i64 m4]) rfl (r4.below bel) (by unfold Oper.wp; go_simp) ?_
   intro q5 N5 _ o5 e5 hN5 hM5
   have z5 : q2.heap.size ≤ q5.heap.size := e5.size
   refine hK.out _ _ (hHeld.to e5) (fun hHeld => ?_)
   clear hK K; try simp only [Act.put, aq0, aq1, aq2]
   refine goU 6 (fun _ => hHeld) ?_
   refine readyT (rs := [7, 15]) (by kernel_rfl) (by simp) (all2 ?_ ?_)
   refine opT (i := 7) rfl (wanted_none rfl) (fun K hK => ?_)
   have l7 := lp_two (A := a) (B := hi) (o2.below (bel : Below _ _ q5)) (o5.below (bel : Below _ _ q5))
   refine wp_build1 59 (.tmp 69) (cells := [.slice (some ⟨N2, 0, none⟩) 1 1, .slice (some ⟨N5, 0, none⟩) 1 1]) rfl l7 (by unfold Oper.wp; go_simp) ?_
   intro q7 N7 row7 o7 e7 hN7 hM7
   have z7 : q5.heap.size ≤ q7.heap.size := e7.size
   replace l7 := l7.below e7
   refine hK.out _ _ (hHeld.to e7) (fun hHeld => ?_)
   clear hK K; try simp only [Act.put, aq0, aq1, aq2]
   refine readyT (rs := [11, 15]) (by kernel_rfl) (by simp) (all2 ?_ ?_)
   rotate_left
   refine opT (i := 15) rfl (wanted_none rfl) (fun K hK => ?_)
   refine wp_alloc1 54 (cells := [.slice none 0 0, .slice none 0 0]) (by unfold Oper.wp; go_simp) ?_
   intro q15 g row15 e15 hg15 hM15
   have z15 : q7.heap.size ≤ q15.heap.size := e15.size
   refine hK.out _ _ (hHeld.to e15) (fun hHeld => ?_)
   clear hK K; try simp only [Act.put, aq0, aq1, aq2]
   rotate_left
   refine opT (i := 15) rfl (wanted_none rfl) (fun K hK => ?_)
   refine wp_alloc1 54 (cells := [.slice none 0 0, .slice none 0 0]) (by unfold Oper.wp; go_simp) ?_
   intro q15 g row15 e15 hg15 hM15
   have z15 : q5.heap.size ≤ q15.heap.size := e15.size
   refine hK.out _ _ (hHeld.to e15) (fun hHeld => ?_)
   clear hK K; try simp only [Act.put, aq0, aq1, aq2]
   refine readyT (rs := [7]) (by kernel_rfl) (by simp) (all1 ?_)
   refine opT (i := 7) rfl (wanted_none rfl) (fun K hK => ?_)
   have l7 := lp_two (A := a) (B := hi) (o2.below (bel : Below _ _ q15)) (o5.below (bel : Below _ _ q15))
   refine wp_build1 59 (.tmp 69) (cells := [.slice (some ⟨N2, 0, none⟩) 1 1, .slice (some ⟨N5, 0, none⟩) 1 1]) rfl l7 (by unfold Oper.wp; go_simp) ?_
   intro q7 N7 row7 o7 e7 hN7 hM7
   have z7 : q15.heap.size ≤ q7.heap.size := e7.size
   replace l7 := l7.below e7
   refine hK.out _ _ (hHeld.to e7) (fun hHeld => ?_)
   clear hK K; try simp only [Act.put, aq0, aq1, aq2]
   rotate_left
   refine opT (i := 15) rfl (wanted_none rfl) (fun K hK => ?_)
   refine wp_alloc1 54 (cells := [.slice none 0 0, .slice none 0 0]) (by unfold Oper.wp; go_simp) ?_
   intro q15 g row15 e15 hg15 hM15
   have z15 : q2.heap.size ≤ q15.heap.size := e15.size
   refine hK.out _ _ (hHeld.to e15) (fun hHeld => ?_)
   clear hK K; try simp only [Act.put, aq0, aq1, aq2]
   refine readyT (rs := [5]) (by kernel_rfl) (by simp) (all1 ?_)
   refine opT (i := 5) rfl (wanted_none rfl) (fun K hK => ?_)
   refine wp_build1 61 (.tmp 67) (cells := [.slice X4 n4 k4, .int .i64 m4]) rfl (r4.below bel) (by unfold Oper.wp; go_simp) ?_
   intro q5 N5 _ o5 e5 hN5 hM5
   have z5 : q15.heap.size ≤ q5.heap.size := e5.size
   refine hK.out _ _ (hHeld.to e5) (fun hHeld => ?_)
   clear hK K; try simp only [Act.put, aq0, aq1, aq2]
   refine goU 6 (fun _ => hHeld) ?_
   refine readyT (rs := [7]) (by kernel_rfl) (by simp) (all1 ?_)
   refine opT (i := 7) rfl (wanted_none rfl) (fun K hK => ?_)
   have l7 := lp_two (A := a) (B := hi) (o2.below (bel : Below _ _ q5)) (o5.below (bel : Below _ _ q5))
   refine wp_build1 59 (.tmp 69) (cells := [.slice (some ⟨N2, 0, none⟩) 1 1, .slice (some ⟨N5, 0, none⟩) 1 1]) rfl l7 (by unfold Oper.wp; go_simp) ?_
   intro q7 N7 row7 o7 e7 hN7 hM7
   have z7 : q5.heap.size ≤ q7.heap.size := e7.size
   replace l7 := l7.below e7
   refine hK.out _ _ (hHeld.to e7) (fun hHeld => ?_)
   clear hK K; try simp only [Act.put, aq0, aq1, aq2]
   rotate_left
   refine opT (i := 5) rfl (wanted_none rfl) (fun K hK => ?_)
   refine wp_build1 61 (.tmp 67) (cells := [.slice X4 n4 k4, .int .i64 m4]) rfl (r4.below bel) (by unfold Oper.wp; go_simp) ?_
   intro q5 N5 _ o5 e5 hN5 hM5
   have z5 : q4.heap.size ≤ q5.heap.size := e5.size
   refine hK.out _ _ (hHeld.to e5) (fun hHeld => ?_)
   clear hK K; try simp only [Act.put, aq0, aq1, aq2]
   refine readyT (rs := [2, 15]) (by kernel_rfl) (by simp) (all2 ?_ ?_)
   refine opT (i := 2) rfl (wanted_none rfl) (fun K hK => ?_)
   refine wp_build1 61 (.tmp 64) (cells := [.slice X1 n1 k1, .int .i64 m1]) rfl (r1.below bel) (by unfold Oper.wp; go_simp) ?_
   intro q2 N2 _ o2 e2 hN2 hM2
   have z2 : q5.heap.size ≤ q2.heap.size := e2.size
   refine hK.out _ _ (hHeld.to e2) (fun hHeld => ?_)
   clear hK K; try simp only [Act.put, aq0, aq1, aq2]
   refine goU 6 (fun _ => hHeld) ?_
   refine readyT (rs := [7, 15]) (by kernel_rfl) (by simp) (all2 ?_ ?_)
   refine opT (i := 7) rfl (wanted_none rfl) (fun K hK => ?_)
   have l7 := lp_two (A := a) (B := hi) (o2.below (bel : Below _ _ q2)) (o5.below (bel : Below _ _ q2))
   refine wp_build1 59 (.tmp 69) (cells := [.slice (some ⟨N2, 0, none⟩) 1 1, .slice (some ⟨N5, 0, none⟩) 1 1]) rfl l7 (by unfold Oper.wp; go_simp) ?_
   intro q7 N7 row7 o7 e7 hN7 hM7
   have z7 : q2.heap.size ≤ q7.heap.size := e7.size
   replace l7 := l7.below e7
   refine hK.out _ _ (hHeld.to e7) (fun hHeld => ?_)
   clear hK K; try simp only [Act.put, aq0, aq1, aq2]
   refine readyT (rs := [11, 15]) (by kernel_rfl) (by simp) (all2 ?_ ?_)
   rotate_left
   refine opT (i := 15) rfl (wanted_none rfl) (fun K hK => ?_)
   refine wp_alloc1 54 (cells := [.slice none 0 0, .slice none 0 0]) (by unfold Oper.wp; go_simp) ?_
   intro q15 g row15 e15 hg15 hM15
   have z15 : q7.heap.size ≤ q15.heap.size := e15.size
   refine hK.out _ _ (hHeld.to e15) (fun hHeld => ?_)
   clear hK K; try simp only [Act.put, aq0, aq1, aq2]
   rotate_left
   refine opT (i := 15) rfl (wanted_none rfl) (fun K hK => ?_)
   refine wp_alloc1 54 (cells := [.slice none 0 0, .slice none 0 0]) (by unfold Oper.wp; go_simp) ?_
   intro q15 g row15 e15 hg15 hM15
   have z15 : q2.heap.size ≤ q15.heap.size := e15.size
   refine hK.out _ _ (hHeld.to e15) (fun hHeld => ?_)
   clear hK K; try simp only [Act.put, aq0, aq1, aq2]
   refine readyT (rs := [7]) (by kernel_rfl) (by simp) (all1 ?_)
   refine opT (i := 7) rfl (wanted_none rfl) (fun K hK => ?_)
   have l7 := lp_two (A := a) (B := hi) (o2.below (bel : Below _ _ q15)) (o5.below (bel : Below _ _ q15))
   refine wp_build1 59 (.tmp 69) (cells := [.slice (some ⟨N2, 0, none⟩) 1 1, .slice (some ⟨N5, 0, none⟩) 1 1]) rfl l7 (by unfold Oper.wp; go_simp) ?_
   intro q7 N7 row7 o7 e7 hN7 hM7
   have z7 : q15.heap.size ≤ q7.heap.size := e7.size
   replace l7 := l7.below e7
   refine hK.out _ _ (hHeld.to e7) (fun hHeld => ?_)
   clear hK K; try simp only [Act.put, aq0, aq1, aq2]
   rotate_left
   refine opT (i := 15) rfl (wanted_none rfl) (fun K hK => ?_)
   refine wp_alloc1 54 (cells := [.slice none 0 0, .slice none 0 0]) (by unfold Oper.wp; go_simp) ?_
   intro q15 g row15 e15 hg15 hM15
   have z15 : q5.heap.size ≤ q15.heap.size := e15.size
   refine hK.out _ _ (hHeld.to e15) (fun hHeld => ?_)
   clear hK K; try simp only [Act.put, aq0, aq1, aq2]
   refine readyT (rs := [2]) (by kernel_rfl) (by simp) (all1 ?_)
   refine opT (i := 2) rfl (wanted_none rfl) (fun K hK => ?_)
   refine wp_build1 61 (.tmp 64) (cells := [.slice X1 n1 k1, .int .i64 m1]) rfl (r1.below bel) (by unfold Oper.wp; go_simp) ?_
   intro q2 N2 _ o2 e2 hN2 hM2
   have z2 : q15.heap.size ≤ q2.heap.size := e2.size
   refine hK.out _ _ (hHeld.to e2) (fun hHeld => ?_)
   clear hK K; try simp only [Act.put, aq0, aq1, aq2]
   refine goU 6 (fun _ => hHeld) ?_
   refine readyT (rs := [7]) (by kernel_rfl) (by simp) (all1 ?_)
   refine opT (i := 7) rfl (wanted_none rfl) (fun K hK => ?_)
   have l7 := lp_two (A := a) (B := hi) (o2.below (bel : Below _ _ q2)) (o5.below (bel : Below _ _ q2))
   refine wp_build1 59 (.tmp 69) (cells := [.slice (some ⟨N2, 0, none⟩) 1 1, .slice (some ⟨N5, 0, none⟩) 1 1]) rfl l7 (by unfold Oper.wp; go_simp) ?_
   intro q7 N7 row7 o7 e7 hN7 hM7
   have z7 : q2.heap.size ≤ q7.heap.size := e7.size
   replace l7 := l7.below e7
   refine hK.out _ _ (hHeld.to e7) (fun hHeld => ?_)
   clear hK K; try simp only [Act.put, aq0, aq1, aq2]
   rotate_left
   refine opT (i := 15) rfl (wanted_none rfl) (fun K hK => ?_)
   refine wp_alloc1 54 (cells := [.slice none 0 0, .slice none 0 0]) (by unfold Oper.wp; go_simp) ?_
   intro q15 g row15 e15 hg15 hM15
   have z15 : q4.heap.size ≤ q15.heap.size := e15.size
   refine hK.out _ _ (hHeld.to e15) (fun hHeld => ?_)
   clear hK K; try simp only [Act.put, aq0, aq1, aq2]
   refine readyT (rs := [2, 5]) (by kernel_rfl) (by simp) (all2 ?_ ?_)
   refine opT (i := 2) rfl (wanted_none rfl) (fun K hK => ?_)
   refine wp_build1 61 (.tmp 64) (cells := [.slice X1 n1 k1, .int .i64 m1]) rfl (r1.below bel) (by unfold Oper.wp; go_simp) ?_
   intro q2 N2 _ o2 e2 hN2 hM2
   have z2 : q15.heap.size ≤ q2.heap.size := e2.size
   refine hK.out _ _ (hHeld.to e2) (fun hHeld => ?_)
   clear hK K; try simp only [Act.put, aq0, aq1, aq2]
   refine readyT (rs := [5]) (by kernel_rfl) (by simp) (all1 ?_)
   refine opT (i := 5) rfl (wanted_none rfl) (fun K hK => ?_)
   refine wp_build1 61 (.tmp 67) (cells := [.slice X4 n4 k4, .int .i64 m4]) rfl (r4.below bel) (by unfold Oper.wp; go_simp) ?_
   intro q5 N5 _ o5 e5 hN5 hM5
   have z5 : q2.heap.size ≤ q5.heap.size := e5.size
   refine hK.out _ _ (hHeld.to e5) (fun hHeld => ?_)
   clear hK K; try simp only [Act.put, aq0, aq1, aq2]
   refine goU 6 (fun _ => hHeld) ?_
   refine readyT (rs := [7]) (by kernel_rfl) (by simp) (all1 ?_)
   refine opT (i := 7) rfl (wanted_none rfl) (fun K hK => ?_)
   have l7 := lp_two (A := a) (B := hi) (o2.below (bel : Below _ _ q5)) (o5.below (bel : Below _ _ q5))
   refine wp_build1 59 (.tmp 69) (cells := [.slice (some ⟨N2, 0, none⟩) 1 1, .slice (some ⟨N5, 0, none⟩) 1 1]) rfl l7 (by unfold Oper.wp; go_simp) ?_
   intro q7 N7 row7 o7 e7 hN7 hM7
   have z7 : q5.heap.size ≤ q7.heap.size := e7.size
   replace l7 := l7.below e7
   refine hK.out _ _ (hHeld.to e7) (fun hHeld => ?_)
   clear hK K; try simp only [Act.put, aq0, aq1, aq2]
   rotate_left
   refine opT (i := 5) rfl (wanted_none rfl) (fun K hK => ?_)
   refine wp_build1 61 (.tmp 67) (cells := [.slice X4 n4 k4, .int .i64 m4]) rfl (r4.below bel) (by unfold Oper.wp; go_simp) ?_
   intro q5 N5 _ o5 e5 hN5 hM5
   have z5 : q15.heap.size ≤ q5.heap.size := e5.size
   refine hK.out _ _ (hHeld.to e5) (fun hHeld => ?_)
   clear hK K; try simp only [Act.put, aq0, aq1, aq2]
   refine readyT (rs := [2]) (by kernel_rfl) (by simp) (all1 ?_)
   refine opT (i := 2) rfl (wanted_none rfl) (fun K hK => ?_)
   refine wp_build1 61 (.tmp 64) (cells := [.slice X1 n1 k1, .int .i64 m1]) rfl (r1.below bel) (by unfold Oper.wp; go_simp) ?_
   intro q2 N2 _ o2 e2 hN2 hM2
   have z2 : q5.heap.size ≤ q2.heap.size := e2.size
   refine hK.out _ _ (hHeld.to e2) (fun hHeld => ?_)
   clear hK K; try simp only [Act.put, aq0, aq1, aq2]
   refine goU 6 (fun _ => hHeld) ?_
   refine readyT (rs := [7]) (by kernel_rfl) (by simp) (all1 ?_)
   refine opT (i := 7) rfl (wanted_none rfl) (fun K hK => ?_)
   have l7 := lp_two (A := a) (B := hi) (o2.below (bel : Below _ _ q2)) (o5.below (bel : Below _ _ q2))
   refine wp_build1 59 (.tmp 69) (cells := [.slice (some ⟨N2, 0, none⟩) 1 1, .slice (some ⟨N5, 0, none⟩) 1 1]) rfl l7 (by unfold Oper.wp; go_simp) ?_
   intro q7 N7 row7 o7 e7 hN7 hM7
   have z7 : q2.heap.size ≤ q7.heap.size := e7.size
   replace l7 := l7.below e7
   refine hK.out _ _ (hHeld.to e7) (fun hHeld => ?_)
   clear hK K; try simp only [Act.put, aq0, aq1, aq2]
   rotate_left
   refine opT (i := 15) rfl (wanted_none rfl) (fun K hK => ?_)
   refine wp_alloc1 54 (cells := [.slice none 0 0, .slice none 0 0]) (by unfold Oper.wp; go_simp) ?_
   intro q15 g row15 e15 hg15 hM15
   have z15 : q1.heap.size ≤ q15.heap.size := e15.size
   refine hK.out _ _ (hHeld.to e15) (fun hHeld => ?_)
   clear hK K; try simp only [Act.put, aq0, aq1, aq2]
   refine readyT (rs := [2, 4]) (by kernel_rfl) (by simp) (all2 ?_ ?_)
   refine opT (i := 2) rfl (wanted_none rfl) (fun K hK => ?_)
   refine wp_build1 61 (.tmp 64) (cells := [.slice X1 n1 k1, .int .i64 m1]) rfl (r1.below bel) (by unfold Oper.wp; go_simp) ?_
   intro q2 N2 _ o2 e2 hN2 hM2
   have z2 : q15.heap.size ≤ q2.heap.size := e2.size
   refine hK.out _ _ (hHeld.to e2) (fun hHeld => ?_)
   clear hK K; try simp only [Act.put, aq0, aq1, aq2]
   refine readyT (rs := [4]) (by kernel_rfl) (by simp) (all1 ?_)
   refine opT (i := 4) rfl (wanted_none rfl) (fun K hK => ?_)
   go_simp
   refine (l1Const_c hi HI.out.2.1 _).mono ?_
   rintro e q4 ⟨X4, n4, k4, m4, bs4, rfl, r4, -, hb4, e4⟩
   have z4 : q2.heap.size ≤ q4.heap.size := e4.size
   replace hb4 : ∀ y ∈ bs4, q2.heap.size ≤ y := hb4
   have l4 := Rep.lt _ r4
   go_wp2_with fail
   refine hK.out _ _ (hHeld.to e4) (fun hHeld => ?_)
   clear hK K; try simp only [Act.put, aq0, aq1, aq2]
   refine readyT (rs := [5]) (by kernel_rfl) (by simp) (all1 ?_)
   refine opT (i := 5) rfl (wanted_none rfl) (fun K hK => ?_)
   refine wp_build1 61 (.tmp 67) (cells := [.slice X4 n4 k4, .int .i64 m4]) rfl (r4.below bel) (by unfold Oper.wp; go_simp) ?_
   intro q5 N5 _ o5 e5 hN5 hM5
   have z5 : q4.heap.size ≤ q5.heap.size := e5.size
   refine hK.out _ _ (hHeld.to e5) (fun hHeld => ?_)
   clear hK K; try simp only [Act.put, aq0, aq1, aq2]
   refine goU 6 (fun _ => hHeld) ?_
   refine readyT (rs := [7]) (by kernel_rfl) (by simp) (all1 ?_)
   refine opT (i := 7) rfl (wanted_none rfl) (fun K hK => ?_)
   have l7 := lp_two (A := a) (B := hi) (o2.below (bel : Below _ _ q5)) (o5.below (bel : Below _ _ q5))
   refine wp_build1 59 (.tmp 69) (cells := [.slice (some ⟨N2, 0, none⟩) 1 1, .slice (some ⟨N5, 0, none⟩) 1 1]) rfl l7 (by unfold Oper.wp; go_simp) ?_
   intro q7 N7 row7 o7 e7 hN7 hM7
   have z7 : q5.heap.size ≤ q7.heap.size := e7.size
   replace l7 := l7.below e7
   refine hK.out _ _ (hHeld.to e7) (fun hHeld => ?_)
   clear hK K; try simp only [Act.put, aq0, aq1, aq2]
   rotate_left
   refine opT (i := 4) rfl (wanted_none rfl) (fun K hK => ?_)
   go_simp
   refine (l1Const_c hi HI.out.2.1 _).mono ?_
   rintro e q4 ⟨X4, n4, k4, m4, bs4, rfl, r4, -, hb4, e4⟩
   have z4 : q15.heap.size ≤ q4.heap.size := e4.size
   replace hb4 : ∀ y ∈ bs4, q15.heap.size ≤ y := hb4
   have l4 := Rep.lt _ r4
   go_wp2_with fail
   refine hK.out _ _ (hHeld.to e4) (fun hHeld => ?_)
   clear hK K; try simp only [Act.put, aq0, aq1, aq2]
   refine readyT (rs := [2, 5]) (by kernel_rfl) (by simp) (all2 ?_ ?_)
   refine opT (i := 2) rfl (wanted_none rfl) (fun K hK => ?_)
   refine wp_build1 61 (.tmp 64) (cells := [.slice X1 n1 k1, .int .i64 m1]) rfl (r1.below bel) (by unfold Oper.wp; go_simp) ?_
   intro q2 N2 _ o2 e2 hN2 hM2
   have z2 : q4.heap.size ≤ q2.heap.size := e2.size
   refine hK.out _ _ (hHeld.to e2) (fun hHeld => ?_)
   clear hK K; try simp only [Act.put, aq0, aq1, aq2]
   refine readyT (rs := [5]) (by kernel_rfl) (by simp) (all1 ?_)
   refine opT (i := 5) rfl (wanted_none rfl) (fun K hK => ?_)
   refine wp_build1 61 (.tmp 67) (cells := [.slice X4 n4 k4, .int .i64 m4]) rfl (r4.below bel) (by unfold Oper.wp; go_simp) ?_
   intro q5 N5 _ o5 e5 hN5 hM5
   have z5 : q2.heap.size ≤ q5.heap.size := e5.size
   refine hK.out _ _ (hHeld.to e5) (fun hHeld => ?_)
   clear hK K; try simp only [Act.put, aq0, aq1, aq2]
   refine goU 6 (fun _ => hHeld) ?_
   refine readyT (rs := [7]) (by kernel_rfl) (by simp) (all1 ?_)
   refine opT (i := 7) rfl (wanted_none rfl) (fun K hK => ?_)
   have l7 := lp_two (A := a) (B := hi) (o2.below (bel : Below _ _ q5)) (o5.below (bel : Below _ _ q5))
   refine wp_build1 59 (.tmp 69) (cells := [.slice (some ⟨N2, 0, none⟩) 1 1, .slice (some ⟨N5, 0, none⟩) 1 1]) rfl l7 (by unfold Oper.wp; go_simp) ?_
   intro q7 N7 row7 o7 e7 hN7 hM7
   have z7 : q5.heap.size ≤ q7.heap.size := e7.size
   replace l7 := l7.below e7
   refine hK.out _ _ (hHeld.to e7) (fun hHeld => ?_)
   clear hK K; try simp only [Act.put, aq0, aq1, aq2]
   rotate_left
   refine opT (i := 5) rfl (wanted_none rfl) (fun K hK => ?_)
   refine wp_build1 61 (.tmp 67) (cells := [.slice X4 n4 k4, .int .i64 m4]) rfl (r4.below bel) (by unfold Oper.wp; go_simp) ?_
   intro q5 N5 _ o5 e5 hN5 hM5
   have z5 : q4.heap.size ≤ q5.heap.size := e5.size
   refine hK.out _ _ (hHeld.to e5) (fun hHeld => ?_)
   clear hK K; try simp only [Act.put, aq0, aq1, aq2]
   refine readyT (rs := [2]) (by kernel_rfl) (by simp) (all1 ?_)
   refine opT (i := 2) rfl (wanted_none rfl) (fun K hK => ?_)
   refine wp_build1 61 (.tmp 64) (cells := [.slice X1 n1 k1, .int .i64 m1]) rfl (r1.below bel) (by unfold Oper.wp; go_simp) ?_
   intro q2 N2 _ o2 e2 hN2 hM2
   have z2 : q5.heap.size ≤ q2.heap.size := e2.size
   refine hK.out _ _ (hHeld.to e2) (fun hHeld => ?_)
   clear hK K; try simp only [Act.put, aq0, aq1, aq2]
   refine goU 6 (fun _ => hHeld) ?_
   refine readyT (rs := [7]) (by kernel_rfl) (by simp) (all1 ?_)
   refine opT (i := 7) rfl (wanted_none rfl) (fun K hK => ?_)
   have l7 := lp_two (A := a) (B := hi) (o2.below (bel : Below _ _ q2)) (o5.below (bel : Below _ _ q2))
   refine wp_build1 59 (.tmp 69) (cells := [.slice (some ⟨N2, 0, none⟩) 1 1, .slice (some ⟨N5, 0, none⟩) 1 1]) rfl l7 (by unfold Oper.wp; go_simp) ?_
   intro q7 N7 row7 o7 e7 hN7 hM7
   have z7 : q2.heap.size ≤ q7.heap.size := e7.size
   replace l7 := l7.below e7
   refine hK.out _ _ (hHeld.to e7) (fun hHeld => ?_)
   clear hK K; try simp only [Act.put, aq0, aq1, aq2]
   rotate_left
   refine opT (i := 15) rfl (wanted_none rfl) (fun K hK => ?_)
   refine wp_alloc1 54 (cells := [.slice none 0 0, .slice none 0 0]) (by unfold Oper.wp; go_simp) ?_
   intro q15 g row15 e15 hg15 hM15
   replace e15 : Below V8.heap.size V8 q15 := of_drew e15
   replace hg15 : V8.heap.size ≤ g := hg15
   have z15 : V8.heap.size ≤ q15.heap.size := e15.size
   refine hK.out _ _ ((show Box2 V8 _ _ _ from hHeld).to e15) (fun hHeld => ?_)
   clear hK K; try simp only [Act.put, aq0, aq1, aq2]
   refine readyT (rs := [1]) (by kernel_rfl) (by simp) (all1 ?_)
   refine opT (i := 1) rfl (wanted_none rfl) (fun K hK => ?_)
   go_simp
   refine (l1Const_c a HI.out.2.2 _).mono ?_
   rintro e q1 ⟨X1, n1, k1, m1, bs1, rfl, r1, -, hb1, e1⟩
   have z1 : q15.heap.size ≤ q1.heap.size := e1.size
   replace hb1 : ∀ y ∈ bs1, q15.heap.size ≤ y := hb1
   have l1 := Rep.lt _ r1
   go_wp2_with fail
   refine hK.out _ _ (hHeld.to e1) (fun hHeld => ?_)
   clear hK K; try simp only [Act.put, aq0, aq1, aq2]
   refine readyT (rs := [2, 4]) (by kernel_rfl) (by simp) (all2 ?_ ?_)
   refine opT (i := 2) rfl (wanted_none rfl) (fun K hK => ?_)
   refine wp_build1 61 (.tmp 64) (cells := [.slice X1 n1 k1, .int .i64 m1]) rfl (r1.below bel) (by unfold Oper.wp; go_simp) ?_
   intro q2 N2 _ o2 e2 hN2 hM2
   have z2 : q1.heap.size ≤ q2.heap.size := e2.size
   refine hK.out _ _ (hHeld.to e2) (fun hHeld => ?_)
   clear hK K; try simp only [Act.put, aq0, aq1, aq2]
   refine readyT (rs := [4]) (by kernel_rfl) (by simp) (all1 ?_)
   refine opT (i := 4) rfl (wanted_none rfl) (fun K hK => ?_)
   go_simp
   refine (l1Const_c hi HI.out.2.1 _).mono ?_
   rintro e q4 ⟨X4, n4, k4, m4, bs4, rfl, r4, -, hb4, e4⟩
   have z4 : q2.heap.size ≤ q4.heap.size := e4.size
   replace hb4 : ∀ y ∈ bs4, q2.heap.size ≤ y := hb4
   have l4 := Rep.lt _ r4
   go_wp2_with fail
   refine hK.out _ _ (hHeld.to e4) (fun hHeld => ?_)
   clear hK K; try simp only [Act.put, aq0, aq1, aq2]
   refine readyT (rs := [5]) (by kernel_rfl) (by simp) (all1 ?_)
   refine opT (i := 5) rfl (wanted_none rfl) (fun K hK => ?_)
   refine wp_build1 61 (.tmp 67) (cells := [.slice X4 n4 k4, .int .i64 m4]) rfl (r4.below bel) (by unfold Oper.wp; go_simp) ?_
   intro q5 N5 _ o5 e5 hN5 hM5
   have z5 : q4.heap.size ≤ q5.heap.size := e5.size
   refine hK.out _ _ (hHeld.to e5) (fun hHeld => ?_)
   clear hK K; try simp only [Act.put, aq0, aq1, aq2]
   refine goU 6 (fun _ => hHeld) ?_
   refine readyT (rs := [7]) (by kernel_rfl) (by simp) (all1 ?_)
   refine opT (i := 7) rfl (wanted_none rfl) (fun K hK => ?_)
   have l7 := lp_two (A := a) (B := hi) (o2.below (bel : Below _ _ q5)) (o5.below (bel : Below _ _ q5))
   refine wp_build1 59 (.tmp 69) (cells := [.slice (some ⟨N2, 0, none⟩) 1 1, .slice (some ⟨N5, 0, none⟩) 1 1]) rfl l7 (by unfold Oper.wp; go_simp) ?_
   intro q7 N7 row7 o7 e7 hN7 hM7
   have z7 : q5.heap.size ≤ q7.heap.size := e7.size
   replace l7 := l7.below e7
   refine hK.out _ _ (hHeld.to e7) (fun hHeld => ?_)
   clear hK K; try simp only [Act.put, aq0, aq1, aq2]
   rotate_left
   refine opT (i := 4) rfl (wanted_none rfl) (fun K hK => ?_)
   go_simp
   refine (l1Const_c hi HI.out.2.1 _).mono ?_
   rintro e q4 ⟨X4, n4, k4, m4, bs4, rfl, r4, -, hb4, e4⟩
   have z4 : q1.heap.size ≤ q4.heap.size := e4.size
   replace hb4 : ∀ y ∈ bs4, q1.heap.size ≤ y := hb4
   have l4 := Rep.lt _ r4
   go_wp2_with fail
   refine hK.out _ _ (hHeld.to e4) (fun hHeld => ?_)
   clear hK K; try simp only [Act.put, aq0, aq1, aq2]
   refine readyT (rs := [2, 5]) (by kernel_rfl) (by simp) (all2 ?_ ?_)
   refine opT (i := 2) rfl (wanted_none rfl) (fun K hK => ?_)
   refine wp_build1 61 (.tmp 64) (cells := [.slice X1 n1 k1, .int .i64 m1]) rfl (r1.below bel) (by unfold Oper.wp; go_simp) ?_
   intro q2 N2 _ o2 e2 hN2 hM2
   have z2 : q4.heap.size ≤ q2.heap.size := e2.size
   refine hK.out _ _ (hHeld.to e2) (fun hHeld => ?_)
   clear hK K; try simp only [Act.put, aq0, aq1, aq2]
   refine readyT (rs := [5]) (by kernel_rfl) (by simp) (all1 ?_)
   refine opT (i := 5) rfl (wanted_none rfl) (fun K hK => ?_)
   refine wp_build1 61 (.tmp 67) (cells := [.slice X4 n4 k4, .int .i64 m4]) rfl (r4.below bel) (by unfold Oper.wp; go_simp) ?_
   intro q5 N5 _ o5 e5 hN5 hM5
   have z5 : q2.heap.size ≤ q5.heap.size := e5.size
   refine hK.out _ _ (hHeld.to e5) (fun hHeld => ?_)
   clear hK K; try simp only [Act.put, aq0, aq1, aq2]
   refine goU 6 (fun _ => hHeld) ?_
   refine readyT (rs := [7]) (by kernel_rfl) (by simp) (all1 ?_)
   refine opT (i := 7) rfl (wanted_none rfl) (fun K hK => ?_)
   have l7 := lp_two (A := a) (B := hi) (o2.below (bel : Below _ _ q5)) (o5.below (bel : Below _ _ q5))
   refine wp_build1 59 (.tmp 69) (cells := [.slice (some ⟨N2, 0, none⟩) 1 1, .slice (some ⟨N5, 0, none⟩) 1 1]) rfl l7 (by unfold Oper.wp; go_simp) ?_
   intro q7 N7 row7 o7 e7 hN7 hM7
   have z7 : q5.heap.size ≤ q7.heap.size := e7.size
   replace l7 := l7.below e7
   refine hK.out _ _ (hHeld.to e7) (fun hHeld => ?_)
   clear hK K; try simp only [Act.put, aq0, aq1, aq2]
   rotate_left
   refine opT (i := 5) rfl (wanted_none rfl) (fun K hK => ?_)
   refine wp_build1 61 (.tmp 67) (cells := [.slice X4 n4 k4, .int .i64 m4]) rfl (r4.below bel) (by unfold Oper.wp; go_simp) ?_
   intro q5 N5 _ o5 e5 hN5 hM5
   have z5 : q4.heap.size ≤ q5.heap.size := e5.size
   refine hK.out _ _ (hHeld.to e5) (fun hHeld => ?_)
   clear hK K; try simp only [Act.put, aq0, aq1, aq2]
   refine readyT (rs := [2]) (by kernel_rfl) (by simp) (all1 ?_)
   refine opT (i := 2) rfl (wanted_none rfl) (fun K hK => ?_)
   refine wp_build1 61 (.tmp 64) (cells := [.slice X1 n1 k1, .int .i64 m1]) rfl (r1.below bel) (by unfold Oper.wp; go_simp) ?_
   intro q2 N2 _ o2 e2 hN2 hM2
   have z2 : q5.heap.size ≤ q2.heap.size := e2.size
   refine hK.out _ _ (hHeld.to e2) (fun hHeld => ?_)
   clear hK K; try simp only [Act.put, aq0, aq1, aq2]
   refine goU 6 (fun _ => hHeld) ?_
   refine readyT (rs := [7]) (by kernel_rfl) (by simp) (all1 ?_)
   refine opT (i := 7) rfl (wanted_none rfl) (fun K hK => ?_)
   have l7 := lp_two (A := a) (B := hi) (o2.below (bel : Below _ _ q2)) (o5.below (bel : Below _ _ q2))
   refine wp_build1 59 (.tmp 69) (cells := [.slice (some ⟨N2, 0, none⟩) 1 1, .slice (some ⟨N5, 0, none⟩) 1 1]) rfl l7 (by unfold Oper.wp; go_simp) ?_
   intro q7 N7 row7 o7 e7 hN7 hM7
   have z7 : q2.heap.size ≤ q7.heap.size := e7.size
   replace l7 := l7.below e7
   refine hK.out _ _ (hHeld.to e7) (fun hHeld => ?_)
   clear hK K; try simp only [Act.put, aq0, aq1, aq2]
   rotate_left
   all_goals
    first
     |(
      refine readyT (rs := [11]) (by kernel_rfl) (by simp) (all1 ?_)
      refine opT (i := 11) rfl (wanted_none rfl) (fun K hK => ?_)
      have hC11 : ∀ y, (y ∈ (N2 :: bs1) ++ (N5 :: bs4) ∨ y < V8.heap.size) → y < N7 := fun y hy => by rcases hy with hy | hy; (rcases List.mem_append.1 hy with hy | hy; (rcases List.mem_cons.1 hy with rfl | hy; omega; (have := l1 y hy; omega)); (rcases List.mem_cons.1 hy with rfl | hy; omega; (have := l4 y hy; omega))); omega
      refine wp_append_S (C := fun y => y ∈ (N2 :: bs1) ++ (N5 :: bs4) ∨ y < V8.heap.size) (B := N7) (xs := [(⟨[affConst a], [affConst hi]⟩ : Lp).d]) (ys := p.parts[k].nest.tail.map Lp.d) (.tmp 70) (.tmp 73) _ rfl _ Tryz.underlying51 Tryz.infoLoop rfl (by decide) rfl (GrowS.one (row7.to bel) (l7.below bel) rfl (fun y hy => .inl hy)) rfl (HRT8.out.1.below bel) (fun y hy => by obtain ⟨z, _, rfl⟩ := List.mem_map.1 hy; rfl) (fun y hy => .inr (HRT8.out.2 y hy)) hC11 (by simp only [List.length_singleton, List.length_map, List.length_tail]; omega) (by omega) ?_
      intro v11 q11 hG11 b11 t11
      have z11 := b11.size
      have T11 := t11.touch.mono (bs' := [N7]) (fun y hy => by rw [own_some hy]; exact List.mem_singleton.2 rfl)
      have own11 := fun (y : Nat) (hy : v11.ownBlock = some y) => And.intro (t11.own y hy) (hG11.own_ge y hy).2
      have BQ : Below V8.heap.size V8 q11 := Below.trans bel (b11.mono (by omega))
      obtain ⟨A11, c11, bs11, hf11, r11', hbs11⟩ := hG11.rep
      have r11 : Rep q11 (sls Lp.d ((⟨[affConst a], [affConst hi]⟩ : Lp) :: p.parts[k].nest.tail)) [.slice A11 ((⟨[affConst a], [affConst hi]⟩ : Lp) :: p.parts[k].nest.tail).length c11] bs11 := by simpa [sls] using r11'
      obtain ⟨n11, hn11⟩ : ∃ n, n = ((⟨[affConst a], [affConst hi]⟩ : Lp) :: p.parts[k].nest.tail).length := ⟨_, rfl⟩
      replace hf11 : v11 = .slice A11 n11 c11 := by rw [hf11, hn11]; simp
      rw [← hn11] at r11
      have HN11 := Lib.hid hn11
      have HR11 := Lib.hid (And.intro r11 (And.intro hbs11 own11))
      have HBQ := Lib.hid BQ
      subst hf11
      clear hn11 r11' hG11 hC11 r11 hbs11 own11 BQ
      refine hK.out _ _ (T11.box2 hHeld (by simp; omega)) (fun hHeld => ?_)
      clear hK K; try simp only [Act.put, aq0, aq1, aq2]
      refine goU 14 (fun _ => hHeld) ?_
      refine readyT (rs := [16]) (by kernel_rfl) (by simp) (all1 ?_)
      refine opTT (i := 16) rfl (wanted_none rfl) (by kernel_rfl) (fun K hK => ?_)
      refine wp_store_row 54 (.tmp 13) (.tmp 77) rfl (vs := [.slice A11 n11 c11, .slice A2g p.parts[k].body.length c2g]) rfl rfl ((row15.to bel).of_block (T11.block g (by omega) (by simp; omega))) rfl Tryz.sizePart2 rfl ?_
      intro q16 r16 t16
      refine hK.out _ _ ?_
      clear hK K; try simp only [Act.put, aq0, aq1, aq2]
      refine wpAnyT_done (by kernel_rfl) ?_ _
      refine NoPanic.normal ?_
      have B16 := HBQ.out
      have B17 : Below V8.heap.size V8 q16 := B16.trans (t16.below B16.size (by simp; omega))
      have hne : ∀ y ∈ bs11, y ≠ g := fun y hy => by rcases HR11.out.2.1 y hy with hy | hy; (rcases hy with hy | hy; (rcases List.mem_append.1 hy with hy | hy; (rcases List.mem_cons.1 hy with rfl | hy; omega; (have := l1 y hy; have := hb1 y hy; omega)); (rcases List.mem_cons.1 hy with rfl | hy; omega; (have := l4 y hy; have := hb4 y hy; omega))); omega); (have h5 := HR11.out.2.2 y hy; rcases h5 with ⟨h5 | h5, h6⟩; (have h7 : some N7 = some y := h5; have h8 := Option.some.inj h7; omega); omega)
      have RN := HR11.out.1
      have HF := Lib.hid (And.intro r16 (And.intro (Rep.keep _ RN (t16.keeps (l := bs11) fun y hy => ⟨Rep.lt _ RN y hy, by simpa using hne y hy⟩)) (And.intro (Rep.keep _ HRB8.out (Keeps.of_below B17 (Rep.lt _ HRB8.out))) B17)))
      clear RN hne B16 B17 r16 t16
      go_wp2
      go_meet
      case rel => exact ⟨g, A11, n11, c11, bs11 ++ d2g, rfl, HF.out.1, Rep.prt_iff.2 ⟨A11, c11, A2g, c2g, bs11, d2g, by rw [HN11.out], rfl, by rw [← HN11.out]; exact HF.out.2.1, HF.out.2.2.1⟩, HF.out.2.2.2⟩)
     |(
      refine opT (i := 11) rfl (wanted_none rfl) (fun K hK => ?_)
      have hC11 : ∀ y, (y ∈ (N2 :: bs1) ++ (N5 :: bs4) ∨ y < V8.heap.size) → y < N7 := fun y hy => by rcases hy with hy | hy; (rcases List.mem_append.1 hy with hy | hy; (rcases List.mem_cons.1 hy with rfl | hy; omega; (have := l1 y hy; omega)); (rcases List.mem_cons.1 hy with rfl | hy; omega; (have := l4 y hy; omega))); omega
      refine wp_append_S (C := fun y => y ∈ (N2 :: bs1) ++ (N5 :: bs4) ∨ y < V8.heap.size) (B := N7) (xs := [(⟨[affConst a], [affConst hi]⟩ : Lp).d]) (ys := p.parts[k].nest.tail.map Lp.d) (.tmp 70) (.tmp 73) _ rfl _ Tryz.underlying51 Tryz.infoLoop rfl (by decide) rfl (GrowS.one (row7.to bel) (l7.below bel) rfl (fun y hy => .inl hy)) rfl (HRT8.out.1.below bel) (fun y hy => by obtain ⟨z, _, rfl⟩ := List.mem_map.1 hy; rfl) (fun y hy => .inr (HRT8.out.2 y hy)) hC11 (by simp only [List.length_singleton, List.length_map, List.length_tail]; omega) (by omega) ?_
      intro v11 q11 hG11 b11 t11
      have z11 := b11.size
      have T11 := t11.touch.mono (bs' := [N7]) (fun y hy => by rw [own_some hy]; exact List.mem_singleton.2 rfl)
      have own11 := fun (y : Nat) (hy : v11.ownBlock = some y) => And.intro (t11.own y hy) (hG11.own_ge y hy).2
      have BQ : Below V8.heap.size V8 q11 := Below.trans bel (b11.mono (by omega))
      obtain ⟨A11, c11, bs11, hf11, r11', hbs11⟩ := hG11.rep
      have r11 : Rep q11 (sls Lp.d ((⟨[affConst a], [affConst hi]⟩ : Lp) :: p.parts[k].nest.tail)) [.slice A11 ((⟨[affConst a], [affConst hi]⟩ : Lp) :: p.parts[k].nest.tail).length c11] bs11 := by simpa [sls] using r11'
      obtain ⟨n11, hn11⟩ : ∃ n, n = ((⟨[affConst a], [affConst hi]⟩ : Lp) :: p.parts[k].nest.tail).length := ⟨_, rfl⟩
      replace hf11 : v11 = .slice A11 n11 c11 := by rw [hf11, hn11]; simp
      rw [← hn11] at r11
      have HN11 := Lib.hid hn11
      have HR11 := Lib.hid (And.intro r11 (And.intro hbs11 own11))
      have HBQ := Lib.hid BQ
      subst hf11
      clear hn11 r11' hG11 hC11 r11 hbs11 own11 BQ
      refine hK.out _ _ (T11.box2 hHeld (by simp; omega)) (fun hHeld => ?_)
      clear hK K; try simp only [Act.put, aq0, aq1, aq2]
      refine goU 14 (fun _ => hHeld) ?_
      refine readyT (rs := [15]) (by kernel_rfl) (by simp) (all1 ?_)
      refine opT (i := 15) rfl (wanted_none rfl) (fun K hK => ?_)
      refine wp_alloc1 54 (cells := [.slice none 0 0, .slice none 0 0]) (by unfold Oper.wp; go_simp) ?_
      intro q15 g row15 e15 hg15 hM15
      have z15 := e15.size
      refine hK.out _ _ (hHeld.to e15) (fun hHeld => ?_)
      clear hK K; try simp only [Act.put, aq0, aq1, aq2]
      refine readyT (rs := [16]) (by kernel_rfl) (by simp) (all1 ?_)
      refine opTT (i := 16) rfl (wanted_none rfl) (by kernel_rfl) (fun K hK => ?_)
      refine wp_store_row 54 (.tmp 13) (.tmp 77) rfl (vs := [.slice A11 n11 c11, .slice A2g p.parts[k].body.length c2g]) rfl rfl row15 rfl Tryz.sizePart2 rfl ?_
      intro q16 r16 t16
      refine hK.out _ _ ?_
      clear hK K; try simp only [Act.put, aq0, aq1, aq2]
      refine wpAnyT_done (by kernel_rfl) ?_ _
      refine NoPanic.normal ?_
      have B16 := (below_tr HBQ.out e15)
      have B17 : Below V8.heap.size V8 q16 := B16.trans (t16.below B16.size (by simp; omega))
      have hne : ∀ y ∈ bs11, y ≠ g := fun y hy => by rcases HR11.out.2.1 y hy with hy | hy; (rcases hy with hy | hy; (rcases List.mem_append.1 hy with hy | hy; (rcases List.mem_cons.1 hy with rfl | hy; omega; (have := l1 y hy; have := hb1 y hy; omega)); (rcases List.mem_cons.1 hy with rfl | hy; omega; (have := l4 y hy; have := hb4 y hy; omega))); omega); (have h5 := HR11.out.2.2 y hy; rcases h5 with ⟨h5 | h5, h6⟩; (have h7 : some N7 = some y := h5; have h8 := Option.some.inj h7; omega); omega)
      have RN := (HR11.out.1.below e15)
      have HF := Lib.hid (And.intro r16 (And.intro (Rep.keep _ RN (t16.keeps (l := bs11) fun y hy => ⟨Rep.lt _ RN y hy, by simpa using hne y hy⟩)) (And.intro (Rep.keep _ HRB8.out (Keeps.of_below B17 (Rep.lt _ HRB8.out))) B17)))
      clear RN hne B16 B17 r16 t16
      go_wp2
      go_meet
      case rel => exact ⟨g, A11, n11, c11, bs11 ++ d2g, rfl, HF.out.1, Rep.prt_iff.2 ⟨A11, c11, A2g, c2g, bs11, d2g, by rw [HN11.out], rfl, by rw [← HN11.out]; exact HF.out.2.1, HF.out.2.2.1⟩, HF.out.2.2.2⟩)
  case rest =>
   obtain ⟨g9, A9, n9, c9, bs9, rfl, row9, rp9, bw9⟩ := hcut
   rename World => V9
   have row8 := HR8.out.1.to bw9
   have RP := Lib.hid ((R2.out.below HT8.out).below bw9)
   have RY := Lib.hid (show Rep (V9.alloc (.cells #[.slice A8 n8 c8, .slice A2g p.parts[k].body.length c2g, .slice A9 n9 c9, .slice A2g p.parts[k].body.length c2g] 54)) (sls Prt.d [⟨⟨[affConst lo], [affConst a]⟩ :: p.parts[k].nest.tail, p.parts[k].body⟩, ⟨⟨[affConst a], [affConst hi]⟩ :: p.parts[k].nest.tail, p.parts[k].body⟩]) [.slice (some ⟨V9.heap.size, 0, none⟩) 2 2] (V9.heap.size :: (bs8 ++ bs9)) from two_newW V9 (HR8.out.2.below bw9) rp9 54)
   have hXR9 := Lib.hid (HXR8.out.to bw9)
   obtain ⟨y0, y1⟩ := XA8.out.to bw9
   have ly := lt_of_cell y0
   have HS9 := Lib.hid (below_tr HS8.out bw9)
   have a0 := row8.cell 0
   have a1 := row8.cell 1
   have c0 := row9.cell 0
   have c1 := row9.cell 1
   have la := row8.lt
   have lc := row9.lt
   simp only [List.getElem?_cons_zero, List.getElem?_cons_succ] at a0 a1 c0 c1
   have EQ := Lib.hid (show withQ p k 1 [⟨⟨[affConst lo], [affConst a]⟩ :: p.parts[k].nest.tail, p.parts[k].body⟩, ⟨⟨[affConst a], [affConst hi]⟩ :: p.parts[k].nest.tail, p.parts[k].body⟩] = splitQ p k lo a hi by
    unfold withQ splitQ
    rw [prtF_eq hk]
    simp)
   clear rp9 bw9 row8 row9 HXB8 HRB8 HRT8 XA8 HXR8 HS8
   go_wp2_with fail
   refine (l8With_1 (ys := [⟨⟨[affConst lo], [affConst a]⟩ :: p.parts[k].nest.tail, p.parts[k].body⟩, ⟨⟨[affConst a], [affConst hi]⟩ :: p.parts[k].nest.tail, p.parts[k].body⟩]) (RP.out.below (below_al (Below.refl _ _) _)) RY.out (pgm_sm HV.out) hk (by simp)).mono ?_
   rw [EQ.out]
   rintro e w10 ⟨A1f, c1f, A2f, c2f, bsf, rfl, rf, ndf, hbf, b10⟩
   have B10 : Below V9.heap.size V9 w10 := below_tr (below_al (Below.refl _ _) _) b10
   obtain ⟨⟨r0, r1⟩, r2, r3⟩ := hXR9.out.to B10
   have ltR := lt_of_cell r0
   have lt9 := lt_of_cell hXR9.out.1.1
   have S10 : Below w.heap.size w w10 := below_tr HS9.out B10
   have HF9 := Lib.hid (And.intro rf (And.intro ndf (fun y hy => by have := hbf y hy; simp at this; omega : ∀ y ∈ bsf, V9.heap.size ≤ y)))
   obtain ⟨Q, hQ⟩ : ∃ Q, Q = finF (splitQ p k lo a hi) := ⟨_, rfl⟩
   rw [← hQ] at HF9 ⊢
   have HQ9 := Lib.hid hQ
   clear rf ndf hbf b10 hQ y0 y1 a0 a1 c0 c1 B10
   go_wp2
   have hnb : w.heap.size + 1 ∉ bsf := fun hm => by have := HF9.out.2.2 _ hm; omega
   exact bodyPost_ret (v := .tuple #[.agg #[.slice A1f Q.1.arrays.length c1f, .slice A2f Q.1.parts.length c2f], .bool Q.2]) (by simp [results, Tryz.results9, go_sem, r0, r1, ltR]) rfl (by rw [← HQ9.out]; exact ⟨_, _, _, _, bsf, rfl, Rep.keep _ HF9.out.1 (((Keeps.refl _ _).setCell hnb _).setCell hnb _), HF9.out.2.1, fun y hy => by have := HF9.out.2.2 y hy; omega, (S10.setCell (by simp) _).setCell (by simp) _⟩)
end Go.Proofs.YtgogjbnneoadkaaGreat
