/- DistributePart of the reference: the loop and what follows. -/
import Derived.Test.YtgogjbnneoadkaaGreatZdBegun
import Derived.Test.YtgogjbnneoadkaaGreatZdSplitS
import Derived.Test.YtgogjbnneoadkaaGreatZdDeps1
import Derived.Test.YtgogjbnneoadkaaGreatZdOrder
set_option linter.all false
set_option maxHeartbeats 8000000
set_option maxRecDepth 100000
namespace Go.Proofs.YtgogjbnneoadkaaGreat
open Go.ChangeShapes Go.WideShapes Go.ChangeAt Go.RowKit Go.Deep
theorem DistS_n {w : World} {p : Pgm} {k m : Int} {cs : List Value} {bs : List Nat} (h : Rep w p.d cs bs) (hz : szD p.d ≤ 10000000) (hh : distB p k m = false) :
  Calls Tryz.prog 15 #[.agg cs.toArray, .int .i64 k, .int .i64 m] w (MadePgmB w (⟨[], []⟩, false)) := by
 have HH := Lib.hid h
 obtain ⟨A1, c1, A2, c2, d1, d2, rfl, rfl, g1, g2⟩ := Rep.pgm_iff.1 h
 have HB := Lib.hid hh
 clear g1 g2 h hh
 go_enter Tryz.func15, Tryz.ntmps15
 go_wp2_with fail
 refine (l16OwnProgram_c (HH.out.below bel) hz).mono ?_
 rintro e w1 ⟨cs1, bs1, rfl, r1, nd1, hb1, b1⟩
 obtain ⟨A1c, c1c, A2c, c2c, e1, e2, rfl, rfl, -, -⟩ := Rep.pgm_iff.1 r1
 have X0 : BoxW w1 w.heap.size (.slice A1 p.arrays.length c1) (.slice A2 p.parts.length c2) := BoxW.to ⟨⟨by go_simp, by go_simp⟩, by go_simp, by go_simp⟩ b1
 have X1 : BoxW w1 (w.heap.size + 1) (.slice none 0 0) (.slice none 0 0) := BoxW.to ⟨⟨by go_simp, by go_simp⟩, by go_simp, by go_simp⟩ b1
 have S1 : Below w.heap.size w w1 := bel
 have hge : ∀ y ∈ e1 ++ e2, w.heap.size + 2 ≤ y := fun y hy => by have := hb1 y hy; simp at this; omega
 have hno : w.heap.size ∉ e1 ++ e2 := fun hm => by have := hge _ hm; omega
 have R1 := Lib.hid (Rep.keep _ r1 (((Keeps.refl _ _).setCell (p := ⟨w.heap.size, 0, none⟩) hno (.slice A1c p.arrays.length c1c)).setCell (p := ⟨w.heap.size, 1, none⟩) hno (.slice A2c p.parts.length c2c)))
 have HX1 := Lib.hid X1
 obtain ⟨⟨m1, m2⟩, m3, m4⟩ := X0
 have lt0 := lt_of_cell m1
 clear r1 nd1 hb1 b1 hge hno X1
 go_wp2_with fail
 refine (specProgramValid_c R1.out).mono ?_
 rintro e w2 ⟨rfl, b2⟩
 obtain ⟨W1, hW1⟩ : ∃ W1, W1 = (w1.setCell ⟨w.heap.size, 0, none⟩ (.slice A1c p.arrays.length c1c)).setCell ⟨w.heap.size, 1, none⟩ (.slice A2c p.parts.length c2c) := ⟨_, rfl⟩
 have X2 : BoxW W1 (w.heap.size + 1) (.slice none 0 0) (.slice none 0 0) := by rw [hW1]; exact ⟨Box2.set (Box2.set HX1.out.1 (by simp) _) (by simp) _, by rw [World.frozen?_setCell, World.frozen?_setCell]; exact HX1.out.2.1, by rw [World.frozen?_setCell, World.frozen?_setCell]; exact HX1.out.2.2⟩
 have XA : Box2 W1 w.heap.size (.slice A1c p.arrays.length c1c) (.slice A2c p.parts.length c2c) := by
  rw [hW1]
  have e1 : (w1.setCell ⟨w.heap.size, 0, none⟩ (.slice A1c p.arrays.length c1c)).cell? ⟨w.heap.size, 1, none⟩ = some (.slice A2 p.parts.length c2) := by rw [World.cell?_setCell_other _ _ _ _ (by simp)]; exact m2
  exact ⟨by rw [World.cell?_setCell_other _ _ _ _ (by simp)]; exact World.cell?_setCell_same _ _ _ m1, World.cell?_setCell_same _ _ _ e1⟩
 have SW : Below w.heap.size w W1 := by rw [hW1]; exact (S1.setCell (by simp) _).setCell (by simp) _
 have S2 : Below w.heap.size w w2 := by rw [← hW1] at b2; exact below_tr SW b2
 rw [← hW1] at R1 b2
 have R2 := Lib.hid (R1.out.below b2)
 obtain ⟨⟨p0, p1⟩, z0, z1⟩ := X2.to b2
 obtain ⟨y0, y1⟩ := XA.to b2
 have lta := lt_of_cell y0
 have ltr := lt_of_cell p0
 clear hW1 b2 m1 m2 m3 m4 R1 X2 XA HX1 S1 SW
 cases hv : progOk p with
 | false =>
  clear hv
  go_wp2
  exact bodyPost_ret (v := .tuple #[.agg #[.slice none 0 0, .slice none 0 0], .bool false]) (by simp [results, Tryz.results15, go_sem, p0, p1, ltr]) rfl (MadePgmB.nil bel)
 | true =>
  have HV := Lib.hid hv; clear hv
  by_cases h0 : 0 ≤ k
  case neg =>
   go_wp2
   exact bodyPost_ret (v := .tuple #[.agg #[.slice none 0 0, .slice none 0 0], .bool false]) (by simp [results, Tryz.results15, go_sem, p0, p1, ltr]) rfl (MadePgmB.nil bel)
  by_cases h1 : k < (p.parts.length : Int)
  case neg =>
   go_wp2
   exact bodyPost_ret (v := .tuple #[.agg #[.slice none 0 0, .slice none 0 0], .bool false]) (by simp [results, Tryz.results15, go_sem, p0, p1, ltr]) rfl (MadePgmB.nil bel)
  obtain ⟨q, rfl⟩ := Int.eq_ofNat_of_zero_le h0
  have hq : q < p.parts.length := by omega
  by_cases h2 : 1 ≤ m
  case neg =>
   go_wp2
   exact bodyPost_ret (v := .tuple #[.agg #[.slice none 0 0, .slice none 0 0], .bool false]) (by simp [results, Tryz.results15, go_sem, p0, p1, ltr]) rfl (MadePgmB.nil bel)
  have h3 : ¬ m < (p.parts[q].body.length : Int) := fun h3 => by
   have := HB.out
   rw [distB, HV.out, inB_true h0 (by omega), prtF_eq hq, inB_true h2 (by omega)] at this
   cases this
  obtain ⟨A1x, c1x, A2x, c2x, f1, f2, ef, -, -, gP⟩ := Rep.pgm_iff.1 R2.out
  simp only [List.cons.injEq, Value.slice.injEq, true_and, and_true] at ef
  obtain ⟨⟨rfl, rfl⟩, rfl, rfl⟩ := ef
  have GP := Lib.hid gP
  clear gP
  obtain ⟨bg, og, csg, lg, rfl, hblg, hrg, _, _, hcg⟩ := GP.out.sls_at Prt.d_size (k := q) hq
  have Gg := Lib.hid hrg
  obtain ⟨A1g, c1g, A2g, c2g, d1g, d2g, rfl, rfl, g1g, g2g⟩ := Rep.prt_iff.1 hrg
  have k0g := (hcg 0 _ rfl).1; rw [Nat.add_zero] at k0g
  have k1g := (hcg 1 _ rfl).1
  have Q1g := Lib.hid g1g
  have Q2g := Lib.hid g2g
  clear hcg hrg g1g g2g
  have hnn : p.parts[q].body.length ≤ 1000000 := ((pgm_sm HV.out).2.2.2 _ (List.getElem_mem hq)).2.2.1
  go_wp2
  exact bodyPost_ret (v := .tuple #[.agg #[.slice none 0 0, .slice none 0 0], .bool false]) (by simp [results, Tryz.results15, go_sem, p0, p1, ltr]) rfl (MadePgmB.nil bel)
theorem DistS_l {w : World} {p : Pgm} {k m : Nat} {cs : List Value} {bs : List Nat} (h : Rep w p.d cs bs) (hz : szD p.d ≤ 10000000) (hh : distB p (k : Int) (m : Int) = true) :
  Calls Tryz.prog 15 #[.agg cs.toArray, .int .i64 (k : Int), .int .i64 (m : Int)] w (MadePgmB w (DistributePartF p (k : Int) (m : Int))) := by
 have HH := Lib.hid h
 obtain ⟨A1, c1, A2, c2, d1, d2, rfl, rfl, g1, g2⟩ := Rep.pgm_iff.1 h
 have HB := Lib.hid hh
 clear g1 g2 h hh
 go_enter Tryz.func15, Tryz.ntmps15
 go_wp2_with fail
 refine (l16OwnProgram_c (HH.out.below bel) hz).mono ?_
 rintro e w1 ⟨cs1, bs1, rfl, r1, nd1, hb1, b1⟩
 obtain ⟨A1c, c1c, A2c, c2c, e1, e2, rfl, rfl, -, -⟩ := Rep.pgm_iff.1 r1
 have X0 : BoxW w1 w.heap.size (.slice A1 p.arrays.length c1) (.slice A2 p.parts.length c2) := BoxW.to ⟨⟨by go_simp, by go_simp⟩, by go_simp, by go_simp⟩ b1
 have X1 : BoxW w1 (w.heap.size + 1) (.slice none 0 0) (.slice none 0 0) := BoxW.to ⟨⟨by go_simp, by go_simp⟩, by go_simp, by go_simp⟩ b1
 have S1 : Below w.heap.size w w1 := bel
 have hge : ∀ y ∈ e1 ++ e2, w.heap.size + 2 ≤ y := fun y hy => by have := hb1 y hy; simp at this; omega
 have hno : w.heap.size ∉ e1 ++ e2 := fun hm => by have := hge _ hm; omega
 have R1 := Lib.hid (Rep.keep _ r1 (((Keeps.refl _ _).setCell (p := ⟨w.heap.size, 0, none⟩) hno (.slice A1c p.arrays.length c1c)).setCell (p := ⟨w.heap.size, 1, none⟩) hno (.slice A2c p.parts.length c2c)))
 have HX1 := Lib.hid X1
 obtain ⟨⟨m1, m2⟩, m3, m4⟩ := X0
 have lt0 := lt_of_cell m1
 clear r1 nd1 hb1 b1 hge hno X1
 go_wp2_with fail
 refine (specProgramValid_c R1.out).mono ?_
 rintro e w2 ⟨rfl, b2⟩
 obtain ⟨W1, hW1⟩ : ∃ W1, W1 = (w1.setCell ⟨w.heap.size, 0, none⟩ (.slice A1c p.arrays.length c1c)).setCell ⟨w.heap.size, 1, none⟩ (.slice A2c p.parts.length c2c) := ⟨_, rfl⟩
 have X2 : BoxW W1 (w.heap.size + 1) (.slice none 0 0) (.slice none 0 0) := by rw [hW1]; exact ⟨Box2.set (Box2.set HX1.out.1 (by simp) _) (by simp) _, by rw [World.frozen?_setCell, World.frozen?_setCell]; exact HX1.out.2.1, by rw [World.frozen?_setCell, World.frozen?_setCell]; exact HX1.out.2.2⟩
 have XA : Box2 W1 w.heap.size (.slice A1c p.arrays.length c1c) (.slice A2c p.parts.length c2c) := by
  rw [hW1]
  have e1 : (w1.setCell ⟨w.heap.size, 0, none⟩ (.slice A1c p.arrays.length c1c)).cell? ⟨w.heap.size, 1, none⟩ = some (.slice A2 p.parts.length c2) := by rw [World.cell?_setCell_other _ _ _ _ (by simp)]; exact m2
  exact ⟨by rw [World.cell?_setCell_other _ _ _ _ (by simp)]; exact World.cell?_setCell_same _ _ _ m1, World.cell?_setCell_same _ _ _ e1⟩
 have SW : Below w.heap.size w W1 := by rw [hW1]; exact (S1.setCell (by simp) _).setCell (by simp) _
 have S2 : Below w.heap.size w w2 := by rw [← hW1] at b2; exact below_tr SW b2
 rw [← hW1] at R1 b2
 have R2 := Lib.hid (R1.out.below b2)
 have HX2 := Lib.hid (X2.to b2)
 have HA2 := Lib.hid (XA.to b2)
 clear hW1 b2 m1 m2 m3 m4 R1 X2 XA HX1 S1 SW
 obtain ⟨hv, k', m', hk', hm', hq, h1, h2⟩ := distB_y HB.out
 obtain rfl : k = k' := by omega
 obtain rfl : m = m' := by omega
 clear hk' hm'
 have HV := Lib.hid hv
 obtain ⟨A1x, c1x, A2x, c2x, f1, f2, ef, -, -, gP⟩ := Rep.pgm_iff.1 R2.out
 simp only [List.cons.injEq, Value.slice.injEq, true_and, and_true] at ef
 obtain ⟨⟨rfl, rfl⟩, rfl, rfl⟩ := ef
 have GP := Lib.hid gP
 clear gP hv
 have hln : (instsF p).length ≤ 120 := (progOk_all HV.out).2.2
 rw [HV.out]
 obtain ⟨⟨p0, p1⟩, z0, z1⟩ := HX2.out
 obtain ⟨y0, y1⟩ := HA2.out
 have lta := lt_of_cell y0
 have ltr := lt_of_cell p0
 obtain ⟨bg, og, csg, lg, rfl, hblg, hrg, _, _, hcg⟩ := GP.out.sls_at Prt.d_size (k := k) hq
 have Gg := Lib.hid hrg
 obtain ⟨A1g, c1g, A2g, c2g, d1g, d2g, rfl, rfl, g1g, g2g⟩ := Rep.prt_iff.1 hrg
 have k0g := (hcg 0 _ rfl).1; rw [Nat.add_zero] at k0g
 have k1g := (hcg 1 _ rfl).1
 have Q1g := Lib.hid g1g
 have Q2g := Lib.hid g2g
 clear hcg hrg g1g g2g
 obtain ⟨bb, ob, _, _, rfl, _, _, _, _, _⟩ := Q2g.out.sls_at Stm.d_size (k := 0) (by omega)
 have hgl := Q2g.out.sls_len
 have hg2 : p.parts[k].body.length ≤ c2g := hgl.2.1
 have hg3 : c2g ≤ 9223372036854775807 := hgl.2.2
 clear hgl
 have HK := Lib.hid (And.intro k0g k1g)
 have hnn : p.parts[k].body.length ≤ 1000000 := ((pgm_sm HV.out).2.2.2 _ (List.getElem_mem hq)).2.2.1
 have hkb : (k : Int) < (p.parts.length : Int) := by omega
 have hmb : (m : Int) < (p.parts[k].body.length : Int) := by omega
 go_wp2_with fail
 refine (l4Instances_c R2.out HV.out).mono ?_
 rintro e w3 ⟨A3, n3, c3, bs3, rfl, r3, -, -, b3⟩
 obtain ⟨rfl, -, -⟩ := r3.sls_len
 have HX3 := Lib.hid (HX2.out.to b3)
 have HA3 := Lib.hid (HA2.out.to b3)
 have R3 := Lib.hid (R2.out.below b3)
 have S3 := below_tr S2 b3
 have L3 := Lib.hid r3
 have T3 := Lib.hid b3
 clear p0 p1 z0 z1 y0 y1 lta ltr k0g k1g b3 r3
 obtain ⟨⟨p0, p1⟩, z0, z1⟩ := HX3.out
 obtain ⟨y0, y1⟩ := HA3.out
 have lta := lt_of_cell y0
 go_wp2_with fail
 refine (l6Deps_c R3.out HV.out).mono ?_
 rintro e w4 ⟨A4, c4, bs4, rfl, r4, -, -, b4⟩
 have HX4 := Lib.hid (HX3.out.to b4)
 have HA4 := Lib.hid (HA3.out.to b4)
 have R4 := Lib.hid (R3.out.below b4)
 have L4 := Lib.hid (L3.out.below b4)
 have S4 := below_tr S3 b4
 have T4 := Lib.hid (below_tr T3.out b4)
 obtain ⟨ds, hds⟩ : ∃ ds, ds = depsF (usesF p) := ⟨_, rfl⟩
 rw [← hds] at r4 ⊢
 have HM := Lib.hid (show ∀ d ∈ ds, DpOk (usesF p) d from fun d hd => depsF_mem d (by rw [← hds]; exact hd))
 have HBD := Lib.hid (show badF p (k : Int) (m : Int) = (ds.drop 0).any (hitD p (k : Int) (m : Int)) by rw [badF, hds]; rfl)
 have D4 := Lib.hid r4
 obtain ⟨-, h41, h42⟩ := r4.sls_len
 have hdn : ds.length ≤ 9223372036854775807 := Nat.le_trans h41 h42
 clear h41 h42
 clear p0 p1 z0 z1 y0 y1 lta b4 r4 hds
 go_wp2
 go_loopw [10] (fun i wr => ∃ j : Nat, j ≤ ds.length ∧ i = .int .i64 j ∧ badF p (k : Int) (m : Int) = (ds.drop j).any (hitD p (k : Int) (m : Int)) ∧ Below w4.heap.size w4 wr) (fun i _ => ds.length - (intOf i).toNat)
 case atStart => exact ⟨0, Nat.zero_le _, rfl, HBD.out, Below.refl _ _⟩
 case round =>
  obtain ⟨j, hj, rfl, hbd, hb⟩ := hrel
  have HBJ := Lib.hid hbd
  clear hbd
  by_cases hlt : j < ds.length
  case neg =>
   have hbad : badF p (k : Int) (m : Int) = false := by rw [HBJ.out, show j = ds.length by omega, any_end]
   have HBAD := Lib.hid hbad
   have T5 := Lib.hid (below_tr T4.out hb)
   have HX5 := Lib.hid (HX4.out.to hb)
   have S5 := Lib.hid (below_tr S4 hb)
   have R5 := Lib.hid (R4.out.below hb)
   obtain ⟨y0, y1⟩ := HA4.out.to hb
   have lta := lt_of_cell y0
   have k0 := cell_toC HK.out.1 T5.out
   have k1 := cell_toC HK.out.2 T5.out
   have ltb := lt_of_cell k0
   have hcm : ¬ c2g = m := by omega
   have hmc : m ≤ c2g := by omega
   have hmn : m ≤ p.parts[k].body.length := by omega
   obtain ⟨bt, rt, _⟩ := (Q2g.out.below T5.out).sls_take (k := m) (by omega)
   obtain ⟨bd, rd, _⟩ := (Q2g.out.below T5.out).sls_drop Stm.d_size (k := m) (by omega)
   have P1 := Lib.hid (show Rep wr (⟨p.parts[k].nest, p.parts[k].body.take m⟩ : Prt).d [.slice A1g p.parts[k].nest.length c1g, .slice (some ⟨bb, ob, none⟩) m c2g] (d1g ++ bt) from Rep.prt_iff.2 ⟨A1g, c1g, some ⟨bb, ob, none⟩, c2g, d1g, bt, by rw [List.length_take, Nat.min_eq_left (by omega)], rfl, Q1g.out.below T5.out, by rw [List.length_take, Nat.min_eq_left (by omega)]; exact rt⟩)
   have P2 := Lib.hid (show Rep wr (⟨p.parts[k].nest, p.parts[k].body.drop m⟩ : Prt).d [.slice A1g p.parts[k].nest.length c1g, .slice (some ⟨bb, ob + m * 9, none⟩) (p.parts[k].body.length - m) (c2g - m)] (d1g ++ bd) from Rep.prt_iff.2 ⟨A1g, c1g, some ⟨bb, ob + m * 9, none⟩, c2g - m, d1g, bd, by rw [List.length_drop], rfl, Q1g.out.below T5.out, by rw [List.length_drop]; exact rd⟩)
   have EQ := Lib.hid (show withQ p k 1 [⟨p.parts[k].nest, p.parts[k].body.take m⟩, ⟨p.parts[k].nest, p.parts[k].body.drop m⟩] = distQ p k m by rw [distQ, prtF_eq hq])
   obtain ⟨bsy, ry⟩ : ∃ bsy, Rep ((wr.alloc (.cells #[.slice A1g p.parts[k].nest.length c1g, .slice (some ⟨bb, ob, none⟩) p.parts[k].body.length c2g] 54)).alloc (.cells #[.slice A1g p.parts[k].nest.length c1g, .slice (some ⟨bb, ob, none⟩) m c2g, .slice A1g p.parts[k].nest.length c1g, .slice (some ⟨bb, ob + m * 9, none⟩) (p.parts[k].body.length - m) (c2g - m)] 54)).drew (sls Prt.d [⟨p.parts[k].nest, p.parts[k].body.take m⟩, ⟨p.parts[k].nest, p.parts[k].body.drop m⟩]) [.slice (some ⟨wr.heap.size + 1, 0, none⟩) 2 2] bsy := by
    have h := (two_newW (wr.alloc (.cells #[.slice A1g p.parts[k].nest.length c1g, .slice (some ⟨bb, ob, none⟩) p.parts[k].body.length c2g] 54)) (P1.out.below (below_al (Below.refl _ _) _)) (P2.out.below (below_al (Below.refl _ _) _)) 54).drewN 1
    rw [show (wr.alloc (.cells #[.slice A1g p.parts[k].nest.length c1g, .slice (some ⟨bb, ob, none⟩) p.parts[k].body.length c2g] 54)).heap.size = wr.heap.size + 1 by simp] at h
    exact ⟨_, h⟩
   have RY := Lib.hid ry
   have RP5 := Lib.hid (show Rep ((wr.alloc (.cells #[.slice A1g p.parts[k].nest.length c1g, .slice (some ⟨bb, ob, none⟩) p.parts[k].body.length c2g] 54)).alloc (.cells #[.slice A1g p.parts[k].nest.length c1g, .slice (some ⟨bb, ob, none⟩) m c2g, .slice A1g p.parts[k].nest.length c1g, .slice (some ⟨bb, ob + m * 9, none⟩) (p.parts[k].body.length - m) (c2g - m)] 54)).drew p.d [.slice A1c p.arrays.length c1c, .slice (some ⟨bg, og, none⟩) p.parts.length c2c] _ from (R5.out.below (below_al (below_al (Below.refl _ _) _) _)).drewN 1)
   clear rt rd hbad hb ry
   go_upto_region 14 with (fail)
   refine wp_region_noPanic ?_
   refine wp_regionT (S := fun w' => w'.cell? ⟨w.heap.size, 0, none⟩ = some (.slice A1c p.arrays.length c1c) ∧ w'.cell? ⟨w.heap.size, 1, none⟩ = some (.slice (some ⟨bg, og, none⟩) p.parts.length c2c) ∧ w'.cell? ⟨wr.heap.size, 0, none⟩ = some (.slice A1g p.parts[k].nest.length c1g) ∧ w'.cell? ⟨wr.heap.size, 1, none⟩ = some (.slice (some ⟨bb, ob, none⟩) p.parts[k].body.length c2g)) 20 (by kernel_rfl) (⟨by go_simp, by go_simp, by go_simp, by go_simp⟩) (fun hHeld => ?_)
   refine goT 0 hHeld ?_
   refine goU 1 (fun _ => hHeld) ?_
   refine goU 2 (fun _ => hHeld) ?_
   refine goT 3 hHeld ?_
   refine goU 4 (fun _ => hHeld) ?_
   refine goT 5 hHeld ?_
   refine goU 6 (fun _ => hHeld) ?_
   refine goU 7 (fun _ => hHeld) ?_
   refine goU 8 (fun _ => hHeld) ?_
   refine goU 9 (fun _ => hHeld) ?_
   refine goT 10 hHeld ?_
   refine goU 11 (fun _ => hHeld) ?_
   refine goT 12 hHeld ?_
   refine goU 13 (fun _ => hHeld) ?_
   refine goU 14 (fun _ => hHeld) ?_
   refine goU 15 (fun _ => hHeld) ?_
   refine readyT (rs := [16]) (by kernel_rfl) (by simp) (all1 ?_)
   refine opT (i := 16) rfl (wanted_none rfl) (fun K hK => ?_)
   (unfold Oper.wp; go_simp)
   refine hK.out _ _ (⟨cell_al hHeld.1, cell_al hHeld.2.1, cell_al hHeld.2.2.1, cell_al hHeld.2.2.2⟩) (fun hHeld => ?_)
   clear hK K
   try simp only [Act.put, aq0, aq1, aq2]
   refine readyT (rs := [17]) (by kernel_rfl) (by simp) (all1 ?_)
   refine opT (i := 17) rfl (wanted_none rfl) (fun K hK => ?_)
   go_simp
   (refine (l8With_1 (ys := [⟨p.parts[k].nest, p.parts[k].body.take m⟩, ⟨p.parts[k].nest, p.parts[k].body.drop m⟩]) RP5.out RY.out (pgm_sm HV.out) hq (by simp)).mono ?_; rw [EQ.out]; rintro e w10 ⟨A1f, c1f, A2f, c2f, bsf, rfl, rf, ndf, hbf, b10⟩; have B10 : Below wr.heap.size wr w10 := below_tr (below_al (below_al (Below.refl _ _) _) _) (of_drew b10); have hbf2 : ∀ y ∈ bsf, wr.heap.size ≤ y := (fun y hy => by (have := hbf y hy; simp at this; omega)); have HF9 := Lib.hid (And.intro rf (And.intro ndf hbf2)); have XR := Lib.hid (HX5.out.to B10); have S10 := Lib.hid (below_tr S5.out B10); clear rf ndf hbf hbf2 B10; obtain ⟨Q, hQ⟩ : ∃ Q, Q = finF (distQ p k m) := ⟨_, rfl⟩; rw [← hQ] at HF9 ⊢; have HQ9 := Lib.hid hQ; clear hQ)
   go_wp2_with fail
   refine hK.out _ _ (⟨cell_toC hHeld.1 b10, cell_toC hHeld.2.1 b10, cell_toC hHeld.2.2.1 b10, cell_toC hHeld.2.2.2 b10⟩) (fun hHeld => ?_)
   clear hK K
   try simp only [Act.put, aq0, aq1, aq2]
   refine goU 18 (fun _ => hHeld) ?_
   refine goU 19 (fun _ => hHeld) ?_
   refine readyT (rs := [20]) (by kernel_rfl) (by simp) (all1 ?_)
   refine opTT (i := 20) rfl (wanted_none rfl) (by kernel_rfl) (fun K hK => ?_)
   (obtain ⟨⟨r0, r1⟩, r2, r3⟩ := XR.out; have ltR := lt_of_cell r0; unfold Oper.wp; go_simp)
   refine hK.out _ _ ?_
   clear hK K
   try simp only [Act.put, aq0, aq1, aq2]
   refine goU 21 (fun h => absurd h (by decide)) ?_
   refine wpAnyT_done (by kernel_rfl) ?_ _
   refine NoPanic.normal ?_
   (go_wp2; have ltr5 := HX5.out; have hnb : w.heap.size + 1 ∉ bsf := (fun hm => by (have h1 := HF9.out.2.2 _ hm; have h2 := lt_of_cell ltr5.1.1; omega)); exact bodyPost_ret (v := .tuple #[.agg #[.slice A1f Q.1.arrays.length c1f, .slice A2f Q.1.parts.length c2f], .bool Q.2]) (by simp [results, Tryz.results15, go_sem, r0, r1, ltR]) rfl (by rw [dist_y HB.out HBAD.out, ← HQ9.out]; exact ⟨_, _, _, _, bsf, rfl, Rep.keep _ HF9.out.1 (((Keeps.refl _ _).setCell hnb _).setCell hnb _), HF9.out.2.1, fun y hy => by (have h1 := HF9.out.2.2 y hy; have h2 := S5.out.size; omega), (S10.out.setCell (by simp) _).setCell (by simp) _⟩))
  have dp := HM.out ds[j] (List.getElem_mem hlt)
  obtain ⟨a, hfa⟩ := Int.eq_ofNat_of_zero_le dp.f0
  obtain ⟨b, htb⟩ := Int.eq_ofNat_of_zero_le (show 0 ≤ ds[j].to_ by have := dp.ft; have := dp.f0; omega)
  have ul : (usesF p).length = (instsF p).length := usesF_len p
  have hbl : b < (instsF p).length := by have := dp.t1; rw [htb, ul] at this; omega
  have hal : a < (instsF p).length := by have := dp.ft; rw [htb, hfa] at this; omega
  have HIT := Lib.hid (show hitD p (k : Int) (m : Int) ds[j] = hitF (k : Int) (m : Int) (instsF p)[a] (instsF p)[b] by rw [hitD, hfa, htb, nthIn_eq hal, nthIn_eq hbl])
  have HSTEP := Lib.hid (HBJ.out.trans (any_at (f := hitD p (k : Int) (m : Int)) hlt))
  obtain ⟨bd, od, csd, ld, rfl, hbld, hrd, _, _, hcd⟩ := (D4.out.below hb).sls_at Dp.d_size (k := j) hlt
  have Gd := Lib.hid hrd
  obtain ⟨rfl, rfl, g1d, g2d, g3d⟩ := Rep.dp_iff.1 hrd
  have k0d := (hcd 0 _ rfl).1; rw [Nat.add_zero] at k0d
  have k1d := (hcd 1 _ rfl).1
  have k2d := (hcd 2 _ rfl).1
  have Q1d := Lib.hid g1d
  have Q2d := Lib.hid g2d
  have Q3d := Lib.hid g3d
  clear hcd hrd g1d g2d g3d
  rw [hfa] at k0d
  rw [htb] at k1d
  obtain ⟨bx, ox, csx, lx, rfl, hblx, hrx, _, _, hcx⟩ := (L4.out.below hb).sls_at In.d_size (k := a) hal
  have Gx := Lib.hid hrx
  obtain ⟨A3x, c3x, d3x, rfl, rfl, g1x, g2x, g3x⟩ := Rep.in_iff.1 hrx
  have k0x := (hcx 0 _ rfl).1; rw [Nat.add_zero] at k0x
  have k1x := (hcx 1 _ rfl).1
  have k2x := (hcx 2 _ rfl).1
  have Q1x := Lib.hid g1x
  have Q2x := Lib.hid g2x
  have Q3x := Lib.hid g3x
  clear hcx hrx g1x g2x g3x
  obtain ⟨bz, oz, csz, lz, heqz, hblz, hrz, _, _, hcz⟩ := (L4.out.below hb).sls_at In.d_size (k := b) hbl
  obtain ⟨rfl, rfl⟩ : bx = bz ∧ ox = oz := by simpa using heqz
  have Gz := Lib.hid hrz
  obtain ⟨A3z, c3z, d3z, rfl, rfl, g1z, g2z, g3z⟩ := Rep.in_iff.1 hrz
  have k0z := (hcz 0 _ rfl).1; rw [Nat.add_zero] at k0z
  have k1z := (hcz 1 _ rfl).1
  have k2z := (hcz 2 _ rfl).1
  have Q1z := Lib.hid g1z
  have Q2z := Lib.hid g2z
  have Q3z := Lib.hid g3z
  clear hcz hrz g1z g2z g3z
  clear dp ul hfa htb
  obtain ⟨ia, hia⟩ : ∃ ia, ia = (instsF p)[a] := ⟨_, rfl⟩
  obtain ⟨iz, hiz⟩ : ∃ iz, iz = (instsF p)[b] := ⟨_, rfl⟩
  rw [← hia, ← hiz] at HIT
  rw [← hia] at k0x k1x k2x
  rw [← hiz] at k0z k1z k2z
  clear hia hiz
  go_upto_region 11 with (fail)
  obtain ⟨W2, hW2⟩ : ∃ W2, W2 = (wr.alloc (.cells #[.int .i64 ia.part, .int .i64 ia.stmt, .slice A3x ia.point.length c3x] 84)).alloc (.cells #[.int .i64 iz.part, .int .i64 iz.stmt, .slice A3z iz.point.length c3z] 84) := ⟨_, rfl⟩
  have bw : Below wr.heap.size wr W2 := by rw [hW2]; exact below_al (below_al (Below.refl _ _) _) _
  have row1 : Row W2 wr.heap.size 84 [.int .i64 ia.part, .int .i64 ia.stmt, .slice A3x ia.point.length c3x] := by
   rw [hW2]
   exact (Row.new wr [.int .i64 ia.part, .int .i64 ia.stmt, .slice A3x ia.point.length c3x] 84).to (below_al (Below.refl _ _) _)
  have row2 : Row W2 (wr.heap.size + 1) 84 [.int .i64 iz.part, .int .i64 iz.stmt, .slice A3z iz.point.length c3z] := by
   rw [hW2]
   have h := Row.new (wr.alloc (.cells #[.int .i64 ia.part, .int .i64 ia.stmt, .slice A3x ia.point.length c3x] 84)) [.int .i64 iz.part, .int .i64 iz.stmt, .slice A3z iz.point.length c3z] 84
   rwa [show (wr.alloc (.cells #[.int .i64 ia.part, .int .i64 ia.stmt, .slice A3x ia.point.length c3x] 84)).heap.size = wr.heap.size + 1 by simp] at h
  rw [← hW2]
  clear hW2
  have a0 := row1.cell 0
  have a1 := row1.cell 1
  have y0 := row2.cell 0
  have y1 := row2.cell 1
  have la := row1.lt
  have lc := row2.lt
  simp only [List.getElem?_cons_zero, List.getElem?_cons_succ] at a0 a1 y0 y1
  have S8 := Lib.hid (below_tr (below_tr S4 hb) bw)
  obtain ⟨⟨r0, r1⟩, r2, r3⟩ := HX4.out.to (below_tr hb bw)
  have ltq := lt_of_cell r0
  clear row1 row2 k0d k1d k2d k0x k1x k2x k0z k1z k2z
  by_cases d1 : ia.part = (k : Int)
  case neg =>
   have q1 : (ia.part == (k : Int)) = false := by simpa using d1
   have hh : hitF (k : Int) (m : Int) ia iz = false := by simp [hitF, d1]
   have HN := Lib.hid (show badF p (k : Int) (m : Int) = (ds.drop (j + 1)).any (hitD p (k : Int) (m : Int)) by rw [HSTEP.out, HIT.out, hh, Bool.false_or])
   clear hh
   go_wp2
   go_roundw
   case rel => exact ⟨j + 1, hlt, by go_num, HN.out, below_tr hb bw⟩
   case measure => (simp [intOf]; omega)
  have q1 : (ia.part == (k : Int)) = true := by simpa using d1
  by_cases d2 : iz.part = (k : Int)
  case neg =>
   have q2 : (iz.part == (k : Int)) = false := by simpa using d2
   have hh : hitF (k : Int) (m : Int) ia iz = false := by simp [hitF, d2]
   have HN := Lib.hid (show badF p (k : Int) (m : Int) = (ds.drop (j + 1)).any (hitD p (k : Int) (m : Int)) by rw [HSTEP.out, HIT.out, hh, Bool.false_or])
   clear hh
   go_wp2
   go_roundw
   case rel => exact ⟨j + 1, hlt, by go_num, HN.out, below_tr hb bw⟩
   case measure => (simp [intOf]; omega)
  have q2 : (iz.part == (k : Int)) = true := by simpa using d2
  by_cases d4 : (m : Int) ≤ ia.stmt
  case neg =>
   have hh : hitF (k : Int) (m : Int) ia iz = false := by simp [hitF, d4]
   have HN := Lib.hid (show badF p (k : Int) (m : Int) = (ds.drop (j + 1)).any (hitD p (k : Int) (m : Int)) by rw [HSTEP.out, HIT.out, hh, Bool.false_or])
   clear hh
   go_wp2
   go_roundw
   case rel => exact ⟨j + 1, hlt, by go_num, HN.out, below_tr hb bw⟩
   case measure => (simp [intOf]; omega)
  by_cases d3 : iz.stmt < (m : Int)
  case neg =>
   have hh : hitF (k : Int) (m : Int) ia iz = false := by simp [hitF, d3]
   have HN := Lib.hid (show badF p (k : Int) (m : Int) = (ds.drop (j + 1)).any (hitD p (k : Int) (m : Int)) by rw [HSTEP.out, HIT.out, hh, Bool.false_or])
   clear hh
   go_wp2
   go_roundw
   case rel => exact ⟨j + 1, hlt, by go_num, HN.out, below_tr hb bw⟩
   case measure => (simp [intOf]; omega)
  have hh0 : hitF (k : Int) (m : Int) ia iz = true := by rw [hitF, decide_eq_true d1, decide_eq_true d2, decide_eq_true d3, decide_eq_true d4]; rfl
  have hh : badF p (k : Int) (m : Int) = true := by rw [HSTEP.out, HIT.out, hh0, Bool.true_or]
  have HHB := Lib.hid hh
  clear hh0 hh
  go_wp2
  have Sr := S8.out
  exact bodyPost_ret (v := .tuple #[.agg #[.slice none 0 0, .slice none 0 0], .bool false]) (by simp [results, Tryz.results15, go_sem, r0, r1, ltq]) rfl (by rw [dist_bad HHB.out]; exact MadePgmB.nil bel)
theorem specDistributePart_c {w : World} {p : Pgm} {k m : Int} {cs : List Value} {bs : List Nat} (h : Rep w p.d cs bs) (hz : szD p.d ≤ 1048576) :
  Calls Tryz.prog 15 #[.agg cs.toArray, .int .i64 k, .int .i64 m] w (MadePgmB w (DistributePartF p k m)) := by
 cases hb : distB p k m with
 | true =>
  obtain ⟨hv, q, n, rfl, rfl, hq, h1, h2⟩ := distB_y hb
  exact DistS_l h (by omega) hb
 | false =>
  rw [dist_no hb]
  exact DistS_n h (by omega) hb
end Go.Proofs.YtgogjbnneoadkaaGreat
