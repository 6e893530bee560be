/- SplitLoop of the reference. -/
import Derived.Test.YtgogjbnneoadkaaGreatZtBegun
import Derived.Test.YtgogjbnneoadkaaGreatZtBasic
import Derived.Test.YtgogjbnneoadkaaGreatZtWith
import Derived.Test.YtgogjbnneoadkaaGreatZtBoxNest
import Derived.Deep.CutBlock
set_option linter.all false
set_option maxHeartbeats 8000000
set_option maxRecDepth 100000
namespace Go.Proofs.YtgogjbnneoadkaaGreat
open Go.ChangeShapes Go.WideShapes Go.ChangeAt Go.RowKit Go.Deep
def hasB (p : Pgm) (k m : Int) : Bool := decide (progOk p = true ∧ loopThere p k m)
theorem hasB_no {p : Pgm} {k m : Int} (h : ¬ (progOk p = true ∧ loopThere p k m)) : hasB p k m = false := decide_eq_false h
theorem hasB_yes {p : Pgm} {k m : Int} (h : progOk p = true ∧ loopThere p k m) : hasB p k m = true := decide_eq_true h
theorem l8Has_c {w : World} {p : Pgm} {cs : List Value} {bs : List Nat} {k m : Int} (h : Rep w p.d cs bs) :
  Calls Tryz.prog 30 #[.agg cs.toArray, .int .i64 k, .int .i64 m] w fun e w' => e = .returned (.bool (hasB p k m)) ∧ Below w.heap.size w w' := by
 have HP := Lib.hid h
 obtain ⟨A1, c1, A2, c2, d1, d2, rfl, rfl, g1, g2⟩ := Rep.pgm_iff.1 h
 have Garrays := Lib.hid g1
 have Gparts := Lib.hid g2
 clear h g1 g2
 have hn : p.parts.length ≤ 9223372036854775807 := Nat.le_trans Gparts.out.sls_len.2.1 Gparts.out.sls_len.2.2
 go_enter Tryz.func30, Tryz.ntmps30
 go_wp2_with fail
 refine (specProgramValid_c (HP.out.below bel)).mono ?_
 rintro e w1 ⟨rfl, b1⟩
 have P1 : Box2 w1 w.heap.size (.slice A1 p.arrays.length c1) (.slice A2 p.parts.length c2) := by
  refine ⟨?_, ?_⟩ <;> (rw [b1.cell (by simp [World.setCell]; try omega)]; go_simp)
 have S1 : Below w.heap.size w w1 := bel
 clear b1
 cases hv : progOk p with
 | false =>
  have HX := Lib.hid (show hasB p k m = false from hasB_no (fun hh => by rw [hv] at hh; cases hh.1))
  clear hv
  go_wp2
  go_ret
  exact ⟨ret_bool HX.out.symm, S1⟩
 | true =>
  have HV := Lib.hid hv; clear hv
  by_cases h0 : 0 ≤ k
  case neg =>
   have HX := Lib.hid (show hasB p k m = false from hasB_no (fun hh => h0 hh.2.1.1))
   go_wp2
   go_ret
   exact ⟨ret_bool HX.out.symm, S1⟩
  by_cases h1 : k < (p.parts.length : Int)
  case neg =>
   have HX := Lib.hid (show hasB p k m = false from hasB_no (fun hh => h1 hh.2.1.2))
   go_wp2
   go_ret
   exact ⟨ret_bool HX.out.symm, S1⟩
  by_cases h2 : 0 ≤ m
  case neg =>
   have HX := Lib.hid (show hasB p k m = false from hasB_no (fun hh => h2 hh.2.2.1))
   go_wp2
   go_ret
   exact ⟨ret_bool HX.out.symm, S1⟩
  obtain ⟨q, rfl⟩ := Int.eq_ofNat_of_zero_le h0
  have hq : q < p.parts.length := by omega
  have HX := Lib.hid (show hasB p (q : Int) m = decide (m < (p.parts[q].nest.length : Int)) by
   have e1 : (p.parts.getD (q : Int).toNat ⟨[], []⟩).nest.length = p.parts[q].nest.length := by simp [List.getD_eq_getElem?_getD, hq]
   refine decide_eq_decide.2 ⟨fun hh => ?_, fun hh => ⟨HV.out, ⟨h0, h1⟩, h2, ?_⟩⟩
   ·have := hh.2.2.2; rwa [e1] at this
   ·rw [e1]; exact hh)
  obtain ⟨be, oe, cse, le, rfl, hble, hre, _, _, hce⟩ := (Gparts.out.below S1).sls_at Prt.d_size (k := q) hq
  have Ge := Lib.hid hre
  obtain ⟨A1e, c1e, A2e, c2e, d1e, d2e, rfl, rfl, g1e, g2e⟩ := Rep.prt_iff.1 hre
  have k0e := (hce 0 _ rfl).1; rw [Nat.add_zero] at k0e
  have k1e := (hce 1 _ rfl).1
  have Q1e := Lib.hid g1e
  have Q2e := Lib.hid g2e
  clear hce hre g1e g2e
  have hn2 : p.parts[q].nest.length ≤ 9223372036854775807 := Nat.le_trans Q1e.out.sls_len.2.1 Q1e.out.sls_len.2.2
  go_wp2
  go_ret
  exact ⟨ret_bool HX.out.symm, S1⟩
theorem wp_alloc1 {P : Program} {w : World} {o : Oper} {a : Act} {K : Act → World → Prop} {Q : Exit → Act → World → Prop} (e : TypeId) {cells : List Value}
  (hop : o.wp P a w K Q = K (a.put o.dst (.pointer (some ⟨w.heap.size, 0, none⟩))) (w.alloc (.cells cells.toArray e)))
  (h : ∀ w' g, Row w' g e cells → Below w.heap.size w w' → w.heap.size ≤ g → g < w'.heap.size → K (a.put o.dst (.pointer (some ⟨g, 0, none⟩))) w') : o.wp P a w K Q := by
 rw [hop]
 exact h _ _ (Row.new w cells e) ((Below.refl _ _).alloc (Nat.le_refl _) _) (Nat.le_refl _) (by simp)
theorem Tryz.sizePart2 : (Tryz.prog.info? 54).map (·.size) = some 2 := by kernel_rfl
theorem lp_two {w : World} {A B : Int} {N M : Nat} {b c : List Nat} (h1 : Rep w (.sl [(affConst A).d]) [.slice (some ⟨N, 0, none⟩) 1 1] b) (h2 : Rep w (.sl [(affConst B).d]) [.slice (some ⟨M, 0, none⟩) 1 1] c) :
  Rep w (⟨[affConst A], [affConst B]⟩ : Lp).d [.slice (some ⟨N, 0, none⟩) 1 1, .slice (some ⟨M, 0, none⟩) 1 1] (b ++ c) :=
 Rep.lp_iff.2 ⟨some ⟨N, 0, none⟩, 1, some ⟨M, 0, none⟩, 1, _, _, rfl, rfl, h1, h2⟩
theorem all3 {p : Nat → Prop} {i j k : Nat} (h : p i) (h2 : p j) (h3 : p k) : ∀ x ∈ [i, j, k], p x := by simpa using ⟨h, h2, h3⟩
theorem SplitS_n {w : World} {p : Pgm} {k a : Int} {cs : List Value} {bs : List Nat} (h : Rep w p.d cs bs) (hz : szD p.d ≤ 10000000) (hh : hasB p k 0 = false) :
  Calls Tryz.prog 9 #[.agg cs.toArray, .int .i64 k, .int .i64 a] w (MadePgmB w (⟨[], []⟩, false)) := by
 have HH := Lib.hid h
 obtain ⟨A1, c1, A2, c2, d1, d2, rfl, rfl, g1, g2⟩ := Rep.pgm_iff.1 h
 have HB := Lib.hid hh
 clear g1 g2 h hh
 go_enter Tryz.func9, Tryz.ntmps9
 go_wp2_with fail
 refine (l16OwnProgram_c (HH.out.below bel) hz).mono ?_
 rintro e w1 ⟨cs1, bs1, rfl, r1, nd1, hb1, b1⟩
 obtain ⟨A1c, c1c, A2c, c2c, e1, e2, rfl, rfl, -, -⟩ := Rep.pgm_iff.1 r1
 have X0 : BoxW w1 w.heap.size (.slice A1 p.arrays.length c1) (.slice A2 p.parts.length c2) := BoxW.to ⟨⟨by go_simp, by go_simp⟩, by go_simp, by go_simp⟩ b1
 have X1 : BoxW w1 (w.heap.size + 1) (.slice none 0 0) (.slice none 0 0) := BoxW.to ⟨⟨by go_simp, by go_simp⟩, by go_simp, by go_simp⟩ b1
 have S1 : Below w.heap.size w w1 := bel
 have hge : ∀ y ∈ e1 ++ e2, w.heap.size + 2 ≤ y := fun y hy => by have := hb1 y hy; simp at this; omega
 have hno : w.heap.size ∉ e1 ++ e2 := fun hm => by have := hge _ hm; omega
 have R1 := Lib.hid (Rep.keep _ r1 (((Keeps.refl _ _).setCell (p := ⟨w.heap.size, 0, none⟩) hno (.slice A1c p.arrays.length c1c)).setCell (p := ⟨w.heap.size, 1, none⟩) hno (.slice A2c p.parts.length c2c)))
 have HX1 := Lib.hid X1
 obtain ⟨⟨m1, m2⟩, m3, m4⟩ := X0
 have lt0 := lt_of_cell m1
 clear r1 nd1 hb1 b1 hge hno X1
 go_wp2_with fail
 refine (l8Has_c R1.out).mono ?_
 rintro e w2 ⟨rfl, b2⟩
 rw [HB.out]
 have X2 : BoxW ((w1.setCell ⟨w.heap.size, 0, none⟩ (.slice A1c p.arrays.length c1c)).setCell ⟨w.heap.size, 1, none⟩ (.slice A2c p.parts.length c2c)) (w.heap.size + 1) (.slice none 0 0) (.slice none 0 0) := ⟨Box2.set (Box2.set HX1.out.1 (by simp) _) (by simp) _, by rw [World.frozen?_setCell, World.frozen?_setCell]; exact HX1.out.2.1, by rw [World.frozen?_setCell, World.frozen?_setCell]; exact HX1.out.2.2⟩
 obtain ⟨⟨r0, r1⟩, r2, r3⟩ := X2.to b2
 have ltr := lt_of_cell r0
 have S2 : Below w.heap.size w w2 := below_tr ((S1.setCell (by simp) _).setCell (by simp) _) b2
 clear b2 m1 m2 m3 m4
 go_wp2
 exact bodyPost_ret (v := .tuple #[.agg #[.slice none 0 0, .slice none 0 0], .bool false]) (by simp [results, Tryz.results9, go_sem, r0, r1, ltr]) rfl (MadePgmB.nil bel)
theorem SplitS_m {w : World} {p : Pgm} {k : Nat} {a : Int} {cs : List Value} {bs : List Nat} (h : Rep w p.d cs bs) (hz : szD p.d ≤ 10000000) (hh : hasB p (k : Int) 0 = true) (hv : progOk p = true) (hk : k < p.parts.length) (hn : 0 < p.parts[k].nest.length) {lo hi : Int} {ok : Bool} (hf : fixF p.parts[k].nest[0] = (lo, hi, ok)) (hq : (ok && inB a lo hi) = false) :
  Calls Tryz.prog 9 #[.agg cs.toArray, .int .i64 (k : Int), .int .i64 a] w (MadePgmB w (⟨[], []⟩, false)) := by
 have HH := Lib.hid h
 obtain ⟨A1, c1, A2, c2, d1, d2, rfl, rfl, g1, g2⟩ := Rep.pgm_iff.1 h
 have HB := Lib.hid hh
 have HF := Lib.hid hf
 have HQ := Lib.hid hq
 have HV := Lib.hid hv
 clear g1 g2 h hh hf hq hv
 go_enter Tryz.func9, Tryz.ntmps9
 go_wp2_with fail
 refine (l16OwnProgram_c (HH.out.below bel) hz).mono ?_
 rintro e w1 ⟨cs1, bs1, rfl, r1, nd1, hb1, b1⟩
 obtain ⟨A1c, c1c, A2c, c2c, e1, e2, rfl, rfl, -, -⟩ := Rep.pgm_iff.1 r1
 have X0 : BoxW w1 w.heap.size (.slice A1 p.arrays.length c1) (.slice A2 p.parts.length c2) := BoxW.to ⟨⟨by go_simp, by go_simp⟩, by go_simp, by go_simp⟩ b1
 have X1 : BoxW w1 (w.heap.size + 1) (.slice none 0 0) (.slice none 0 0) := BoxW.to ⟨⟨by go_simp, by go_simp⟩, by go_simp, by go_simp⟩ b1
 have S1 : Below w.heap.size w w1 := bel
 have hge : ∀ y ∈ e1 ++ e2, w.heap.size + 2 ≤ y := fun y hy => by have := hb1 y hy; simp at this; omega
 have hno : w.heap.size ∉ e1 ++ e2 := fun hm => by have := hge _ hm; omega
 have R1 := Lib.hid (Rep.keep _ r1 (((Keeps.refl _ _).setCell (p := ⟨w.heap.size, 0, none⟩) hno (.slice A1c p.arrays.length c1c)).setCell (p := ⟨w.heap.size, 1, none⟩) hno (.slice A2c p.parts.length c2c)))
 have HX1 := Lib.hid X1
 obtain ⟨⟨m1, m2⟩, m3, m4⟩ := X0
 have lt0 := lt_of_cell m1
 clear r1 nd1 hb1 b1 hge hno X1
 go_wp2_with fail
 refine (l8Has_c R1.out).mono ?_
 rintro e w2 ⟨rfl, b2⟩
 rw [HB.out]
 obtain ⟨W1, hW1⟩ : ∃ W1, W1 = (w1.setCell ⟨w.heap.size, 0, none⟩ (.slice A1c p.arrays.length c1c)).setCell ⟨w.heap.size, 1, none⟩ (.slice A2c p.parts.length c2c) := ⟨_, rfl⟩
 have X2 : BoxW W1 (w.heap.size + 1) (.slice none 0 0) (.slice none 0 0) := by rw [hW1]; exact ⟨Box2.set (Box2.set HX1.out.1 (by simp) _) (by simp) _, by rw [World.frozen?_setCell, World.frozen?_setCell]; exact HX1.out.2.1, by rw [World.frozen?_setCell, World.frozen?_setCell]; exact HX1.out.2.2⟩
 have XA : Box2 W1 w.heap.size (.slice A1c p.arrays.length c1c) (.slice A2c p.parts.length c2c) := by
  rw [hW1]
  have e1 : (w1.setCell ⟨w.heap.size, 0, none⟩ (.slice A1c p.arrays.length c1c)).cell? ⟨w.heap.size, 1, none⟩ = some (.slice A2 p.parts.length c2) := by rw [World.cell?_setCell_other _ _ _ _ (by simp)]; exact m2
  exact ⟨by rw [World.cell?_setCell_other _ _ _ _ (by simp)]; exact World.cell?_setCell_same _ _ _ m1, World.cell?_setCell_same _ _ _ e1⟩
 have SW : Below w.heap.size w W1 := by rw [hW1]; exact (S1.setCell (by simp) _).setCell (by simp) _
 have S2 : Below w.heap.size w w2 := by rw [← hW1] at b2; exact below_tr SW b2
 rw [← hW1] at R1 b2
 have R2 := Lib.hid (R1.out.below b2)
 have HX2 := Lib.hid (X2.to b2)
 have HA2 := Lib.hid (XA.to b2)
 clear hW1 b2 m1 m2 m3 m4 R1 X2 XA HX1 S1 SW
 obtain ⟨A1x, c1x, A2x, c2x, f1, f2, ef, -, -, gP⟩ := Rep.pgm_iff.1 R2.out
 simp only [List.cons.injEq, Value.slice.injEq, true_and, and_true] at ef
 obtain ⟨⟨rfl, rfl⟩, rfl, rfl⟩ := ef
 have GP := Lib.hid gP
 clear gP
 obtain ⟨bg, og, csg, lg, rfl, hblg, hrg, _, _, hcg⟩ := GP.out.sls_at Prt.d_size (k := k) hk
 have Gg := Lib.hid hrg
 obtain ⟨A1g, c1g, A2g, c2g, d1g, d2g, rfl, rfl, g1g, g2g⟩ := Rep.prt_iff.1 hrg
 have k0g := (hcg 0 _ rfl).1; rw [Nat.add_zero] at k0g
 have k1g := (hcg 1 _ rfl).1
 have Q1g := Lib.hid g1g
 have Q2g := Lib.hid g2g
 clear hcg hrg g1g g2g
 have hnn : p.parts[k].nest.length ≤ 1000000 := ((pgm_sm HV.out).2.2.2 _ (List.getElem_mem hk)).1
 obtain ⟨be, oe, cse, le, rfl, hble, hre, _, _, hce⟩ := Q1g.out.sls_at Lp.d_size (k := 0) hn
 have Ge := Lib.hid hre
 obtain ⟨A1e, c1e, A2e, c2e, d1e, d2e, rfl, rfl, g1e, g2e⟩ := Rep.lp_iff.1 hre
 have k0e := (hce 0 _ rfl).1; rw [Nat.add_zero] at k0e
 have k1e := (hce 1 _ rfl).1
 have Q1e := Lib.hid g1e
 have Q2e := Lib.hid g2e
 clear hce hre g1e g2e
 rw [Nat.zero_mul, Nat.add_zero] at k1e
 obtain ⟨⟨p0, p1⟩, z0, z1⟩ := HX2.out
 obtain ⟨y0, y1⟩ := HA2.out
 have lta := lt_of_cell y0
 have ltr := lt_of_cell p0
 have hkb : (k : Int) < (p.parts.length : Int) := by omega
 go_wp2_with fail
 refine (l8Const_c (Ge.out.below bel)).mono ?_
 rintro e w3 ⟨rfl, b3⟩
 rw [HF.out]
 have XR := HX2.out.to (show Below w2.heap.size w2 w3 from below_tr (below_al (Below.refl _ _) _) b3)
 have S3 : Below w.heap.size w w3 := below_tr S2 (below_tr (below_al (Below.refl _ _) _) b3)
 clear b3 p0 p1 z0 z1 y0 y1
 obtain ⟨⟨r0, r1⟩, r2, r3⟩ := XR
 have ltr3 := lt_of_cell r0
 cases ok with
 | false =>
  go_wp2
  exact bodyPost_ret (v := .tuple #[.agg #[.slice none 0 0, .slice none 0 0], .bool false]) (by simp [results, Tryz.results9, go_sem, r0, r1, ltr3]) rfl (MadePgmB.nil bel)
 | true =>
  have hin := HQ.out
  rw [Bool.true_and] at hin
  by_cases h1 : a < lo
  ·clear hin
   go_wp2
   exact bodyPost_ret (v := .tuple #[.agg #[.slice none 0 0, .slice none 0 0], .bool false]) (by simp [results, Tryz.results9, go_sem, r0, r1, ltr3]) rfl (MadePgmB.nil bel)
  ·have h2 : hi < a := by
    rcases Int.lt_or_le hi a with h2 | h2
    ·exact h2
    ·rw [inB_true (by omega) h2] at hin; cases hin
   clear hin
   go_wp2
   exact bodyPost_ret (v := .tuple #[.agg #[.slice none 0 0, .slice none 0 0], .bool false]) (by simp [results, Tryz.results9, go_sem, r0, r1, ltr3]) rfl (MadePgmB.nil bel)
end Go.Proofs.YtgogjbnneoadkaaGreat
