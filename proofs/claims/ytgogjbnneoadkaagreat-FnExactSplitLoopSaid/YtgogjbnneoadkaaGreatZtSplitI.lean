/- SplitLoop of the program. -/
import Derived.Test.YtgogjbnneoadkaaGreatZtSplitR
set_option linter.all false
set_option maxHeartbeats 8000000
set_option maxRecDepth 100000
namespace Go.Proofs.YtgogjbnneoadkaaGreat
open Go.ChangeShapes Go.WideShapes Go.ChangeAt Go.RowKit Go.Deep
theorem SplitLoopI_n {w : World} {p : Pgm} {k a : Int} {cs : List Value} {bs : List Nat} (h : Rep w p.d cs bs) (hk : (progOk p && inB k 0 ((p.parts.length : Int) - 1)) = false) :
  Calls Tryz.prog 11 #[.agg cs.toArray, .int .i64 k, .int .i64 a] w (MadePgmB w (⟨[], []⟩, false)) := by
 have HH := Lib.hid h
 obtain ⟨A1, c1, A2, c2, d1, d2, rfl, rfl, g1, g2⟩ := Rep.pgm_iff.1 h
 have HK := Lib.hid hk
 clear g1 g2 h hk
 go_enter Tryz.func11, Tryz.ntmps11
 go_wp2_with fail
 refine (begun_n (HH.out.below bel) HK.out).mono ?_
 rintro e w1 ⟨rfl, b1⟩
 have X1 : BoxW w1 (w.heap.size + 1) (.slice none 0 0) (.slice none 0 0) := BoxW.to ⟨⟨by go_simp, by go_simp⟩, by go_simp, by go_simp⟩ b1
 have S1 : Below w.heap.size w w1 := bel
 clear b1
 obtain ⟨⟨m1, m2⟩, m3, m4⟩ := X1
 have lt1 := lt_of_cell m1
 go_wp2
 exact bodyPost_ret (v := .tuple #[.agg #[.slice none 0 0, .slice none 0 0], .bool false]) (by simp [results, Tryz.results11, go_sem, m1, m2, lt1]) rfl (MadePgmB.nil bel)
theorem SplitLoopI_e {w : World} {p : Pgm} {k : Nat} {a : Int} {cs : List Value} {bs : List Nat} (h : Rep w p.d cs bs) (hv : progOk p = true) (hk : k < p.parts.length) (hn : p.parts[k].nest = []) :
  Calls Tryz.prog 11 #[.agg cs.toArray, .int .i64 (k : Int), .int .i64 a] w (MadePgmB w (⟨[], []⟩, false)) := by
 have HH := Lib.hid h
 obtain ⟨A1, c1, A2, c2, d1, d2, rfl, rfl, g1, g2⟩ := Rep.pgm_iff.1 h
 have HV := Lib.hid hv
 clear g1 g2 h hv
 go_enter Tryz.func11, Tryz.ntmps11
 go_wp2_with fail
 refine (begun_y (HH.out.below bel) HV.out hk).mono ?_
 rintro e w1 ⟨A1r, c1r, g, c2r, dd, B, rfl, r1, hd1, hG1, hB1, b1⟩
 have X1 : BoxW w1 (w.heap.size + 1) (.slice none 0 0) (.slice none 0 0) := BoxW.to ⟨⟨by go_simp, by go_simp⟩, by go_simp, by go_simp⟩ b1
 have S1 : Below w.heap.size w w1 := bel
 clear b1 hB1 hd1 r1
 obtain ⟨⟨m1, m2⟩, m3, m4⟩ := X1
 have lt1 := lt_of_cell m1
 obtain ⟨es, cb, q1, q2, q3, q4, q5⟩ := hG1
 obtain ⟨e0, e1, e2, l0, l1, l2, rfl, rfl, he0, he1, r0, ⟨A1p, c1p, A2p, c2p, rfl, rp, hro⟩, r2⟩ := q2.at_ PrtO.ek hk
 have kc0 : w1.cell? ⟨g, k * 2, none⟩ = some (.slice A1p 0 c1p) := by
  have := q1.cells (g := g) rfl (k * 2) (.slice A1p p.parts[k].nest.length c1p) (by rw [List.append_assoc, List.getElem?_append_right (by omega), he0, Nat.sub_self]; rfl)
  rw [hn, add_none, Nat.zero_add] at this
  simpa using this
 have ltg := lt_of_cell kc0
 clear q1 q2 q3 q4 q5 rp hro r0 r2
 go_wp2
 exact bodyPost_ret (v := .tuple #[.agg #[.slice none 0 0, .slice none 0 0], .bool false]) (by simp [results, Tryz.results11, go_sem, m1, m2, lt1]) rfl (MadePgmB.nil bel)
theorem SplitLoopI_m {w : World} {p : Pgm} {k : Nat} {a : Int} {cs : List Value} {bs : List Nat} (h : Rep w p.d cs bs) (hv : progOk p = true) (hk : k < p.parts.length) (hn : 0 < p.parts[k].nest.length) {lo hi : Int} {ok : Bool} (hf : fixF p.parts[k].nest[0] = (lo, hi, ok)) (hq : (ok && inB a lo hi) = false) :
  Calls Tryz.prog 11 #[.agg cs.toArray, .int .i64 (k : Int), .int .i64 a] w (MadePgmB w (⟨[], []⟩, false)) := by
 have HH := Lib.hid h
 obtain ⟨A1, c1, A2, c2, d1, d2, rfl, rfl, g1, g2⟩ := Rep.pgm_iff.1 h
 have HV := Lib.hid hv
 have HF := Lib.hid hf
 have HQ := Lib.hid hq
 clear g1 g2 h hv hf hq
 go_enter Tryz.func11, Tryz.ntmps11
 go_wp2_with fail
 refine (begun_y (HH.out.below bel) HV.out hk).mono ?_
 rintro e w1 ⟨A1r, c1r, g, c2r, dd, B, rfl, r1, hd1, hG1, hB1, b1⟩
 have X1 : BoxW w1 (w.heap.size + 1) (.slice none 0 0) (.slice none 0 0) := BoxW.to ⟨⟨by go_simp, by go_simp⟩, by go_simp, by go_simp⟩ b1
 have S1 : Below w.heap.size w w1 := bel
 clear b1 hB1 hd1 r1
 have lt1 := lt_of_cell X1.1.1
 obtain ⟨es, cb, q1, q2, q3, q4, q5⟩ := hG1
 obtain ⟨e0, e1, e2, l0, l1, l2, rfl, rfl, he0, he1, r0, ⟨A1p, c1p, A2p, c2p, rfl, rp, hro⟩, r2⟩ := q2.at_ PrtO.ek hk
 have hnn : p.parts[k].nest.length ≤ 1000000 := ((pgm_sm HV.out).2.2.2 _ (List.getElem_mem hk)).1
 obtain ⟨A1s, c1s, A2s, c2s, f1, f2, ef, -, gN, -⟩ := Rep.prt_iff.1 rp
 simp only [List.cons.injEq, Value.slice.injEq, true_and, and_true] at ef
 obtain ⟨⟨rfl, rfl⟩, rfl, rfl⟩ := ef
 obtain ⟨b1, o1, cl, ll, rfl, hb1, rl, -, -, hcl⟩ := gN.sls_at Lp.d_size hn
 obtain ⟨Al, cl1, Ah, ch1, fa, fb, rfl, -, -, -⟩ := Rep.lp_iff.1 rl
 have kl0 := (hcl 0 _ rfl).1
 have kl1 := (hcl 1 _ rfl).1
 rw [Nat.zero_mul, Nat.add_zero] at kl0 kl1
 have kc0 : w1.cell? ⟨g, k * 2, none⟩ = some (.slice (some ⟨b1, o1, none⟩) p.parts[k].nest.length c1p) := by
  have := q1.cells (g := g) rfl (k * 2) (.slice (some ⟨b1, o1, none⟩) p.parts[k].nest.length c1p) (by rw [List.append_assoc, List.getElem?_append_right (by omega), he0, Nat.sub_self]; rfl)
  rwa [add_none, Nat.zero_add] at this
 have ltg := lt_of_cell kc0
 have RL := Lib.hid rl
 have HX1 := Lib.hid X1
 clear q1 q2 q3 q4 q5 rp hro r0 r2 gN hcl rl X1
 have hne : ((p.parts[k].nest.length : Int) == 0) = false := ieq_f (by omega)
 have hne2 : (0 : Nat) < p.parts[k].nest.length := hn
 go_wp2_with fail
 refine (fixed_c (RL.out.below bel)).mono ?_
 rintro e w2 ⟨rfl, b2⟩
 rw [HF.out]
 obtain ⟨⟨m1, m2⟩, m3, m4⟩ := HX1.out.to (show Below w1.heap.size w1 w2 from bel)
 have S2 : Below w.heap.size w w2 := below_tr S1 (show Below w1.heap.size w1 w2 from bel)
 have lt2 := lt_of_cell m1
 clear b2
 cases ok with
 | false =>
  go_wp2
  exact bodyPost_ret (v := .tuple #[.agg #[.slice none 0 0, .slice none 0 0], .bool false]) (by simp [results, Tryz.results11, go_sem, m1, m2, lt2]) rfl (MadePgmB.nil bel)
 | true =>
  go_wp2_with fail
  refine (within_c _ _ _ _).mono ?_
  rintro e w3 ⟨rfl, rfl⟩
  have hin := HQ.out
  rw [Bool.true_and] at hin
  rw [hin]
  clear hin
  go_wp2
  exact bodyPost_ret (v := .tuple #[.agg #[.slice none 0 0, .slice none 0 0], .bool false]) (by simp [results, Tryz.results11, go_sem, m1, m2, lt2]) rfl (MadePgmB.nil bel)
theorem SplitLoopI_y {w : World} {p : Pgm} {k : Nat} {a : Int} {cs : List Value} {bs : List Nat} (h : Rep w p.d cs bs) (hv : progOk p = true) (hk : k < p.parts.length) (hn : 0 < p.parts[k].nest.length) {lo hi : Int} (hf : fixF p.parts[k].nest[0] = (lo, hi, true)) (hq : inB a lo hi = true) (ha : I64 a) :
  Calls Tryz.prog 11 #[.agg cs.toArray, .int .i64 (k : Int), .int .i64 a] w (MadePgmB w (finF (splitQ p k lo a hi))) := by
 have HH := Lib.hid h
 obtain ⟨A1, c1, A2, c2, d1, d2, rfl, rfl, g1, g2⟩ := Rep.pgm_iff.1 h
 have HV := Lib.hid hv
 have HF := Lib.hid hf
 have HQ := Lib.hid hq
 clear g1 g2 h hv hf hq
 go_enter Tryz.func11, Tryz.ntmps11
 go_wp2_with fail
 refine (begun_y (HH.out.below bel) HV.out hk).mono ?_
 rintro e w1 ⟨A1r, c1r, g, c2r, dd, B, rfl, r1, hd1, hG1, hB1, b1⟩
 have X1 : BoxW w1 (w.heap.size + 1) (.slice none 0 0) (.slice none 0 0) := BoxW.to ⟨⟨by go_simp, by go_simp⟩, by go_simp, by go_simp⟩ b1
 have S1 : Below w.heap.size w w1 := bel
 have HD := Lib.hid (And.intro hd1 hB1)
 have R1 := Lib.hid r1
 clear b1 hB1 hd1 r1
 have lt1 := lt_of_cell X1.1.1
 obtain ⟨es, cb, q1, q2, q3, q4, q5⟩ := hG1
 obtain ⟨e0, e1, e2, l0, l1, l2, rfl, rfl, he0, he1, r0, ⟨A1p, c1p, A2p, c2p, rfl, rp, hro⟩, r2⟩ := q2.at_ PrtO.ek hk
 have hnn : p.parts[k].nest.length ≤ 1000000 := ((pgm_sm HV.out).2.2.2 _ (List.getElem_mem hk)).1
 obtain ⟨A1s, c1s, A2s, c2s, f1, f2, ef, -, gN, -⟩ := Rep.prt_iff.1 rp
 simp only [List.cons.injEq, Value.slice.injEq, true_and, and_true] at ef
 obtain ⟨⟨rfl, rfl⟩, rfl, rfl⟩ := ef
 obtain ⟨b1, o1, cl, ll, rfl, hb1, rl, -, -, hcl⟩ := gN.sls_at Lp.d_size hn
 obtain ⟨Al, cl1, Ah, ch1, fa, fb, rfl, -, -, -⟩ := Rep.lp_iff.1 rl
 have kl0 := (hcl 0 _ rfl).1
 have kl1 := (hcl 1 _ rfl).1
 rw [Nat.zero_mul, Nat.add_zero] at kl0 kl1
 have hx : p.parts[k].nest[0] = ⟨[affConst lo], [affConst hi]⟩ := by
  have e := outer_eq HV.out hk hn (by rw [HF.out])
  rw [HF.out] at e
  exact e
 have HX := Lib.hid hx
 clear hx
 have kc0 : w1.cell? ⟨g, k * 2, none⟩ = some (.slice (some ⟨b1, o1, none⟩) p.parts[k].nest.length c1p) := by
  have := q1.cells (g := g) rfl (k * 2) (.slice (some ⟨b1, o1, none⟩) p.parts[k].nest.length c1p) (by rw [List.append_assoc, List.getElem?_append_right (by omega), he0, Nat.sub_self]; rfl)
  rwa [add_none, Nat.zero_add] at this
 have kc1 : w1.cell? ⟨g, k * 2 + 1, none⟩ = some (.slice A2p p.parts[k].body.length c2p) := by
  have := q1.cells (g := g) rfl (k * 2 + 1) (.slice A2p p.parts[k].body.length c2p) (by rw [List.append_assoc, List.getElem?_append_right (by omega), he0, Nat.add_sub_cancel_left]; rfl)
  rwa [add_none, Nat.zero_add] at this
 have ltg := lt_of_cell kc0
 have hg4 : g ∉ l0 ++ l1 ++ l2 := q5 g rfl
 have HC := Lib.hid (And.intro q1 (And.intro q3 (And.intro q4 hg4)))
 have RP := Lib.hid rp
 have RQ := Lib.hid (And.intro (EReps.reps (f := Prt.d) PrtO.rep _ r0) (EReps.reps (f := Prt.d) PrtO.rep _ r2))
 clear hg4
 have RL := Lib.hid rl
 have HX1 := Lib.hid X1
 clear q1 q2 q3 q4 q5 rp hro r0 r2 gN hcl rl X1
 have hne : ((p.parts[k].nest.length : Int) == 0) = false := ieq_f (by omega)
 have hne2 : (0 : Nat) < p.parts[k].nest.length := hn
 go_wp2_with fail
 refine (fixed_c (RL.out.below bel)).mono ?_
 rintro e w2 ⟨rfl, b2⟩
 rw [HF.out]
 obtain ⟨⟨m1, m2⟩, m3, m4⟩ := HX1.out.to (show Below w1.heap.size w1 w2 from bel)
 have S2 : Below w.heap.size w w2 := below_tr S1 (show Below w1.heap.size w1 w2 from bel)
 have lt2 := lt_of_cell m1
 have XO : BoxW w2 w1.heap.size (.slice A1r p.arrays.length c1r) (.slice (some ⟨g, 0, none⟩) p.parts.length c2r) := (BoxW.new w1 _ _ _).to b2
 have T2 : Below w1.heap.size w1 w2 := below_tr (below_al (Below.refl _ _) _) b2
 have hc2 := (bcell T2).1
 rw [← hc2 _ _ ltg] at kc0 kc1
 rw [← hc2 _ _ hb1] at kl0 kl1
 clear b2 hc2
 have HX2 := Lib.hid (BoxW.to HX1.out T2)
 have HXO := Lib.hid XO
 have ltO := lt_of_cell XO.1.1
 clear m1 m2 m3 m4 XO
 go_wp2_with fail
 refine (within_c _ _ _ _).mono ?_
 rintro e w3 ⟨rfl, rfl⟩
 rw [HQ.out]
 have ltg2 := lt_of_cell kc0
 have ltb2 := lt_of_cell kl0
 go_wp2_with fail
 refine ((ownPart_c (RP.out.below T2) ((pgm_sm HV.out).2.2.2 _ (List.getElem_mem hk))).mono fun e w' h => h.lo (lo := lo) (hi := hi) hn HX.out ha).mono ?_
 rintro e w3 ⟨b3, o3, c1o, A2o, c2o, bso, b4, o4, c4, rfl, ndo, hbo, bb3, ro, ho3, ko1, ho4, ko2, ko3, rs4⟩
 have HO := Lib.hid (And.intro ndo (And.intro hbo (And.intro ro (And.intro ho4 rs4))))
 have T3 : Below w1.heap.size w1 w3 := below_tr T2 bb3
 have R3 := RP.out.below T3
 have ltg3 : g < w3.heap.size := by have := T3.size; omega
 have ltb3 : b1 < w3.heap.size := by have := T3.size; omega
 have hc3 := (bcell bb3).1
 rw [← hc3 _ _ ltg2] at kc0 kc1
 rw [← hc3 _ _ ltb2] at kl0 kl1
 clear hc3
 have B3 := Lib.hid bb3
 obtain ⟨b2, o2, c2q, kh1, hb2, kh2, kh3, rs2⟩ := split_hi (A2 := A2p) R3 (nd_app (nd_app HC.out.2.1).1).2.1 hn HX.out ha
 have HR := Lib.hid (And.intro hb2 rs2)
 have HT3 := Lib.hid T3
 have lt4 := lt_of_cell ko2
 have lt3 := lt_of_cell ko1
 have lt2' := lt_of_cell kh2
 have hb2l : b2 < w1.heap.size := Rep.lt _ RP.out _ hb2
 have hge4 : w2.heap.size ≤ b4 := hbo _ ho4
 have hge3 : w2.heap.size ≤ b3 := hbo _ ho3
 have hn3 : b3 ≠ b2 := by have := T2.size; omega
 have hn32 : b2 ≠ b3 := hn3.symm
 have hno2 : ¬ w1.heap.size = b2 := by omega
 have hno4 : ¬ w1.heap.size = b4 := by omega
 have hno2' : ¬ b2 = w1.heap.size := by omega
 have hno4' : ¬ b4 = w1.heap.size := by omega
 have hnb : b2 ≠ b4 := by have := T2.size; omega
 have hnb2 : b4 ≠ b2 := hnb.symm
 clear kl0 kl1 R3 rs2 hb2 ndo hbo ro ho3 ho4 rs4 bb3 T3
 obtain ⟨⟨m1, m2⟩, m3, m4⟩ := HXO.out.to B3.out
 have ltO3 := lt_of_cell m1
 have hpl : p.parts.length ≤ 1000000 := (pgm_sm HV.out).2.2.1
 have hk6 : (k : Int) ≤ 1000000 := by omega
 have hk7 : (0 : Int) ≤ (k : Int) := by omega
 go_wp2_with fail
 obtain ⟨W6, hW6⟩ : ∃ W6, W6 = (w3.setCell ⟨b2, o2 + 1, none⟩ (.int .i64 a)).setCell ⟨b4, o4 + 1, none⟩ (.int .i64 a) := ⟨_, rfl⟩
 rw [← hW6]
 have hz6 : W6.heap.size = w3.heap.size := by rw [hW6]; simp [World.setCell]
 have HW6 := Lib.hid hW6; clear hW6
 have HBg : B ≤ g ∧ g < w1.heap.size := own_lt' HC.out.1 rfl
 refine (InsertP_k (B := B) (k := k) (t := 54) (es := e0 ++ [.slice (some ⟨b1, o1, none⟩) p.parts[k].nest.length c1p, .slice A2p p.parts[k].body.length c2p] ++ e2) (ns := [.slice (some ⟨b3, o3, none⟩) p.parts[k].nest.length c1o, .slice A2o p.parts[k].body.length c2o]) ?hown hk hpl ?hrow rfl ?hne ?h1 ?h1n ?hB).mono ?_
 case hown =>
  refine own_kept1 HC.out.1 fun g' hg' => ?_
  obtain rfl : g = g' := by simpa [Value.ownBlock] using hg'
  have := HT3.out.size
  have hb2g : g ≠ b2 := fun e => HC.out.2.2.2 (by rw [e]; simp [HR.out.1])
  rw [Below.heap_alloc _ _ _ (by simp; omega), Below.heap_alloc _ _ _ (by omega), HW6.out, Below.heap_setCell _ _ _ _ (by simp; omega), Below.heap_setCell _ _ _ _ (by simpa using hb2g), HT3.out.block g HBg.2]
 case hrow =>
  have h := Row.new2 W6 [.slice (some ⟨b3, o3, none⟩) p.parts[k].nest.length c1o, .slice A2o p.parts[k].body.length c2o] [.slice (some ⟨b3, o3, none⟩) p.parts[k].nest.length c1o, .slice A2o p.parts[k].body.length c2o] 54
  rw [hz6] at h
  exact h
 case hne =>
  have := HT3.out.size
  intro e
  have : g = w3.heap.size + 1 := by simpa [Value.ownBlock] using e
  omega
 case h1 =>
  intro u hu
  simp only [List.mem_append] at hu
  rcases hu with (hu | hu) | hu
  ·exact Reps.one _ RQ.out.1 u hu
  ·exact Rep.one _ RP.out u hu
  ·exact Reps.one _ RQ.out.2 u hu
 case h1n => exact Rep.one _ HO.out.2.2.1
 case hB => have := HT3.out.size; simp; omega
 rintro e w8 ⟨v', rfl, hown8, hgrew8⟩
 have hz3 := HT3.out.size
 have e5 : (e0 ++ [Value.slice (some ⟨b1, o1, none⟩) p.parts[k].nest.length c1p, Value.slice A2p p.parts[k].body.length c2p]).length = (k + 1) * 2 := by rw [List.length_append, he0]; simp; omega
 have hown9 : w8.ownsRow B 54 2 v' (p.parts.length + 1) (e0 ++ [.slice (some ⟨b1, o1, none⟩) p.parts[k].nest.length c1p, .slice A2p p.parts[k].body.length c2p] ++ [.slice (some ⟨b3, o3, none⟩) p.parts[k].nest.length c1o, .slice A2o p.parts[k].body.length c2o] ++ e2) := by
  rw [← e5, List.take_left, List.drop_left] at hown8
  exact hown8
 have hg8 : Touch [g] ((W6.alloc (.cells #[.slice (some ⟨b3, o3, none⟩) p.parts[k].nest.length c1o, .slice A2o p.parts[k].body.length c2o] 54)).alloc (.cells #[.slice (some ⟨b3, o3, none⟩) p.parts[k].nest.length c1o, .slice A2o p.parts[k].body.length c2o] 54)) w8 := hgrew8.touch.mono (fun y hy => by
  have := mem_ownL.1 hy
  have : g = y := by simpa [Value.ownBlock] using this
  simp [this])
 have hv9 : ∀ y, v'.ownBlock = some y → y ≠ w1.heap.size := fun y hy => by
  rcases hgrew8.own y hy with h | h
  ·have : g = y := by simpa [Value.ownBlock] using h
   omega
  ·simp at h; omega
 obtain ⟨A8, c8, bs9, rfl, r8, hne9⟩ := split_fin (xs := p.parts.take k) (zs := p.parts.drop (k + 1)) RQ.out.1 HR.out.2 RQ.out.2 HO.out.2.2.2.2 HC.out.2.1 HC.out.2.2.2 HBg.2 HR.out.1 HO.out.2.2.2.1 (fun y hy => by have := HO.out.2.1 y hy; omega) (fun y hy => Rep.lt _ RP.out y hy) HT3.out (by rw [← HW6.out]; exact hg8) hown9 (by rw [List.length_take, List.length_drop]; omega) hv9
 have t38 : Touch [b2, b4, g] w3 w8 := by
  have t6 : Touch [b2, b4, g] w3 W6 := by rw [HW6.out]; exact ((Touch.refl _ _).setCell (by simp) _).setCell (by simp) _
  exact (t6.trans (Touch.of_below (below_al (below_al (Below.refl _ _) _) _))).trans (hg8.mono (by simp))
 have hgB := HD.out.2
 simp at hgB
 have hlow : ∀ y ∈ [b2, b4, g], w.heap.size + 2 ≤ y := fun y hy => by
  have := HC.out.2.2.1 b2 (by simp [HR.out.1])
  simp only [List.mem_cons, List.not_mem_nil, or_false] at hy
  rcases hy with rfl | rfl | rfl <;> omega
 have S8 : Below w.heap.size w w8 := (below_tr S2 B3.out).trans (t38.below (by omega) (fun y hy => by have := hlow y hy; omega))
 have XO8 : BoxW w8 w1.heap.size (.slice A1r p.arrays.length c1r) (.slice (some ⟨g, 0, none⟩) p.parts.length c2r) := t38.boxW (HXO.out.to B3.out) (by simp; omega)
 have XR8 : BoxW w8 (w.heap.size + 1) (.slice none 0 0) (.slice none 0 0) := t38.boxW (HX2.out.to B3.out) (fun hm => by have := hlow _ hm; omega)
 have RA8 : Rep w8 (sls Ar.d p.arrays) [.slice A1r p.arrays.length c1r] dd := by
  have hl := Rep.lt _ R1.out
  refine Rep.keep _ R1.out ⟨by have := t38.size; omega, fun y hy => ?_⟩
  have h1 := hl y hy
  have h2 := (HD.out.1 y hy).2
  have h3 := HC.out.2.2.1 b2 (by simp [HR.out.1])
  rw [t38.block y (by omega) (by simp; omega), HT3.out.block y h1]
 have HR8 := Lib.hid (And.intro r8 (And.intro hne9 (And.intro RA8 (fun hm => by have := Rep.lt _ R1.out _ hm; omega : w1.heap.size ∉ dd))))
 have HXR := Lib.hid XR8
 obtain ⟨⟨m1, m2⟩, m3, m4⟩ := XO8
 have ltO8 := lt_of_cell m1
 clear r8 hne9 RA8 XR8 hown8 hgrew8 hown9 hg8 hv9 t38 hlow e5
 go_wp2_with fail
 have eq : splitQ p k lo a hi = ⟨p.arrays, p.parts.take k ++ ⟨⟨[affConst lo], [affConst a]⟩ :: p.parts[k].nest.tail, p.parts[k].body⟩ :: ⟨⟨[affConst a], [affConst hi]⟩ :: p.parts[k].nest.tail, p.parts[k].body⟩ :: p.parts.drop (k + 1)⟩ := by
  unfold splitQ
  rw [prtF_eq hk]
 have RQ9 : Rep (w8.setCell ⟨w1.heap.size, 1, none⟩ (.slice A8 (p.parts.length + 1) c8)) (splitQ p k lo a hi).d [.slice A1r p.arrays.length c1r, .slice A8 (p.parts.length + 1) c8] (dd ++ bs9) := by
  rw [eq]
  exact Rep.pgm_of (Rep.keep _ HR8.out.2.2.1 ((Keeps.refl _ _).setCell HR8.out.2.2.2 _)) (Rep.keep _ HR8.out.1 ((Keeps.refl _ _).setCell (fun hm => HR8.out.2.1 _ hm rfl) _))
 refine (finished_c RQ9).mono ?_
 rintro e w10 ⟨A1f, c1f, A2f, c2f, bsf, rfl, rf, ndf, hbf, b10⟩
 have XR9 : BoxW (w8.setCell ⟨w1.heap.size, 1, none⟩ (.slice A8 (p.parts.length + 1) c8)) (w.heap.size + 1) (.slice none 0 0) (.slice none 0 0) := ⟨Box2.set HXR.out.1 (by simp; omega) _, by rw [World.frozen?_setCell]; exact HXR.out.2.1, by rw [World.frozen?_setCell]; exact HXR.out.2.2⟩
 obtain ⟨⟨r1, r2⟩, r3, r4⟩ := XR9.to b10
 have S10 : Below w.heap.size w w10 := (S8.setCell (by simp; omega) _).trans (b10.mono (by simp [World.setCell]; have := S8.size; omega))
 have HF9 := Lib.hid (And.intro rf (And.intro ndf hbf))
 have ltR := lt_of_cell r1
 obtain ⟨Q, hQ⟩ : ∃ Q, Q = finF (splitQ p k lo a hi) := ⟨_, rfl⟩
 rw [← hQ] at HF9 ⊢
 have HQ9 := Lib.hid hQ
 clear rf ndf hbf b10 XR9 RQ9 eq m1 m2 m3 m4 hQ
 go_wp2
 have hnb : w.heap.size + 1 ∉ bsf := fun hm => by have := HF9.out.2.2 _ hm; simp [World.setCell] at this; omega
 exact bodyPost_ret (v := .tuple #[.agg #[.slice A1f Q.1.arrays.length c1f, .slice A2f Q.1.parts.length c2f], .bool Q.2]) (by simp [results, Tryz.results11, go_sem, r1, r2, ltR]) rfl (by rw [← HQ9.out]; exact ⟨_, _, _, _, bsf, rfl, Rep.keep _ HF9.out.1 (((Keeps.refl _ _).setCell hnb _).setCell hnb _), HF9.out.2.1, fun y hy => by have := HF9.out.2.2 y hy; simp [World.setCell] at this; have := S8.size; omega, (S10.setCell (by simp) _).setCell (by simp) _⟩)
theorem implSplitLoop_c {w : World} {p : Pgm} {k a : Int} {cs : List Value} {bs : List Nat} (h : Rep w p.d cs bs) :
  Calls Tryz.prog 11 #[.agg cs.toArray, .int .i64 k, .int .i64 a] w (MadePgmB w (SplitLoopF p k a)) := by
 cases hv : (progOk p && inB k 0 ((p.parts.length : Int) - 1)) with
 | false =>
  rw [split_n1 (fun hh => by rw [hh.1, inB_true hh.2.1.1 (by have := hh.2.1.2; omega)] at hv; cases hv)]
  exact SplitLoopI_n h hv
 | true =>
  simp only [Bool.and_eq_true] at hv
  obtain ⟨hv, hin⟩ := hv
  have hb := inB_iff.1 hin
  obtain ⟨q, rfl⟩ := Int.eq_ofNat_of_zero_le hb.1
  have hq : q < p.parts.length := by omega
  have e1 : p.parts.getD (q : Int).toNat ⟨[], []⟩ = p.parts[q] := by simp [List.getD_eq_getElem?_getD, hq]
  by_cases hn : p.parts[q].nest = []
  ·rw [split_n1 (fun hh => by have := hh.2.2.2; rw [e1, hn] at this; simp at this)]
   exact SplitLoopI_e h hv hq hn
  ·have hp : 0 < p.parts[q].nest.length := List.length_pos_iff.2 hn
   have ht : progOk p = true ∧ loopThere p (q : Int) 0 := ⟨hv, ⟨hb.1, by omega⟩, Int.le_refl _, by rw [e1]; omega⟩
   have e2 : nthP (prtF p (q : Int)).nest 0 = p.parts[q].nest[0] := by
    rw [prtF_eq hq]
    simp [nthP, List.getD_eq_getElem?_getD, hp]
   unfold SplitLoopF
   rw [if_pos ht, e2, Int.toNat_natCast]
   obtain ⟨lo, hi, ok, hf⟩ : ∃ lo hi ok, fixF p.parts[q].nest[0] = (lo, hi, ok) := ⟨_, _, _, rfl⟩
   rw [hf]
   by_cases hc : ok = true ∧ lo ≤ a ∧ a ≤ hi
   ·obtain ⟨rfl, h1, h2⟩ := hc
    rw [if_pos ⟨rfl, h1, h2⟩]
    have hb9 := split_bd hv hq hp hf
    exact SplitLoopI_y h hv hq hp hf (inB_true h1 h2) ⟨by omega, by omega⟩
   ·rw [if_neg hc]
    refine SplitLoopI_m h hv hq hp hf ?_
    cases ok with
    | false => rfl
    | true =>
     cases hi2 : inB a lo hi with
     | false => rfl
     | true => exact absurd ⟨rfl, inB_iff.1 hi2⟩ hc
end Go.Proofs.YtgogjbnneoadkaaGreat
