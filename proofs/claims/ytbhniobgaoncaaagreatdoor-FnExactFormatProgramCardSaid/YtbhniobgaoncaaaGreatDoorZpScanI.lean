/- Validity of statements: StmtValid of the reference; exprScan, StmtValid of the program. -/
import Derived.Test.YtbhniobgaoncaaaGreatDoorZpScan
set_option linter.all false
set_option linter.unusedSimpArgs false
set_option linter.unusedVariables false
namespace Go.Proofs.YtbhniobgaoncaaaGreatDoor
open Go.ChangeShapes Go.WideShapes Go.ChangeAt Go.RowKit Go.Deep

def StmtValidF (s : Stm) (d : Int) : Bool := inB d 0 4 && (accOk s.write d && (exShape s.value d 5 && decide (exCnt s.value 5 ≤ 12)))

set_option maxRecDepth 100000 in
set_option maxHeartbeats 4000000 in
theorem specStmtValid_c {w : World} {x : Stm} {cs : List Value} {bs : List Nat} {dp : Int} (h : Rep w x.d cs bs) :
    Calls Tryz.prog 96 #[.agg cs.toArray, .int .i64 dp] w fun e w' => e = .returned (.bool (StmtValidF x dp)) ∧ Below w.heap.size w w' := by
  have HX := Lib.hid (show StmtValidF x dp = (decide (0 ≤ dp) && (decide (dp ≤ 4) && (accOk x.write dp && (exShape x.value dp 5 && decide (exCnt x.value 5 ≤ 12))))) by rw [StmtValidF, inB, Bool.and_assoc])
  obtain ⟨A2, c2, A5, c5, A8, c8, A9, c9, d2, d5, d8, d9, rfl, rfl, g1, g2, g3, g4, g5, g6, g7, g8, g9⟩ := Rep.stm_iff.1 h
  have Gwrite := Lib.hid ((Rep.acc_iff (x := x.write)).2 ⟨_, _, _, rfl, rfl, g1, g2⟩)
  have Gvalue := Lib.hid ((Rep.ex_iff (x := x.value)).2 ⟨_, _, _, _, _, _, _, _, _, rfl, rfl, g3, g4, g5, g6, g7, g8, g9⟩)
  clear h g1 g2 g3 g4 g5 g6 g7 g8 g9
  go_enter Tryz.func96, Tryz.ntmps96
  by_cases hp_ : 0 ≤ dp
  case neg =>
    have HF_ := Lib.hid (HX.out.trans (by rw [decide_eq_false hp_, Bool.false_and]))
    go_wp2
    go_ret
    exact ⟨ret_bool HF_.out.symm, bel⟩
  have HX1 := Lib.hid (HX.out.trans (by rw [decide_eq_true hp_, Bool.true_and])); have hdHX1 := hp_; clear hp_
  by_cases hp_ : dp ≤ 4
  case neg =>
    have HF_ := Lib.hid (HX1.out.trans (by rw [decide_eq_false hp_, Bool.false_and]))
    go_wp2
    go_ret
    exact ⟨ret_bool HF_.out.symm, bel⟩
  have HX2 := Lib.hid (HX1.out.trans (by rw [decide_eq_true hp_, Bool.true_and])); have hdHX2 := hp_; clear hp_
  go_wp2_with fail
  refine (l3Access_c (Gwrite.out.below bel)).mono ?_
  rintro e w1 ⟨rfl, b1⟩
  have P1 : Box9 w1 w.heap.size (.string x.write.arr) (.slice A2 x.write.subs.length c2) (.int .i64 x.value.kind) (.int .i64 x.value.num) (.slice A5 x.value.index.coefs.length c5) (.int .i64 x.value.index.const) (.string x.value.read.arr) (.slice A8 x.value.read.subs.length c8) (.slice A9 x.value.kids.length c9) := by
    refine ⟨?_, ?_, ?_, ?_, ?_, ?_, ?_, ?_, ?_⟩ <;> (rw [b1.cell (by simp [World.setCell]; try omega)]; go_simp)
  have S1 : Below w.heap.size w w1 := bel
  clear b1
  cases hc_ : accOk x.write dp with
  | false =>
    have HF_ := Lib.hid (HX2.out.trans (by rw [hc_, Bool.false_and])); clear hc_
    go_wp2
    go_ret
    exact ⟨ret_bool HF_.out.symm, bel⟩
  | true =>
  have HX3 := Lib.hid (HX2.out.trans (by rw [hc_, Bool.true_and])); clear hc_
  go_wp2_with fail
  refine (l3Shape_c x.value 5 _ _ _ dp (by omega) (Gvalue.out.below bel)).mono ?_
  rintro e w2 ⟨rfl, b2⟩
  have s2 : Below w1.heap.size w1 w2 := bel
  have P2 := P1.to s2; clear P1
  have S2 : Below w.heap.size w w2 := below_tr S1 s2
  clear s2
  clear b2
  cases hs : exShape x.value dp 5 with
  | false =>
    have HF_ := Lib.hid (HX3.out.trans (by rw [hs, Bool.false_and]))
    go_wp2
    go_ret
    exact ⟨ret_bool HF_.out.symm, bel⟩
  | true =>
  have HX4 := Lib.hid (HX3.out.trans (by rw [hs, Bool.true_and]))
  have HC := Lib.hid (shape_cnt5 hs); clear hs
  go_wp2_with fail
  refine (l3Count_c x.value 5 5 _ _ _ rfl (by omega) HC.out (Gvalue.out.below bel)).mono ?_
  rintro e w3 ⟨rfl, b3⟩
  have s3 : Below w2.heap.size w2 w3 := bel
  have P3 := P2.to s3; clear P2
  have S3 : Below w.heap.size w w3 := below_tr S2 s3
  clear s3
  clear b3
  go_wp2
  go_ret
  exact ⟨ret_bool (by rw [HX4.out] <;> first | rfl | (rw [decide_eq_decide]; omega)), bel⟩

def ScanEx (x : Ex) : Prop := ∀ (L : Nat) (l : Int) (w : World) (cs : List Value) (bs : List Nat) (dp : Int) (g : Nat) (c : Int), l = 6 - (L : Int) → L ≤ 5 → 0 ≤ c → c ≤ 12 → Rep w x.d cs bs → g ∉ bs →
    w.cell? ⟨g, 0, none⟩ = some (.int .i64 c) → w.frozen? ⟨g, 0, none⟩ = false →
    Calls Tryz.prog 164 #[.agg cs.toArray, .int .i64 dp, .int .i64 l, .pointer (some ⟨g, 0, none⟩)] w fun e w' => e = .returned (.bool (scanF x dp L c).1) ∧ ScanW w w' g (scanF x dp L c).2
set_option maxRecDepth 100000 in
set_option maxHeartbeats 8000000 in
theorem exprScan_r {x : Ex} (hrec : ∀ y ∈ x.kids, ScanEx y) : ScanEx x := by
  intro L l w cs bs dp g c hl hL hc0 hc12 h hnb hg hz
  have HREC := Lib.hid hrec; clear hrec
  have hgl := lt_of_cell hg
  obtain ⟨A3, c3, A6, c6, A7, c7, d3, d6, d7, rfl, rfl, g1, g2, g3, g4, g5, g6, g7⟩ := Rep.ex_iff.1 h
  have Gkind := Lib.hid g1
  have Gnum := Lib.hid g2
  have Gindex := Lib.hid ((Rep.aff_iff2 (x := x.index)).2 ⟨_, _, _, rfl, rfl, g3, g4⟩)
  have Gread := Lib.hid ((Rep.acc_iff (x := x.read)).2 ⟨_, _, _, rfl, rfl, g5, g6⟩)
  have Gkids := Lib.hid g7
  clear h g1 g2 g3 g4 g5 g6 g7
  have hn : x.kids.length ≤ 9223372036854775807 := Nat.le_trans Gkids.out.sls_len.2.1 Gkids.out.sls_len.2.2
  obtain ⟨W, hW⟩ : ∃ W, W = (w.setCell ⟨g, 0, none⟩ (.int .i64 (c + 1))).alloc (.cells #[.int .i64 x.kind, .int .i64 x.num, .slice A3 x.index.coefs.length c3, .int .i64 x.index.const, .string x.read.arr, .slice A6 x.read.subs.length c6, .slice A7 x.kids.length c7] 49) := ⟨_, rfl⟩
  have P0 : Box7 W w.heap.size (.int .i64 x.kind) (.int .i64 x.num) (.slice A3 x.index.coefs.length c3) (.int .i64 x.index.const) (.string x.read.arr) (.slice A6 x.read.subs.length c6) (.slice A7 x.kids.length c7) := by
    rw [hW]; refine ⟨?_, ?_, ?_, ?_, ?_, ?_, ?_⟩ <;> go_simp
  have hsz : (w.setCell ⟨g, 0, none⟩ (.int .i64 (c + 1))).heap.size = w.heap.size := by simp [World.setCell]
  have C0 : ScanW w W g (c + 1) := by
    have t1 : Touch [g] w (w.setCell ⟨g, 0, none⟩ (.int .i64 (c + 1))) := (Touch.refl _ _).setCell (by simp) _
    have b1 : Below (w.setCell ⟨g, 0, none⟩ (.int .i64 (c + 1))).heap.size (w.setCell ⟨g, 0, none⟩ (.int .i64 (c + 1))) W := by rw [hW]; exact (Below.refl _ _).alloc (Nat.le_refl _) _
    have e1 : (w.setCell ⟨g, 0, none⟩ (.int .i64 (c + 1))).cell? ⟨g, 0, none⟩ = some (.int .i64 (c + 1)) := World.cell?_setCell_same (w := w) (a := ⟨g, 0, none⟩) (v := .int .i64 (c + 1)) hg
    exact ⟨t1.trans (Touch.of_below b1), by rw [b1.cell (by rw [hsz]; exact hgl)]; exact e1, by rw [b1.frozen (by rw [hsz]; exact hgl), World.frozen?_setCell]; exact hz⟩
  clear hsz
  have HNB := Lib.hid (show g ∉ d7 from fun hm => hnb (by simp [hm]))
  have GI := Lib.hid (Rep.keep _ Gindex.out (C0.touch.keeps fun y hy => ⟨Rep.lt _ Gindex.out y hy, fun hm => hnb (by rw [← List.mem_singleton.1 hm]; simp [hy])⟩))
  have GR := Lib.hid (Rep.keep _ Gread.out (C0.touch.keeps fun y hy => ⟨Rep.lt _ Gread.out y hy, fun hm => hnb (by rw [← List.mem_singleton.1 hm]; simp [hy])⟩))
  have GK := Lib.hid (Rep.keep _ Gkids.out (C0.touch.keeps fun y hy => ⟨Rep.lt _ Gkids.out y hy, fun hm => hnb (by rw [← List.mem_singleton.1 hm]; simp [hy])⟩))
  have HW := Lib.hid hW; clear hW
  clear Gindex Gread Gkids Gkind Gnum hnb
  have HE := Lib.hid (scanF_eq x dp L c)
  by_cases h12 : 12 < c + 1
  · rw [show scanF x dp L c = (false, c + 1) from HE.out.trans (if_pos (.inl h12))]
    have HC := Lib.hid C0
    rw [HW.out] at HC
    go_enter Tryz.func164, Tryz.ntmps164
    go_wp2
    go_ret
    exact ⟨rfl, HC.out⟩
  by_cases hL0 : L = 0
  · rw [show scanF x dp L c = (false, c + 1) from HE.out.trans (if_pos (.inr hL0))]
    have hl5 : 5 < l := by omega
    clear hl
    have HC := Lib.hid C0
    rw [HW.out] at HC
    go_enter Tryz.func164, Tryz.ntmps164
    go_wp2
    go_ret
    exact ⟨rfl, HC.out⟩
  have HE0 := Lib.hid (HE.out.trans (if_neg (fun h => h.elim h12 hL0))); clear HE
  have hl5 : l ≤ 5 := by omega
  have hl1 : 1 ≤ l := by omega
  have HLL := Lib.hid hl; clear hl
  by_cases k1 : x.kind = 1
  · have HE1 := Lib.hid (HE0.out.trans (if_pos k1)); clear HE0
    have HX := Lib.hid (show (scanF x dp L c).1 = (noAff x.index && (noAcc x.read && (inB x.num 0 99 && (decide (x.kids.length = 0) && true)))) by rw [HE1.out, Bool.and_true])
    rw [show (scanF x dp L c).2 = c + 1 by rw [HE1.out]]
    clear HE1
    have q1 : (x.kind == 1) = true := ieq_t k1
    have r1 : (x.kind != 1) = false := ine_f k1
    have r2 : (x.kind != 2) = true := ine_t (by omega)
    have r3 : (x.kind != 3) = true := ine_t (by omega)
    clear k1
    go_enter Tryz.func164, Tryz.ntmps164
    go_wp2_with fail
    rw [← HW.out]
    refine (noAffine_c (GI.out.below bel)).mono ?_
    rintro e w1 ⟨rfl, b1⟩
    have s1 : Below W.heap.size W w1 := bel
    have P1 := P0.to s1; clear P0
    have S1 : Below W.heap.size W w1 := s1
    clear s1
    clear b1
    cases hc_ : noAff x.index with
    | false =>
      have HF_ := Lib.hid (HX.out.trans (by rw [hc_, Bool.false_and])); clear hc_
      go_wp2
      go_ret
      exact ⟨ret_bool HF_.out.symm, C0.below bel⟩
    | true =>
    have HX1 := Lib.hid (HX.out.trans (by rw [hc_, Bool.true_and])); clear hc_
    go_wp2_with fail
    refine (noAccess_c (GR.out.below bel)).mono ?_
    rintro e w2 ⟨rfl, b2⟩
    have s2 : Below w1.heap.size w1 w2 := bel
    have P2 := P1.to s2; clear P1
    have S2 : Below W.heap.size W w2 := below_tr S1 s2
    clear s2
    clear b2
    cases hc_ : noAcc x.read with
    | false =>
      have HF_ := Lib.hid (HX1.out.trans (by rw [hc_, Bool.false_and])); clear hc_
      go_wp2
      go_ret
      exact ⟨ret_bool HF_.out.symm, C0.below bel⟩
    | true =>
    have HX2 := Lib.hid (HX1.out.trans (by rw [hc_, Bool.true_and])); clear hc_
    go_wp2_with fail
    refine (within_c _ _ _ _).mono ?_
    rintro e w' ⟨rfl, rfl⟩
    cases hc_ : inB x.num 0 99 with
    | false =>
      have HF_ := Lib.hid (HX2.out.trans (by rw [hc_, Bool.false_and])); clear hc_
      go_wp2
      go_ret
      exact ⟨ret_bool HF_.out.symm, C0.below bel⟩
    | true =>
    have HX3 := Lib.hid (HX2.out.trans (by rw [hc_, Bool.true_and])); clear hc_
    by_cases hp_ : x.kids.length = 0
    case neg =>
      have qp_ : ((x.kids.length : Int) == 0) = false := by first | exact ieq_f (by omega) | exact ine_t (by omega) | (simp; omega)
      have HF_ := Lib.hid (HX3.out.trans (by rw [decide_eq_false hp_, Bool.false_and])); clear hp_
      go_wp2
      go_ret
      exact ⟨ret_bool HF_.out.symm, C0.below bel⟩
    have qHX4 : ((x.kids.length : Int) == 0) = true := by first | exact ieq_t (by omega) | exact ine_f (by omega) | (simp; omega)
    have HX4 := Lib.hid (HX3.out.trans (by rw [decide_eq_true hp_, Bool.true_and])); clear hp_
    go_wp2
    go_ret
    exact ⟨ret_bool HX4.out.symm, C0.below bel⟩
  have HE1 := Lib.hid (HE0.out.trans (if_neg k1)); clear HE0
  by_cases k2 : x.kind = 2
  · have HE2 := Lib.hid (HE1.out.trans (if_pos k2)); clear HE1
    have HX := Lib.hid (show (scanF x dp L c).1 = (decide (x.num = 0) && (noAcc x.read && (affOk x.index && (decide ((depF x.index.coefs : Int) ≤ dp) && (decide (x.kids.length = 0) && true))))) by rw [HE2.out, Bool.and_true])
    rw [show (scanF x dp L c).2 = c + 1 by rw [HE2.out]]
    clear HE2
    have q1 : (x.kind == 1) = false := ieq_f (by omega)
    have q2 : (x.kind == 2) = true := ieq_t k2
    have r1 : (x.kind != 1) = true := ine_t (by omega)
    have r2 : (x.kind != 2) = false := ine_f k2
    have r3 : (x.kind != 3) = true := ine_t (by omega)
    clear k1 k2
    have HC := Lib.hid C0
    rw [HW.out] at HC
    go_enter Tryz.func164, Tryz.ntmps164
    by_cases hp_ : x.num = 0
    case neg =>
      have qp_ : (x.num != 0) = true := by first | exact ieq_f (by omega) | exact ine_t (by omega) | (simp; omega)
      have HF_ := Lib.hid (HX.out.trans (by rw [decide_eq_false hp_, Bool.false_and])); clear hp_
      go_wp2
      go_ret
      exact ⟨ret_bool HF_.out.symm, by first | exact HC.out | exact C0.below bel⟩
    have qHX1 : (x.num != 0) = false := by first | exact ieq_t (by omega) | exact ine_f (by omega) | (simp; omega)
    have HX1 := Lib.hid (HX.out.trans (by rw [decide_eq_true hp_, Bool.true_and])); clear hp_
    go_wp2_with fail
    rw [← HW.out]
    refine (noAccess_c (GR.out.below bel)).mono ?_
    rintro e w3 ⟨rfl, b3⟩
    have s3 : Below W.heap.size W w3 := bel
    have P3 := P0.to s3; clear P0
    have S3 : Below W.heap.size W w3 := s3
    clear s3
    clear b3
    cases hc_ : noAcc x.read with
    | false =>
      have HF_ := Lib.hid (HX1.out.trans (by rw [hc_, Bool.false_and])); clear hc_
      go_wp2
      go_ret
      exact ⟨ret_bool HF_.out.symm, by first | exact HC.out | exact C0.below bel⟩
    | true =>
    have HX2 := Lib.hid (HX1.out.trans (by rw [hc_, Bool.true_and])); clear hc_
    go_wp2_with fail
    refine (implAffineValid_d (GI.out.below bel)).mono ?_
    rintro e w4 ⟨rfl, b4⟩
    have s4 : Below w3.heap.size w3 w4 := bel
    have P4 := P3.to s4; clear P3
    have S4 : Below W.heap.size W w4 := below_tr S3 s4
    clear s4
    clear b4
    cases hc_ : affOk x.index with
    | false =>
      have HF_ := Lib.hid (HX2.out.trans (by rw [hc_, Bool.false_and])); clear hc_
      go_wp2
      go_ret
      exact ⟨ret_bool HF_.out.symm, by first | exact HC.out | exact C0.below bel⟩
    | true =>
    have HX3 := Lib.hid (HX2.out.trans (by rw [hc_, Bool.true_and])); clear hc_
    go_wp2_with fail
    refine (depth_d (GI.out.below bel)).mono ?_
    rintro e w5 ⟨rfl, b5⟩
    have s5 : Below w4.heap.size w4 w5 := bel
    have P5 := P4.to s5; clear P4
    have S5 : Below W.heap.size W w5 := below_tr S4 s5
    clear s5
    clear b5
    by_cases hp_ : (depF x.index.coefs : Int) ≤ dp
    case neg =>
      have HF_ := Lib.hid (HX3.out.trans (by rw [decide_eq_false hp_, Bool.false_and]))
      go_wp2
      go_ret
      exact ⟨ret_bool HF_.out.symm, by first | exact HC.out | exact C0.below bel⟩
    have HX4 := Lib.hid (HX3.out.trans (by rw [decide_eq_true hp_, Bool.true_and])); have hdHX4 := hp_; clear hp_
    by_cases hp_ : x.kids.length = 0
    case neg =>
      have qp_ : ((x.kids.length : Int) == 0) = false := by first | exact ieq_f (by omega) | exact ine_t (by omega) | (simp; omega)
      have HF_ := Lib.hid (HX4.out.trans (by rw [decide_eq_false hp_, Bool.false_and])); clear hp_
      go_wp2
      go_ret
      exact ⟨ret_bool HF_.out.symm, by first | exact HC.out | exact C0.below bel⟩
    have qHX5 : ((x.kids.length : Int) == 0) = true := by first | exact ieq_t (by omega) | exact ine_f (by omega) | (simp; omega)
    have HX5 := Lib.hid (HX4.out.trans (by rw [decide_eq_true hp_, Bool.true_and])); clear hp_
    go_wp2
    go_ret
    exact ⟨ret_bool HX5.out.symm, C0.below bel⟩
  have HE2 := Lib.hid (HE1.out.trans (if_neg k2)); clear HE1
  by_cases k3 : x.kind = 3
  · have HE3 := Lib.hid (HE2.out.trans (if_pos k3)); clear HE2
    have HX := Lib.hid (show (scanF x dp L c).1 = (decide (x.num = 0) && (noAff x.index && (accOk x.read dp && (decide (x.kids.length = 0) && true)))) by rw [HE3.out, Bool.and_true])
    rw [show (scanF x dp L c).2 = c + 1 by rw [HE3.out]]
    clear HE3
    have q1 : (x.kind == 1) = false := ieq_f (by omega)
    have q2 : (x.kind == 2) = false := ieq_f (by omega)
    have q3 : (x.kind == 3) = true := ieq_t k3
    have r1 : (x.kind != 1) = true := ine_t (by omega)
    have r2 : (x.kind != 2) = true := ine_t (by omega)
    have r3 : (x.kind != 3) = false := ine_f k3
    clear k1 k2 k3
    have HC := Lib.hid C0
    rw [HW.out] at HC
    go_enter Tryz.func164, Tryz.ntmps164
    by_cases hp_ : x.num = 0
    case neg =>
      have qp_ : (x.num != 0) = true := by first | exact ieq_f (by omega) | exact ine_t (by omega) | (simp; omega)
      have HF_ := Lib.hid (HX.out.trans (by rw [decide_eq_false hp_, Bool.false_and])); clear hp_
      go_wp2
      go_ret
      exact ⟨ret_bool HF_.out.symm, by first | exact HC.out | exact C0.below bel⟩
    have qHX1 : (x.num != 0) = false := by first | exact ieq_t (by omega) | exact ine_f (by omega) | (simp; omega)
    have HX1 := Lib.hid (HX.out.trans (by rw [decide_eq_true hp_, Bool.true_and])); clear hp_
    go_wp2_with fail
    rw [← HW.out]
    refine (noAffine_c (GI.out.below bel)).mono ?_
    rintro e w6 ⟨rfl, b6⟩
    have s6 : Below W.heap.size W w6 := bel
    have P6 := P0.to s6; clear P0
    have S6 : Below W.heap.size W w6 := s6
    clear s6
    clear b6
    cases hc_ : noAff x.index with
    | false =>
      have HF_ := Lib.hid (HX1.out.trans (by rw [hc_, Bool.false_and])); clear hc_
      go_wp2
      go_ret
      exact ⟨ret_bool HF_.out.symm, by first | exact HC.out | exact C0.below bel⟩
    | true =>
    have HX2 := Lib.hid (HX1.out.trans (by rw [hc_, Bool.true_and])); clear hc_
    go_wp2_with fail
    refine (accessOk_c (GR.out.below bel)).mono ?_
    rintro e w7 ⟨rfl, b7⟩
    have s7 : Below w6.heap.size w6 w7 := bel
    have P7 := P6.to s7; clear P6
    have S7 : Below W.heap.size W w7 := below_tr S6 s7
    clear s7
    clear b7
    cases hc_ : accOk x.read dp with
    | false =>
      have HF_ := Lib.hid (HX2.out.trans (by rw [hc_, Bool.false_and])); clear hc_
      go_wp2
      go_ret
      exact ⟨ret_bool HF_.out.symm, by first | exact HC.out | exact C0.below bel⟩
    | true =>
    have HX3 := Lib.hid (HX2.out.trans (by rw [hc_, Bool.true_and])); clear hc_
    by_cases hp_ : x.kids.length = 0
    case neg =>
      have qp_ : ((x.kids.length : Int) == 0) = false := by first | exact ieq_f (by omega) | exact ine_t (by omega) | (simp; omega)
      have HF_ := Lib.hid (HX3.out.trans (by rw [decide_eq_false hp_, Bool.false_and])); clear hp_
      go_wp2
      go_ret
      exact ⟨ret_bool HF_.out.symm, by first | exact HC.out | exact C0.below bel⟩
    have qHX4 : ((x.kids.length : Int) == 0) = true := by first | exact ieq_t (by omega) | exact ine_f (by omega) | (simp; omega)
    have HX4 := Lib.hid (HX3.out.trans (by rw [decide_eq_true hp_, Bool.true_and])); clear hp_
    go_wp2
    go_ret
    exact ⟨ret_bool HX4.out.symm, C0.below bel⟩
  have HE3 := Lib.hid (HE2.out.trans (if_neg k3)); clear HE2
  have q1 : (x.kind == 1) = false := ieq_f k1
  have q2 : (x.kind == 2) = false := ieq_f k2
  have q3 : (x.kind == 3) = false := ieq_f k3
  have r1 : (x.kind != 1) = true := ine_t k1
  have r2 : (x.kind != 2) = true := ine_t k2
  have r3 : (x.kind != 3) = true := ine_t k3
  clear k1 k2 k3
  have HX := Lib.hid (show (decide (x.num = 0) && (noAff x.index && (noAcc x.read && (inB x.kind 4 6 && decide (x.kids.length = 2))))) = (decide (x.num = 0) && (noAff x.index && (noAcc x.read && (inB x.kind 4 6 && (decide (x.kids.length = 2) && true))))) by rw [Bool.and_true])
  have HC := Lib.hid C0
  rw [HW.out] at HC
  go_enter Tryz.func164, Tryz.ntmps164
  by_cases hp_ : x.num = 0
  case neg =>
    have qp_ : (x.num != 0) = true := by first | exact ieq_f (by omega) | exact ine_t (by omega) | (simp; omega)
    have HF_ := Lib.hid (HX.out.trans (by rw [decide_eq_false hp_, Bool.false_and])); clear hp_
    go_wp2
    go_ret
    (rw [show scanF x dp L c = (false, c + 1) from HE3.out.trans (if_neg (by rw [HF_.out]; exact Bool.false_ne_true))]; exact ⟨rfl, by first | exact HC.out | exact C0.below bel⟩)
  have qHX1 : (x.num != 0) = false := by first | exact ieq_t (by omega) | exact ine_f (by omega) | (simp; omega)
  have HX1 := Lib.hid (HX.out.trans (by rw [decide_eq_true hp_, Bool.true_and])); clear hp_
  go_wp2_with fail
  rw [← HW.out]
  refine (noAffine_c (GI.out.below bel)).mono ?_
  rintro e w8 ⟨rfl, b8⟩
  have s8 : Below W.heap.size W w8 := bel
  have P8 := P0.to s8; clear P0
  have S8 : Below W.heap.size W w8 := s8
  clear s8
  clear b8
  cases hc_ : noAff x.index with
  | false =>
    have HF_ := Lib.hid (HX1.out.trans (by rw [hc_, Bool.false_and])); clear hc_
    go_wp2
    go_ret
    (rw [show scanF x dp L c = (false, c + 1) from HE3.out.trans (if_neg (by rw [HF_.out]; exact Bool.false_ne_true))]; exact ⟨rfl, by first | exact HC.out | exact C0.below bel⟩)
  | true =>
  have HX2 := Lib.hid (HX1.out.trans (by rw [hc_, Bool.true_and])); clear hc_
  go_wp2_with fail
  refine (noAccess_c (GR.out.below bel)).mono ?_
  rintro e w9 ⟨rfl, b9⟩
  have s9 : Below w8.heap.size w8 w9 := bel
  have P9 := P8.to s9; clear P8
  have S9 : Below W.heap.size W w9 := below_tr S8 s9
  clear s9
  clear b9
  cases hc_ : noAcc x.read with
  | false =>
    have HF_ := Lib.hid (HX2.out.trans (by rw [hc_, Bool.false_and])); clear hc_
    go_wp2
    go_ret
    (rw [show scanF x dp L c = (false, c + 1) from HE3.out.trans (if_neg (by rw [HF_.out]; exact Bool.false_ne_true))]; exact ⟨rfl, by first | exact HC.out | exact C0.below bel⟩)
  | true =>
  have HX3 := Lib.hid (HX2.out.trans (by rw [hc_, Bool.true_and])); clear hc_
  go_wp2_with fail
  refine (isOp_c _ _).mono ?_
  rintro e w' ⟨rfl, rfl⟩
  cases hc_ : inB x.kind 4 6 with
  | false =>
    have HF_ := Lib.hid (HX3.out.trans (by rw [hc_, Bool.false_and])); clear hc_
    go_wp2
    go_ret
    (rw [show scanF x dp L c = (false, c + 1) from HE3.out.trans (if_neg (by rw [HF_.out]; exact Bool.false_ne_true))]; exact ⟨rfl, by first | exact HC.out | exact C0.below bel⟩)
  | true =>
  have HX4 := Lib.hid (HX3.out.trans (by rw [hc_, Bool.true_and])); clear hc_
  by_cases hk2 : x.kids.length = 2
  case neg =>
    have qk : ((x.kids.length : Int) != 2) = true := ine_t (by omega)
    have HF_ := Lib.hid (HX4.out.trans (by rw [decide_eq_false hk2, Bool.false_and]))
    go_wp2
    go_ret
    (rw [show scanF x dp L c = (false, c + 1) from HE3.out.trans (if_neg (by rw [HF_.out]; exact Bool.false_ne_true))]; exact ⟨rfl, C0.below bel⟩)
  have qk : ((x.kids.length : Int) != 2) = false := ine_f (by omega)
  have HS := Lib.hid (HE3.out.trans (if_pos (HX4.out.trans (by rw [decide_eq_true hk2]; rfl)))); clear HE3 HX4
  have h0 : 0 < x.kids.length := by omega
  have h1 : 1 < x.kids.length := by omega
  have HQ := Lib.hid (show scanF x dp L c = if (scanF x.kids[0] dp (L - 1) (c + 1)).1 = true then scanF x.kids[1] dp (L - 1) (scanF x.kids[0] dp (L - 1) (c + 1)).2 else (false, (scanF x.kids[0] dp (L - 1) (c + 1)).2) by
    rw [HS.out]
    obtain ⟨p, q, he⟩ := list2 hk2
    simp only [he, List.getElem_cons_zero, List.getElem_cons_succ]
    exact scans_two p q dp (L - 1) (c + 1)); clear HS
  have hkk : (x.kids.length : Int) = 2 := by omega
  clear hk2 HC
  have hw1 := lt_of_cell P9.1
  obtain ⟨be, oe, cse, le, rfl, hble, hre, _, _, hce⟩ := (GK.out.below S9).sls_at Ex.d_size (k := 0) h0
  have Ge := Lib.hid hre
  obtain ⟨A3e, c3e, A6e, c6e, A7e, c7e, d3e, d6e, d7e, rfl, rfl, g1e, g2e, g3e, g4e, g5e, g6e, g7e⟩ := Rep.ex_iff.1 hre
  have k0e := (hce 0 _ rfl).1; rw [Nat.add_zero] at k0e
  have k1e := (hce 1 _ rfl).1
  have k2e := (hce 2 _ rfl).1
  have k3e := (hce 3 _ rfl).1
  have k4e := (hce 4 _ rfl).1
  have k5e := (hce 5 _ rfl).1
  have k6e := (hce 6 _ rfl).1
  have Q1e := Lib.hid g1e
  have Q2e := Lib.hid g2e
  have Q3e := Lib.hid g3e
  have Q4e := Lib.hid g4e
  have Q5e := Lib.hid g5e
  have Q6e := Lib.hid g6e
  have Q7e := Lib.hid g7e
  clear hce hre g1e g2e g3e g4e g5e g6e g7e
  simp only [Nat.zero_mul, Nat.add_zero] at k0e k1e k2e k3e k4e k5e k6e
  have C1 := C0.below S9
  have hne : g ∉ d3e ++ d6e ++ d7e := by
    have h := ‹∀ y ∈ d3e ++ d6e ++ d7e, y ∈ d7›
    exact fun hm => HNB.out (h g hm)
  have HNE := Lib.hid hne; clear hne
  go_wp2_with fail
  refine (HREC.out _ (List.getElem_mem h0) (L - 1) (l + 1) _ _ _ dp g (c + 1) (by have := HLL.out; omega) (by omega) (by omega) (by omega) (Ge.out.below bel) HNE.out C1.cell C1.frozen).mono ?_
  rintro e v1 ⟨rfl, t1⟩
  have hlaw := scan_law x.kids[0] (L - 1) dp (c + 1) (by omega)
  cases hr : (scanF x.kids[0] dp (L - 1) (c + 1)).1 with
  | false =>
    have HF := Lib.hid (HQ.out.trans (if_neg (by rw [hr]; exact Bool.false_ne_true)))
    clear hlaw hr
    go_wp2
    go_ret
    rw [HF.out]
    exact ⟨rfl, C1.touch.trans t1.touch, t1.cell, t1.frozen⟩
  | true =>
  obtain ⟨c2, hc2⟩ : ∃ c2, (scanF x.kids[0] dp (L - 1) (c + 1)).2 = c2 := ⟨_, rfl⟩
  have HF := Lib.hid (HQ.out.trans (if_pos hr))
  rw [hc2] at HF t1
  have hb2 : 0 ≤ c2 ∧ c2 ≤ 12 := by
    obtain ⟨e1, e2⟩ := hlaw
    have e3 := e2 hr
    rw [hr] at e1
    have e1' := e1.symm
    simp only [Bool.and_eq_true, decide_eq_true_iff] at e1'
    rw [hc2] at e3
    omega
  have HC2 := Lib.hid hc2
  clear hlaw hr hc2 HQ
  have P91 := P9.touch t1.touch (fun hm => by have := List.mem_singleton.1 hm; omega)
  have GK2 := Lib.hid (Rep.keep _ (GK.out.below S9) (t1.touch.keeps fun y hy => ⟨Rep.lt _ (GK.out.below S9) y hy, fun hm => HNB.out (by rw [← List.mem_singleton.1 hm]; exact hy)⟩))
  have T2 := C1.touch.trans t1.touch
  clear k0e k1e k2e k3e k4e k5e k6e Ge HNE GK
  obtain ⟨bf, of, csf, lf, heqf, hblf, hrf, _, _, hcf⟩ := GK2.out.sls_at Ex.d_size (k := 1) h1
  obtain ⟨rfl, rfl⟩ : be = bf ∧ oe = of := by simpa using heqf
  have Gf := Lib.hid hrf
  obtain ⟨A3f, c3f, A6f, c6f, A7f, c7f, d3f, d6f, d7f, rfl, rfl, g1f, g2f, g3f, g4f, g5f, g6f, g7f⟩ := Rep.ex_iff.1 hrf
  have k0f := (hcf 0 _ rfl).1; rw [Nat.add_zero] at k0f
  have k1f := (hcf 1 _ rfl).1
  have k2f := (hcf 2 _ rfl).1
  have k3f := (hcf 3 _ rfl).1
  have k4f := (hcf 4 _ rfl).1
  have k5f := (hcf 5 _ rfl).1
  have k6f := (hcf 6 _ rfl).1
  have Q1f := Lib.hid g1f
  have Q2f := Lib.hid g2f
  have Q3f := Lib.hid g3f
  have Q4f := Lib.hid g4f
  have Q5f := Lib.hid g5f
  have Q6f := Lib.hid g6f
  have Q7f := Lib.hid g7f
  clear hcf hrf g1f g2f g3f g4f g5f g6f g7f
  simp only [Nat.one_mul] at k0f k1f k2f k3f k4f k5f k6f
  have hne : g ∉ d3f ++ d6f ++ d7f := by
    have h := ‹∀ y ∈ d3f ++ d6f ++ d7f, y ∈ d7›
    exact fun hm => HNB.out (h g hm)
  have HNE := Lib.hid hne; clear hne
  have TC := Lib.hid t1.cell
  have TF := Lib.hid t1.frozen
  clear t1 C1 C0
  go_wp2_with fail
  refine (HREC.out _ (List.getElem_mem h1) (L - 1) (l + 1) _ _ _ dp g c2 (by have := HLL.out; omega) (by omega) (by omega) (by omega) Gf.out HNE.out TC.out TF.out).mono ?_
  rintro e v2 ⟨rfl, t2⟩
  go_wp2
  go_ret
  rw [HF.out]
  exact ⟨rfl, T2.trans t2.touch, t2.cell, t2.frozen⟩
theorem exprScan_c (x : Ex) : ScanEx x := Ex.ind (P := ScanEx) (fun x hx => exprScan_r hx) x

set_option maxRecDepth 100000 in
set_option maxHeartbeats 4000000 in
theorem implStmtValid_c {w : World} {x : Stm} {cs : List Value} {bs : List Nat} {dp : Int} (h : Rep w x.d cs bs) :
    Calls Tryz.prog 103 #[.agg cs.toArray, .int .i64 dp] w fun e w' => e = .returned (.bool (StmtValidF x dp)) ∧ Below w.heap.size w w' := by
  have HX := Lib.hid (show StmtValidF x dp = (inB dp 0 4 && (accOk x.write dp && (scanF x.value dp 5 0).1)) by
    rw [StmtValidF, (scan_law x.value 5 dp 0 (by omega)).1]
    congr 3
    rw [decide_eq_decide]; omega)
  have hlt := Rep.lt _ h
  obtain ⟨A2, c2, A5, c5, A8, c8, A9, c9, d2, d5, d8, d9, rfl, rfl, g1, g2, g3, g4, g5, g6, g7, g8, g9⟩ := Rep.stm_iff.1 h
  have Gwrite := Lib.hid ((Rep.acc_iff (x := x.write)).2 ⟨_, _, _, rfl, rfl, g1, g2⟩)
  have Gvalue := Lib.hid ((Rep.ex_iff (x := x.value)).2 ⟨_, _, _, _, _, _, _, _, _, rfl, rfl, g3, g4, g5, g6, g7, g8, g9⟩)
  clear h g1 g2 g3 g4 g5 g6 g7 g8 g9
  have HLT := Lib.hid hlt; clear hlt
  go_enter Tryz.func103, Tryz.ntmps103
  go_wp2_with fail
  refine (within_c _ _ _ _).mono ?_
  rintro e w' ⟨rfl, rfl⟩
  cases hc_ : inB dp 0 4 with
  | false =>
    have HF_ := Lib.hid (HX.out.trans (by rw [hc_, Bool.false_and])); clear hc_
    go_wp2
    go_ret
    exact ⟨ret_bool HF_.out.symm, bel⟩
  | true =>
  have HX1 := Lib.hid (HX.out.trans (by rw [hc_, Bool.true_and])); clear hc_
  go_wp2_with fail
  refine (accessOk_c (Gwrite.out.below bel)).mono ?_
  rintro e w1 ⟨rfl, b1⟩
  have P1 : Box9 w1 w.heap.size (.string x.write.arr) (.slice A2 x.write.subs.length c2) (.int .i64 x.value.kind) (.int .i64 x.value.num) (.slice A5 x.value.index.coefs.length c5) (.int .i64 x.value.index.const) (.string x.value.read.arr) (.slice A8 x.value.read.subs.length c8) (.slice A9 x.value.kids.length c9) := by
    refine ⟨?_, ?_, ?_, ?_, ?_, ?_, ?_, ?_, ?_⟩ <;> (rw [b1.cell (by simp [World.setCell]; try omega)]; go_simp)
  have C1 : Box1 w1 (w.heap.size+1) (.int .i64 0) := by
    show w1.cell? _ = _; rw [b1.cell (by simp [World.setCell]; try omega)]; go_simp
  have S1 : Below w.heap.size w w1 := bel
  have F1 : w1.frozen? ⟨w.heap.size + 1, 0, none⟩ = false := by rw [b1.frozen (by simp)]; go_simp
  clear b1
  cases hc_ : accOk x.write dp with
  | false =>
    have HF_ := Lib.hid (HX1.out.trans (by rw [hc_, Bool.false_and])); clear hc_
    go_wp2
    go_ret
    exact ⟨ret_bool HF_.out.symm, bel⟩
  | true =>
  have HX2 := Lib.hid (HX1.out.trans (by rw [hc_, Bool.true_and])); clear hc_
  go_wp2_with fail
  refine (exprScan_c x.value 5 1 _ _ _ dp (w.heap.size + 1) 0 rfl (by omega) (by omega) (by omega) (Gvalue.out.below bel) ?_ C1 F1).mono ?_
  · intro hm
    have := Rep.lt _ Gvalue.out _ hm
    omega
  rintro e v1 ⟨rfl, t1⟩
  go_wp2
  go_ret
  exact ⟨ret_bool HX2.out.symm, S1.trans (t1.touch.below S1.size (fun y hm => by rw [List.mem_singleton.1 hm]; omega))⟩
end Go.Proofs.YtbhniobgaoncaaaGreatDoor
