/- Validity of expressions: l3Shape, l3Count, StmtValid of the reference; exprScan, StmtValid of the program. -/
import Derived.Test.YtbhniobgaoncaaaGreatDoorZpStmtValid
import Derived.Test.YtbhniobgaoncaaaGreatDoorZpSqExpr
set_option linter.all false
set_option linter.unusedSimpArgs false
set_option linter.unusedVariables false
namespace Go.Proofs.YtbhniobgaoncaaaGreatDoor
open Go.ChangeShapes Go.WideShapes Go.ChangeAt Go.RowKit Go.Deep

mutual
def exShape : Ex → Int → Nat → Bool
  | ⟨k, n, i, r, ks⟩, d, L => decide (1 ≤ L) && (decide (kidsN k = (ks.length : Int)) && (ownF ⟨k, n, i, r, ks⟩ d && exsShape ks d (L - 1)))
def exsShape : List Ex → Int → Nat → Bool
  | [], _, _ => true
  | x :: xs, d, L => exShape x d L && exsShape xs d L
end
theorem exsShape_eq : (xs : List Ex) → (d : Int) → (L : Nat) → exsShape xs d L = xs.all (fun x => exShape x d L)
  | [], _, _ => rfl
  | x :: xs, d, L => by simp only [exsShape, List.all_cons, exsShape_eq xs]
theorem exShape_eq (x : Ex) (d : Int) (L : Nat) : exShape x d L = (decide (1 ≤ L) && (decide (kidsN x.kind = (x.kids.length : Int)) && (ownF x d && x.kids.all (fun y => exShape y d (L - 1))))) := by
  cases x; simp only [exShape, exsShape_eq]
mutual
def exCnt : Ex → Nat → Nat
  | ⟨_, _, _, _, ks⟩, L => 1 + (if L = 0 then 0 else exsCnt ks (L - 1))
def exsCnt : List Ex → Nat → Nat
  | [], _ => 0
  | x :: xs, L => exCnt x L + exsCnt xs L
end
theorem exsCnt_eq : (xs : List Ex) → (L : Nat) → exsCnt xs L = cntL (fun x => exCnt x L) xs
  | [], _ => rfl
  | x :: xs, L => by simp only [exsCnt, cntL, exsCnt_eq xs]
theorem exCnt_zero (x : Ex) : exCnt x 0 = 1 := by cases x; simp only [exCnt]; rfl
theorem exCnt_succ (x : Ex) (L : Nat) : exCnt x (L + 1) = 1 + cntL (fun y => exCnt y L) x.kids := by
  cases x; simp only [exCnt, exsCnt_eq, Nat.succ_ne_zero, if_false, Nat.add_sub_cancel]
theorem all_drop {α : Type} (p : α → Bool) (xs : List α) (j : Nat) (h : j < xs.length) : (xs.drop j).all p = (p xs[j] && (xs.drop (j + 1)).all p) := by
  rw [← List.getElem_cons_drop h, List.all_cons]
mutual
def scanF : Ex → Int → Nat → Int → Bool × Int
  | ⟨k, n, i, r, ks⟩, d, L, c =>
    if 12 < c + 1 ∨ L = 0 then (false, c + 1)
    else if k = 1 then (noAff i && (noAcc r && (inB n 0 99 && decide (ks.length = 0))), c + 1)
    else if k = 2 then (decide (n = 0) && (noAcc r && (affOk i && (decide ((depF i.coefs : Int) ≤ d) && decide (ks.length = 0)))), c + 1)
    else if k = 3 then (decide (n = 0) && (noAff i && (accOk r d && decide (ks.length = 0))), c + 1)
    else if (decide (n = 0) && (noAff i && (noAcc r && (inB k 4 6 && decide (ks.length = 2))))) = true then scansF ks d (L - 1) (c + 1) else (false, c + 1)
def scansF : List Ex → Int → Nat → Int → Bool × Int
  | [], _, _, c => (true, c)
  | x :: xs, d, L, c => if (scanF x d L c).1 = true then scansF xs d L (scanF x d L c).2 else (false, (scanF x d L c).2)
end
theorem scanF_eq (x : Ex) (d : Int) (L : Nat) (c : Int) : scanF x d L c =
    (if 12 < c + 1 ∨ L = 0 then (false, c + 1)
    else if x.kind = 1 then (noAff x.index && (noAcc x.read && (inB x.num 0 99 && decide (x.kids.length = 0))), c + 1)
    else if x.kind = 2 then (decide (x.num = 0) && (noAcc x.read && (affOk x.index && (decide ((depF x.index.coefs : Int) ≤ d) && decide (x.kids.length = 0)))), c + 1)
    else if x.kind = 3 then (decide (x.num = 0) && (noAff x.index && (accOk x.read d && decide (x.kids.length = 0))), c + 1)
    else if (decide (x.num = 0) && (noAff x.index && (noAcc x.read && (inB x.kind 4 6 && decide (x.kids.length = 2))))) = true then scansF x.kids d (L - 1) (c + 1) else (false, c + 1)) := by
  cases x; simp only [scanF]

def ShapeEx (x : Ex) : Prop := ∀ (L : Nat) (w : World) (cs : List Value) (bs : List Nat) (dp : Int), L ≤ 5 → Rep w x.d cs bs →
    Calls Tryz.prog 154 #[.agg cs.toArray, .int .i64 dp, .int .i64 (L : Int)] w fun e w' => e = .returned (.bool (exShape x dp L)) ∧ Below w.heap.size w w'
set_option maxRecDepth 100000 in
set_option maxHeartbeats 4000000 in
theorem l3Shape_r {x : Ex} (hrec : ∀ y ∈ x.kids, ShapeEx y) : ShapeEx x := by
  intro L w cs bs dp hL h
  have HREC := Lib.hid hrec; clear hrec
  have HX := Lib.hid (exShape_eq x dp L)
  have H := h
  obtain ⟨A3, c3, A6, c6, A7, c7, d3, d6, d7, rfl, rfl, g1, g2, g3, g4, g5, g6, g7⟩ := Rep.ex_iff.1 h
  have Gkind := Lib.hid g1
  have Gnum := Lib.hid g2
  have Gindex := Lib.hid ((Rep.aff_iff2 (x := x.index)).2 ⟨_, _, _, rfl, rfl, g3, g4⟩)
  have Gread := Lib.hid ((Rep.acc_iff (x := x.read)).2 ⟨_, _, _, rfl, rfl, g5, g6⟩)
  have Gkids := Lib.hid g7
  clear h g1 g2 g3 g4 g5 g6 g7
  have hn : x.kids.length ≤ 9223372036854775807 := Nat.le_trans Gkids.out.sls_len.2.1 Gkids.out.sls_len.2.2
  obtain ⟨W, hW⟩ : ∃ W, W = w.alloc (.cells #[.int .i64 x.kind, .int .i64 x.num, .slice A3 x.index.coefs.length c3, .int .i64 x.index.const, .string x.read.arr, .slice A6 x.read.subs.length c6, .slice A7 x.kids.length c7] 49) := ⟨_, rfl⟩
  have P0 : Box7 W w.heap.size (.int .i64 x.kind) (.int .i64 x.num) (.slice A3 x.index.coefs.length c3) (.int .i64 x.index.const) (.string x.read.arr) (.slice A6 x.read.subs.length c6) (.slice A7 x.kids.length c7) := by
    rw [hW]; refine ⟨?_, ?_, ?_, ?_, ?_, ?_, ?_⟩ <;> go_simp
  have B0 : Below w.heap.size w W := by rw [hW]; exact bel
  have HW := Lib.hid hW; clear hW
  have GX := Lib.hid (H.below B0); clear H
  have GK := Lib.hid (Gkids.out.below B0); clear Gkids Gindex Gread Gkind Gnum
  rcases L with _ | L
  · have HF := Lib.hid (HX.out.trans (show (decide (1 ≤ 0) && _) = false from rfl))
    go_enter Tryz.func154, Tryz.ntmps154
    go_wp2
    rw [← HW.out]
    refine wp_region_noPanic ?_
    refine wp_region_held_drew (S := fun w' => Box7 w' w.heap.size (.int .i64 x.kind) (.int .i64 x.num) (.slice A3 x.index.coefs.length c3) (.int .i64 x.index.const) (.string x.read.arr) (.slice A6 x.read.subs.length c6) (.slice A7 x.kids.length c7)) (by kernel_rfl) (P0) (fun hHeld => ?_)
    refine goR 0 hHeld ?_
    refine goR 1 hHeld ?_
    refine goR 2 hHeld ?_
    refine goS 3 hHeld ?_
    refine goS 4 hHeld ?_
    refine goS 5 hHeld ?_
    refine goS 6 hHeld ?_
    refine goS 7 hHeld ?_
    refine goS 8 hHeld ?_
    refine goS 9 hHeld ?_
    refine goR 10 hHeld ?_
    refine goR 11 hHeld ?_
    refine goS 12 hHeld ?_
    refine goS 13 hHeld ?_
    refine goS 14 hHeld ?_
    refine goS 15 hHeld ?_
    refine goR 16 hHeld ?_
    refine wpAnyH_done (by kernel_rfl) ?_ _
    refine NoPanic.normal ?_
    go_wp2
    go_ret
    exact ⟨ret_bool HF.out.symm, B0.drew⟩
  have hl : (((L + 1 : Nat) : Int) < 1) = False := by simp; omega
  have HX1 := Lib.hid (HX.out.trans (by rw [decide_eq_true (show 1 ≤ L + 1 by omega), Bool.true_and, Nat.add_sub_cancel]))
  by_cases hk : kidsN x.kind = (x.kids.length : Int)
  case neg =>
    have hq : (kidsN x.kind != (x.kids.length : Int)) = true := ine_t hk
    have HF := Lib.hid (HX1.out.trans (by rw [decide_eq_false hk, Bool.false_and]))
    go_enter Tryz.func154, Tryz.ntmps154
    go_wp2
    rw [← HW.out]
    refine wp_region_noPanic ?_
    refine wp_region_held_drew (S := fun w' => Box7 w' w.heap.size (.int .i64 x.kind) (.int .i64 x.num) (.slice A3 x.index.coefs.length c3) (.int .i64 x.index.const) (.string x.read.arr) (.slice A6 x.read.subs.length c6) (.slice A7 x.kids.length c7)) (by kernel_rfl) (P0) (fun hHeld => ?_)
    refine goR 0 hHeld ?_
    refine goR 1 hHeld ?_
    refine goR 2 hHeld ?_
    refine goG 3 hHeld ?_
    refine goG 4 hHeld ?_
    refine goG 6 hHeld ?_
    refine goG 7 hHeld ?_
    refine goG 8 hHeld ?_
    refine stepR (i := 5) rfl (by kernel_rfl) (by kernel_rfl) (fun K hK => ?_)
    go_simp
    (refine (l3Kids_c _ _).mono ?_; rintro e w1 ⟨rfl, rfl⟩)
    go_wp2_with fail
    refine hK.out _ _ (P0) (fun hHeld => ?_)
    clear hK K
    try simp only [Act.put, aq0, aq1, aq2]
    refine goG 9 hHeld ?_
    refine goR 10 hHeld ?_
    refine goR 11 hHeld ?_
    refine goS 12 hHeld ?_
    refine goS 13 hHeld ?_
    refine goS 14 hHeld ?_
    refine goS 15 hHeld ?_
    refine goR 16 hHeld ?_
    refine wpAnyH_done (by kernel_rfl) ?_ _
    refine NoPanic.normal ?_
    go_wp2
    go_ret
    exact ⟨ret_bool HF.out.symm, B0.drew⟩
  have hq : (kidsN x.kind != (x.kids.length : Int)) = false := ine_f hk
  have HX2 := Lib.hid (HX1.out.trans (by rw [decide_eq_true hk, Bool.true_and]))
  clear hk
  cases ho : ownF x dp with
  | false =>
    have HF := Lib.hid (HX2.out.trans (by rw [ho, Bool.false_and]))
    have HO := Lib.hid ho; clear ho
    go_enter Tryz.func154, Tryz.ntmps154
    go_wp2
    rw [← HW.out]
    refine wp_region_noPanic ?_
    refine wp_region_held_drew (S := fun w' => Box7 w' w.heap.size (.int .i64 x.kind) (.int .i64 x.num) (.slice A3 x.index.coefs.length c3) (.int .i64 x.index.const) (.string x.read.arr) (.slice A6 x.read.subs.length c6) (.slice A7 x.kids.length c7)) (by kernel_rfl) (P0) (fun hHeld => ?_)
    refine goR 0 hHeld ?_
    refine goR 1 hHeld ?_
    refine goR 2 hHeld ?_
    refine goG 3 hHeld ?_
    refine goG 4 hHeld ?_
    refine goG 6 hHeld ?_
    refine goG 7 hHeld ?_
    refine goG 8 hHeld ?_
    refine stepR (i := 5) rfl (by kernel_rfl) (by kernel_rfl) (fun K hK => ?_)
    go_simp
    (refine (l3Kids_c _ _).mono ?_; rintro e w1 ⟨rfl, rfl⟩)
    go_wp2_with fail
    refine hK.out _ _ (P0) (fun hHeld => ?_)
    clear hK K
    try simp only [Act.put, aq0, aq1, aq2]
    refine goG 9 hHeld ?_
    refine goR 10 hHeld ?_
    refine goR 11 hHeld ?_
    refine goG 12 hHeld ?_
    refine goG 13 hHeld ?_
    refine stepR (i := 14) rfl (by kernel_rfl) (by kernel_rfl) (fun K hK => ?_)
    go_simp
    (refine (l3Own_c (GX.out.drewN 1)).mono ?_; rintro e v1 ⟨he, bv1⟩; rw [HO.out] at he; subst he; replace bv1 := of_drew bv1)
    go_wp2_with fail
    refine hK.out _ _ (P0.to bv1) (fun hHeld => ?_)
    clear hK K
    try simp only [Act.put, aq0, aq1, aq2]
    refine goG 15 hHeld ?_
    refine goR 16 hHeld ?_
    refine wpAnyH_done (by kernel_rfl) ?_ _
    refine NoPanic.normal ?_
    go_wp2
    go_ret
    exact ⟨ret_bool HF.out.symm, below_tr B0 bv1⟩
  | true =>
    have HX3 := Lib.hid (HX2.out.trans (by rw [ho, Bool.true_and]))
    have HO := Lib.hid ho; clear ho
    go_enter Tryz.func154, Tryz.ntmps154
    go_wp2
    rw [← HW.out]
    refine wp_region_noPanic ?_
    refine wp_region_held_drew (S := fun w' => Box7 w' w.heap.size (.int .i64 x.kind) (.int .i64 x.num) (.slice A3 x.index.coefs.length c3) (.int .i64 x.index.const) (.string x.read.arr) (.slice A6 x.read.subs.length c6) (.slice A7 x.kids.length c7)) (by kernel_rfl) (P0) (fun hHeld => ?_)
    refine goR 0 hHeld ?_
    refine goR 1 hHeld ?_
    refine goR 2 hHeld ?_
    refine goG 3 hHeld ?_
    refine goG 4 hHeld ?_
    refine goG 6 hHeld ?_
    refine goG 7 hHeld ?_
    refine goG 8 hHeld ?_
    refine stepR (i := 5) rfl (by kernel_rfl) (by kernel_rfl) (fun K hK => ?_)
    go_simp
    (refine (l3Kids_c _ _).mono ?_; rintro e w1 ⟨rfl, rfl⟩)
    go_wp2_with fail
    refine hK.out _ _ (P0) (fun hHeld => ?_)
    clear hK K
    try simp only [Act.put, aq0, aq1, aq2]
    refine goG 9 hHeld ?_
    refine goR 10 hHeld ?_
    refine goR 11 hHeld ?_
    refine goG 12 hHeld ?_
    refine goG 13 hHeld ?_
    refine stepR (i := 14) rfl (by kernel_rfl) (by kernel_rfl) (fun K hK => ?_)
    go_simp
    (refine (l3Own_c (GX.out.drewN 1)).mono ?_; rintro e v1 ⟨he, bv1⟩; rw [HO.out] at he; subst he; replace bv1 := of_drew bv1)
    go_wp2_with fail
    refine hK.out _ _ (P0.to bv1) (fun hHeld => ?_)
    clear hK K
    try simp only [Act.put, aq0, aq1, aq2]
    refine goG 15 hHeld ?_
    refine goR 16 hHeld ?_
    refine wpAnyH_done (by kernel_rfl) ?_ _
    refine NoPanic.normal ?_
    have P1 := P0.to bv1
    have SV := below_tr B0 bv1
    have GK1 := Lib.hid (GK.out.below bv1); clear GK GX P0 bv1
    go_wp2
    go_loopw [7] (fun i wr => ∃ j : Nat, j ≤ x.kids.length ∧ i = .int .i64 j ∧ x.kids.all (fun y => exShape y dp L) = (x.kids.drop j).all (fun y => exShape y dp L) ∧ Box7 wr w.heap.size (.int .i64 x.kind) (.int .i64 x.num) (.slice A3 x.index.coefs.length c3) (.int .i64 x.index.const) (.string x.read.arr) (.slice A6 x.read.subs.length c6) (.slice A7 x.kids.length c7) ∧ Below v1.heap.size v1 wr) (fun i _ => x.kids.length - (intOf i).toNat)
    case atStart => exact ⟨0, Nat.zero_le _, rfl, by simp, P1, Below.refl _ _⟩
    case round =>
      clear P1
      obtain ⟨j, hj, rfl, hi, Pr, hb⟩ := hrel
      have HI := Lib.hid hi; clear hi
      have hbw := below_tr SV hb
      by_cases hlt : j < x.kids.length
      · have HD := Lib.hid (all_drop (fun y => exShape y dp L) x.kids j hlt)
        obtain ⟨be, oe, cse, le, rfl, hble, hre, _, _, hce⟩ := (GK1.out.below hb).sls_at Ex.d_size (k := j) hlt
        have Ge := Lib.hid hre
        obtain ⟨A3e, c3e, A6e, c6e, A7e, c7e, d3e, d6e, d7e, rfl, rfl, g1e, g2e, g3e, g4e, g5e, g6e, g7e⟩ := Rep.ex_iff.1 hre
        have k0e := (hce 0 _ rfl).1; rw [Nat.add_zero] at k0e
        have k1e := (hce 1 _ rfl).1
        have k2e := (hce 2 _ rfl).1
        have k3e := (hce 3 _ rfl).1
        have k4e := (hce 4 _ rfl).1
        have k5e := (hce 5 _ rfl).1
        have k6e := (hce 6 _ rfl).1
        have Q1e := Lib.hid g1e
        have Q2e := Lib.hid g2e
        have Q3e := Lib.hid g3e
        have Q4e := Lib.hid g4e
        have Q5e := Lib.hid g5e
        have Q6e := Lib.hid g6e
        have Q7e := Lib.hid g7e
        clear hce hre g1e g2e g3e g4e g5e g6e g7e
        go_wp2_with fail
        refine (HREC.out _ (List.getElem_mem hlt) L _ _ _ dp (by omega) (Ge.out.below bel)).mono ?_
        rintro e w1 ⟨rfl, b1⟩
        have s1 : Below wr.heap.size wr w1 := bel
        have P1 := Pr.to s1; clear Pr
        have S1 : Below w.heap.size w w1 := below_tr hbw s1
        have T1 : Below wr.heap.size wr w1 := s1
        clear s1
        clear b1
        cases hp : exShape x.kids[j] dp L with
        | false =>
          have HF := Lib.hid (HX3.out.trans (HI.out.trans (HD.out.trans (by rw [hp, Bool.false_and])))); clear hp
          go_wp2
          go_ret
          exact ⟨ret_bool HF.out.symm, S1⟩
        | true =>
          have HF := Lib.hid (HD.out.trans (by rw [hp, Bool.true_and])); clear hp
          go_wp2
          go_roundw
          case rel => exact ⟨j + 1, by omega, by go_num, by rw [HI.out, HF.out], P1, below_tr hb T1⟩
          case measure => simp [intOf]; omega
      · have hjj : j = x.kids.length := by omega
        subst hjj
        have HF := Lib.hid (HX3.out.trans (HI.out.trans (by rw [List.drop_length])))
        go_wp2
        go_ret
        exact ⟨ret_bool HF.out.symm, hbw⟩
theorem l3Shape_c (x : Ex) : ShapeEx x := Ex.ind (P := ShapeEx) (fun x hx => l3Shape_r hx) x

def CntEx (x : Ex) : Prop := ∀ (L : Nat) (l : Int) (w : World) (cs : List Value) (bs : List Nat), l = (L : Int) → L ≤ 5 → exCnt x L ≤ 1000000 → Rep w x.d cs bs →
    Calls Tryz.prog 155 #[.agg cs.toArray, .int .i64 l] w fun e w' => e = .returned (.int .i64 ((exCnt x L : Nat) : Int)) ∧ Below w.heap.size w w'
set_option maxRecDepth 100000 in
set_option maxHeartbeats 4000000 in
theorem l3Count_r {x : Ex} (hrec : ∀ y ∈ x.kids, CntEx y) : CntEx x := by
  intro L l w cs bs hl hL hc h
  have HREC := Lib.hid hrec; clear hrec
  have H := h
  obtain ⟨A3, c3, A6, c6, A7, c7, d3, d6, d7, rfl, rfl, g1, g2, g3, g4, g5, g6, g7⟩ := Rep.ex_iff.1 h
  have Gkind := Lib.hid g1
  have Gnum := Lib.hid g2
  have Gindex := Lib.hid ((Rep.aff_iff2 (x := x.index)).2 ⟨_, _, _, rfl, rfl, g3, g4⟩)
  have Gread := Lib.hid ((Rep.acc_iff (x := x.read)).2 ⟨_, _, _, rfl, rfl, g5, g6⟩)
  have Gkids := Lib.hid g7
  clear h g1 g2 g3 g4 g5 g6 g7
  have hn : x.kids.length ≤ 9223372036854775807 := Nat.le_trans Gkids.out.sls_len.2.1 Gkids.out.sls_len.2.2
  obtain ⟨W, hW⟩ : ∃ W, W = w.alloc (.cells #[.int .i64 x.kind, .int .i64 x.num, .slice A3 x.index.coefs.length c3, .int .i64 x.index.const, .string x.read.arr, .slice A6 x.read.subs.length c6, .slice A7 x.kids.length c7] 49) := ⟨_, rfl⟩
  have P0 : Box7 W w.heap.size (.int .i64 x.kind) (.int .i64 x.num) (.slice A3 x.index.coefs.length c3) (.int .i64 x.index.const) (.string x.read.arr) (.slice A6 x.read.subs.length c6) (.slice A7 x.kids.length c7) := by
    rw [hW]; refine ⟨?_, ?_, ?_, ?_, ?_, ?_, ?_⟩ <;> go_simp
  have B0 : Below w.heap.size w W := by rw [hW]; exact bel
  have HW := Lib.hid hW; clear hW
  have GK := Lib.hid (Gkids.out.below B0); clear Gkids Gindex Gread Gkind Gnum H
  go_enter Tryz.func155, Tryz.ntmps155
  rcases L with _ | L
  · rw [exCnt_zero]
    subst hl
    go_wp2
    rw [← HW.out]
    go_loopw [5, 6] (fun u i wr => i = .int .i64 0 ∧ u = .int .i64 1 ∧ wr = W) (fun _ i _ => 0)
    case atStart => exact ⟨rfl, rfl, rfl⟩
    case round =>
      obtain ⟨rfl, rfl, rfl⟩ := hrel
      by_cases hlt : 0 < x.kids.length
      · go_wp2
        go_ret
        exact ⟨rfl, B0⟩
      · go_wp2
        go_ret
        exact ⟨rfl, B0⟩
  · rw [exCnt_succ] at hc ⊢
    have hl0 : 0 < l := by omega
    have hl6 : l ≤ 5 := by omega
    have HL := Lib.hid hl; clear hl
    have HC := Lib.hid hc; clear hc
    go_wp2
    rw [← HW.out]
    go_loopw [5, 6] (fun u i wr => ∃ j : Nat, j ≤ x.kids.length ∧ i = .int .i64 j ∧ u = .int .i64 ((1 + cntL (fun y => exCnt y L) (x.kids.take j) : Nat) : Int) ∧ Box7 wr w.heap.size (.int .i64 x.kind) (.int .i64 x.num) (.slice A3 x.index.coefs.length c3) (.int .i64 x.index.const) (.string x.read.arr) (.slice A6 x.read.subs.length c6) (.slice A7 x.kids.length c7) ∧ Below W.heap.size W wr) (fun _ i _ => x.kids.length - (intOf i).toNat)
    case atStart => exact ⟨0, Nat.zero_le _, rfl, rfl, P0, Below.refl _ _⟩
    case round =>
      clear P0
      obtain ⟨j, hj, rfl, rfl, Pr, hb⟩ := hrel
      have hbw := below_tr B0 hb
      by_cases hlt : j < x.kids.length
      · have ht := cntL_take (cnt := fun y => exCnt y L) hlt
        have hle := cntL_le (cnt := fun y => exCnt y L) (xs := x.kids) (j + 1)
        have hb1 := HC.out
        rw [ht] at hle
        have hb2 : 1 + cntL (fun y => exCnt y L) (x.kids.take j) + exCnt x.kids[j] L ≤ 1000000 := by omega
        have HT := Lib.hid ht; clear ht hle hb1
        obtain ⟨N, hN⟩ : ∃ N, N = cntL (fun y => exCnt y L) (x.kids.take j) := ⟨_, rfl⟩
        rw [← hN] at hb2 ⊢
        have HN := Lib.hid hN; clear hN
        obtain ⟨be, oe, cse, le, rfl, hble, hre, _, _, hce⟩ := (GK.out.below hb).sls_at Ex.d_size (k := j) hlt
        have Ge := Lib.hid hre
        obtain ⟨A3e, c3e, A6e, c6e, A7e, c7e, d3e, d6e, d7e, rfl, rfl, g1e, g2e, g3e, g4e, g5e, g6e, g7e⟩ := Rep.ex_iff.1 hre
        have k0e := (hce 0 _ rfl).1; rw [Nat.add_zero] at k0e
        have k1e := (hce 1 _ rfl).1
        have k2e := (hce 2 _ rfl).1
        have k3e := (hce 3 _ rfl).1
        have k4e := (hce 4 _ rfl).1
        have k5e := (hce 5 _ rfl).1
        have k6e := (hce 6 _ rfl).1
        have Q1e := Lib.hid g1e
        have Q2e := Lib.hid g2e
        have Q3e := Lib.hid g3e
        have Q4e := Lib.hid g4e
        have Q5e := Lib.hid g5e
        have Q6e := Lib.hid g6e
        have Q7e := Lib.hid g7e
        clear hce hre g1e g2e g3e g4e g5e g6e g7e
        go_wp2_with fail
        refine (HREC.out _ (List.getElem_mem hlt) L _ _ _ _ (by have := HL.out; omega) (by omega) (by omega) (Ge.out.below bel)).mono ?_
        rintro e w1 ⟨rfl, b1⟩
        have s1 : Below wr.heap.size wr w1 := bel
        have P1 := Pr.to s1; clear Pr
        have S1 : Below w.heap.size w w1 := below_tr hbw s1
        have T1 : Below wr.heap.size wr w1 := s1
        clear s1
        clear b1
        go_wp2
        go_roundw
        case rel => exact ⟨j + 1, by omega, by go_num, int_eq (by rw [HT.out, ← HN.out]; omega), P1, below_tr hb T1⟩
        case measure => simp [intOf]; omega
      · have hjj : j = x.kids.length := by omega
        subst hjj
        go_wp2
        go_ret
        exact ⟨ret_int (by rw [List.take_length]), hbw⟩
theorem l3Count_c (x : Ex) : CntEx x := Ex.ind (P := CntEx) (fun x hx => l3Count_r hx) x

/-- the counter's block g, and the rest as it was -/
structure ScanW (w W : World) (g : Nat) (c : Int) : Prop where
  touch : Touch [g] w W
  cell : W.cell? ⟨g, 0, none⟩ = some (.int .i64 c)
  frozen : W.frozen? ⟨g, 0, none⟩ = false
theorem ScanW.below {w W W' : World} {g : Nat} {c : Int} (h : ScanW w W g c) (hb : Below W.heap.size W W') : ScanW w W' g c :=
  ⟨h.touch.trans (Touch.of_below hb), by rw [hb.cell (lt_of_cell h.cell)]; exact h.cell, by rw [hb.frozen (lt_of_cell h.cell)]; exact h.frozen⟩

theorem kidsN_cases {k : Int} {n : Nat} (h : kidsN k = (n : Int)) : ((k = 1 ∨ k = 2 ∨ k = 3) ∧ n = 0) ∨ ((k = 4 ∨ k = 5 ∨ k = 6) ∧ n = 2) := by
  unfold kidsN at h
  split at h
  · exact .inl ⟨‹_›, by omega⟩
  · split at h
    · exact .inr ⟨‹_›, by omega⟩
    · omega
theorem exCnt_pos (x : Ex) (L : Nat) : 1 ≤ exCnt x L := by
  cases L with
  | zero => rw [exCnt_zero]; exact Nat.le_refl _
  | succ L => rw [exCnt_succ]; omega
theorem list2 {α : Type} {xs : List α} (h : xs.length = 2) : ∃ a b, xs = [a, b] := by
  match xs, h with
  | [a, b], _ => exact ⟨a, b, rfl⟩
theorem shape_cnt (x : Ex) : ∀ (L : Nat) (d : Int), exShape x d L = true → exCnt x L + 1 ≤ 2 ^ L :=
  Ex.ind (P := fun x => ∀ (L : Nat) (d : Int), exShape x d L = true → exCnt x L + 1 ≤ 2 ^ L) (fun x hx L d h => by
    rw [exShape_eq] at h
    simp only [Bool.and_eq_true, decide_eq_true_iff, List.all_eq_true] at h
    obtain ⟨h1, h2, _, h4⟩ := h
    obtain ⟨M, rfl⟩ : ∃ M, L = M + 1 := ⟨L - 1, by omega⟩
    rw [exCnt_succ, Nat.pow_succ]
    rw [Nat.add_sub_cancel] at h4
    rcases kidsN_cases h2 with ⟨_, h5⟩ | ⟨_, h5⟩
    · rw [List.eq_nil_of_length_eq_zero h5]
      have := Nat.two_pow_pos M
      simp only [cntL]; omega
    · obtain ⟨a, b, he⟩ := list2 h5
      rw [he] at hx h4 ⊢
      have ha := hx a (by simp) M d (h4 a (by simp))
      have hb := hx b (by simp) M d (h4 b (by simp))
      simp only [cntL]; omega) x
theorem shape_cnt5 {x : Ex} {d : Int} (h : exShape x d 5 = true) : exCnt x 5 ≤ 1000000 := by
  have := shape_cnt x 5 d h
  have h2 : (2 : Nat) ^ 5 = 32 := rfl
  omega
theorem scans_two (a b : Ex) (d : Int) (L : Nat) (c : Int) : scansF [a, b] d L c = if (scanF a d L c).1 = true then scanF b d L (scanF a d L c).2 else (false, (scanF a d L c).2) := by
  simp only [scansF]
  split
  · split
    · rename_i h; rw [← h]
    · rename_i h; simp only [Bool.not_eq_true] at h; rw [← h]
  · rfl
theorem scan_law (x : Ex) : ∀ (L : Nat) (d c : Int), 0 ≤ c → (scanF x d L c).1 = (exShape x d L && decide (c + (exCnt x L : Int) ≤ 12)) ∧ ((scanF x d L c).1 = true → (scanF x d L c).2 = c + (exCnt x L : Int)) :=
  Ex.ind (P := fun x => ∀ (L : Nat) (d c : Int), 0 ≤ c → (scanF x d L c).1 = (exShape x d L && decide (c + (exCnt x L : Int) ≤ 12)) ∧ ((scanF x d L c).1 = true → (scanF x d L c).2 = c + (exCnt x L : Int))) (fun x hx L d c hc => by
    have hpos := exCnt_pos x L
    rw [scanF_eq, exShape_eq]
    by_cases h0 : 12 < c + 1 ∨ L = 0
    · rw [if_pos h0]
      refine ⟨?_, fun h => by cases h⟩
      rcases h0 with h0 | rfl
      · rw [decide_eq_false (show ¬ c + (exCnt x L : Int) ≤ 12 by omega), Bool.and_false]
      · rfl
    rw [if_neg h0]
    obtain ⟨M, rfl⟩ : ∃ M, L = M + 1 := ⟨L - 1, by omega⟩
    rw [decide_eq_true (show 1 ≤ M + 1 by omega), Bool.true_and, Nat.add_sub_cancel]
    have leaf : x.kids.length = 0 → x.kids.all (fun y => exShape y d M) = true ∧ (exCnt x (M + 1) : Int) = 1 := fun h => by
      rw [exCnt_succ, List.eq_nil_of_length_eq_zero h]; exact ⟨rfl, rfl⟩
    by_cases k1 : x.kind = 1
    · rw [if_pos k1]
      have ho : ownF x d = (inB x.num 0 99 && (noAff x.index && noAcc x.read)) := by unfold ownF; rw [if_neg (by omega), if_neg (by omega), if_pos k1]
      have hk : kidsN x.kind = 0 := by rw [k1]; rfl
      by_cases hz : x.kids.length = 0
      · obtain ⟨h1, h2⟩ := leaf hz
        rw [ho, hk, h1, h2, decide_eq_true hz, decide_eq_true (show (0 : Int) = (x.kids.length : Int) by omega), decide_eq_true (show c + 1 ≤ 12 by omega)]
        refine ⟨?_, fun _ => rfl⟩
        cases inB x.num 0 99 <;> cases noAff x.index <;> cases noAcc x.read <;> rfl
      · rw [hk, decide_eq_false hz, decide_eq_false (show ¬ (0 : Int) = (x.kids.length : Int) by omega)]
        simp
    rw [if_neg k1]
    by_cases k2 : x.kind = 2
    · rw [if_pos k2]
      have ho : ownF x d = (decide (x.num = 0) && (noAcc x.read && (affOk x.index && decide ((depF x.index.coefs : Int) ≤ d)))) := by unfold ownF; rw [if_pos k2]
      have hk : kidsN x.kind = 0 := by rw [k2]; rfl
      by_cases hz : x.kids.length = 0
      · obtain ⟨h1, h2⟩ := leaf hz
        rw [ho, hk, h1, h2, decide_eq_true hz, decide_eq_true (show (0 : Int) = (x.kids.length : Int) by omega), decide_eq_true (show c + 1 ≤ 12 by omega)]
        simp
      · rw [hk, decide_eq_false hz, decide_eq_false (show ¬ (0 : Int) = (x.kids.length : Int) by omega)]
        simp
    rw [if_neg k2]
    by_cases k3 : x.kind = 3
    · rw [if_pos k3]
      have ho : ownF x d = (decide (x.num = 0) && (noAff x.index && accOk x.read d)) := by unfold ownF; rw [if_neg k2, if_pos k3]
      have hk : kidsN x.kind = 0 := by rw [k3]; rfl
      by_cases hz : x.kids.length = 0
      · obtain ⟨h1, h2⟩ := leaf hz
        rw [ho, hk, h1, h2, decide_eq_true hz, decide_eq_true (show (0 : Int) = (x.kids.length : Int) by omega), decide_eq_true (show c + 1 ≤ 12 by omega)]
        simp
      · rw [hk, decide_eq_false hz, decide_eq_false (show ¬ (0 : Int) = (x.kids.length : Int) by omega)]
        simp
    rw [if_neg k3]
    have ho : ownF x d = (decide (x.num = 0) && (noAff x.index && noAcc x.read)) := by unfold ownF; rw [if_neg k2, if_neg k3, if_neg k1]
    by_cases hcond : (decide (x.num = 0) && (noAff x.index && (noAcc x.read && (inB x.kind 4 6 && decide (x.kids.length = 2))))) = true
    case neg =>
      rw [if_neg hcond]
      refine ⟨?_, fun h => by cases h⟩
      have : (decide (kidsN x.kind = (x.kids.length : Int)) && ownF x d) = false := by
        rw [ho]
        by_cases hk : kidsN x.kind = (x.kids.length : Int)
        · rcases kidsN_cases hk with ⟨h, _⟩ | ⟨h, h2⟩
          · omega
          · have hi : inB x.kind 4 6 = true := inB_true (by omega) (by omega)
            rw [hi, decide_eq_true h2] at hcond
            rw [decide_eq_true hk]
            simpa using hcond
        · rw [decide_eq_false hk]; rfl
      rw [← Bool.and_assoc (decide _) (ownF x d), this]; rfl
    rw [if_pos hcond]
    simp only [Bool.and_eq_true, decide_eq_true_iff] at hcond
    obtain ⟨hn, ha, hb, hi, h2⟩ := hcond
    have hi2 := inB_iff.1 hi
    have hk : kidsN x.kind = (x.kids.length : Int) := by
      rw [h2]; unfold kidsN; rw [if_neg (by omega), if_pos (by omega)]; rfl
    rw [decide_eq_true hk, ho, ha, hb, decide_eq_true hn]
    obtain ⟨p, q, he⟩ := list2 h2
    have hcn : cntL (fun y => exCnt y M) [p, q] = exCnt p M + exCnt q M := by simp [cntL]
    rw [exCnt_succ, he, hcn, scans_two]
    rw [he] at hx
    obtain ⟨e1, f1⟩ := hx p (by simp) M d (c + 1) (by omega)
    have hp2 := exCnt_pos q M
    simp only [List.all_cons, List.all_nil, Bool.and_true, Bool.true_and]
    by_cases hp : (scanF p d M (c + 1)).1 = true
    · rw [if_pos hp]
      have g1 := f1 hp
      rw [hp] at e1
      have e1' := e1.symm
      simp only [Bool.and_eq_true, decide_eq_true_iff] at e1'
      rw [g1, e1'.1, Bool.true_and]
      obtain ⟨e2, f2⟩ := hx q (by simp) M d (c + 1 + (exCnt p M : Int)) (by omega)
      refine ⟨?_, fun h => ?_⟩
      · rw [e2]
        congr 1
        rw [decide_eq_decide]; omega
      · rw [f2 h]; omega
    · rw [if_neg hp]
      refine ⟨?_, fun h => by cases h⟩
      simp only [Bool.not_eq_true] at hp
      rw [hp] at e1
      cases hs : exShape p d M with
      | false => rfl
      | true =>
        rw [hs, Bool.true_and] at e1
        have e1' := of_decide_eq_false e1.symm
        rw [decide_eq_false (by omega), Bool.and_false]) x
end Go.Proofs.YtbhniobgaoncaaaGreatDoor
