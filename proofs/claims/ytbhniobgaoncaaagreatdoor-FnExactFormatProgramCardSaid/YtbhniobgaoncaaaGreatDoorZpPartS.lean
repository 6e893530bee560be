/- Which parts are valid: l4Part of the reference; ProgramValid of the reference. -/
import Derived.Test.YtbhniobgaoncaaaGreatDoorZpCellsS
import Derived.Test.YtbhniobgaoncaaaGreatDoorZpArrsS
set_option linter.all false
set_option linter.unusedSimpArgs false
set_option linter.unusedVariables false
namespace Go.Proofs.YtbhniobgaoncaaaGreatDoor
open Go.ChangeShapes Go.WideShapes Go.ChangeAt Go.RowKit Go.Deep

/-- how many instances a part has, 0 if it is not valid -/
def partN (xs : List Ar) (x : Prt) : Int := if partOk xs x = true then ((ptsOf x).length : Int) * (x.body.length : Int) else 0
theorem partOk_1 {xs : List Ar} {x : Prt} (h : (NestPointsF x.nest).2 = false) : partOk xs x = false := by rw [partOk_eq, h, Bool.false_and]
theorem partOk_2 {xs : List Ar} {x : Prt} (h : inB (x.body.length : Int) 1 4 = false) : partOk xs x = false := by rw [partOk_eq, h, Bool.false_and, Bool.and_false]
theorem partOk_3 {xs : List Ar} {x : Prt} (h : x.body.all (stmPts xs x) = false) : partOk xs x = false := by rw [partOk_eq, h, Bool.and_false, Bool.and_false]
theorem partOk_4 {xs : List Ar} {x : Prt} (h : (NestPointsF x.nest).2 = true) (h2 : inB (x.body.length : Int) 1 4 = true) (h3 : x.body.all (stmPts xs x) = true) : partOk xs x = true := by rw [partOk_eq, h, h2, h3]; rfl
theorem partN_no {xs : List Ar} {x : Prt} (h : partOk xs x = false) : partN xs x = 0 := by rw [partN, if_neg (by rw [h]; simp)]
theorem partN_yes {xs : List Ar} {x : Prt} (h : partOk xs x = true) : partN xs x = ((ptsOf x).length : Int) * (x.body.length : Int) := by rw [partN, if_pos h]
def ptSt (xs : List Ar) (s : Stm) (q : List Int) : Bool := fineS xs q s && ptOk q
theorem ret_two {a b : Int} {p q : Bool} (h : a = b) (h2 : p = q) : (Ending.returned (.tuple #[.int .i64 a, .bool p]) : Ending) = .returned (.tuple #[.int .i64 b, .bool q]) := by rw [h, h2]

set_option maxRecDepth 100000 in
set_option maxHeartbeats 2000000 in
theorem l4Part_c {w : World} {xs : List Ar} {x : Prt} {cs' : List Value} {A : Option Addr} {n c : Nat} {bs bs1 : List Nat} (h : Rep w (sls Ar.d xs) [.slice A n c] bs) (h' : Rep w x.d cs' bs1) (hok : arrsOk xs = true) :
    Calls Tryz.prog 73 #[.slice A n c, .agg cs'.toArray] w fun e w' => e = .returned (.tuple #[.int .i64 (partN xs x), .bool (partOk xs x)]) ∧ Below w.heap.size w w' := by
  have H := Lib.hid h; clear h
  have HOK := Lib.hid hok; clear hok
  obtain ⟨A1', c1', A2', c2', d1', d2', rfl, rfl, g1', g2'⟩ := Rep.prt_iff.1 h'
  have Gnest' := Lib.hid g1'
  have Gbody' := Lib.hid g2'
  clear h' g1' g2'
  have hbn : x.body.length ≤ 9223372036854775807 := Nat.le_trans Gbody'.out.sls_len.2.1 Gbody'.out.sls_len.2.2
  have hnn : x.nest.length ≤ 9223372036854775807 := Nat.le_trans Gnest'.out.sls_len.2.1 Gnest'.out.sls_len.2.2
  go_enter Tryz.func73, Tryz.ntmps73
  go_wp2_with fail
  refine (specNestPoints_c (Gnest'.out.below bel)).mono ?_
  rintro e w1 ⟨A3, n3, c3, bs3, rfl, r1, nd1, hb1, b1⟩
  have P1 : Box2 w1 w.heap.size (.slice A1' x.nest.length c1') (.slice A2' x.body.length c2') := by
    refine ⟨?_, ?_⟩ <;> (rw [b1.cell (by simp [World.setCell]; try omega)]; go_simp)
  have S1 : Below w.heap.size w w1 := bel
  clear b1
  cases hnp : (NestPointsF x.nest).2 with
  | false =>
    have HX := Lib.hid (partOk_1 (xs := xs) hnp)
    clear hnp
    go_wp2
    go_ret2
    exact ⟨ret_two (partN_no HX.out).symm HX.out.symm, S1⟩
  | true =>
  have hnf := npF_ok hnp
  have HNP := Lib.hid hnp; clear hnp
  have HP4 := Lib.hid (fun q hq => (fun hh => PtS.of_B hh.1 hh.2.2) (pts_ok hnf.1 q hq) : ∀ q ∈ ptsOf x, PtS q)
  have hpl : (ptsOf x).length ≤ 120 := hnf.2.2.1
  rw [show (NestPointsF x.nest).1 = ptsOf x from hnf.2.2.2] at r1
  clear hnf
  obtain ⟨rfl, _, _⟩ := r1.sls_len
  have R1 := Lib.hid r1
  clear r1 nd1 hb1
  cases hin : inB (x.body.length : Int) 1 4 with
  | false =>
    have HX := Lib.hid (partOk_2 (xs := xs) hin)
    by_cases hl1 : x.body.length < 1
    · clear hin
      go_wp2
      go_ret2
      exact ⟨ret_two (partN_no HX.out).symm HX.out.symm, S1⟩
    · have hl4 : 4 < x.body.length := by
        rcases Nat.lt_or_ge 4 x.body.length with h | h
        · exact h
        · rw [inB_true (by omega) (by omega)] at hin; cases hin
      clear hin
      go_wp2
      go_ret2
      exact ⟨ret_two (partN_no HX.out).symm HX.out.symm, S1⟩
  | true =>
  have hin2 := inB_iff.1 hin
  have HIN := Lib.hid hin; clear hin
  go_wp2
  go_loopw [8] (fun i wr => ∃ j : Nat, j ≤ x.body.length ∧ i = .int .i64 j ∧ x.body.all (stmPts xs x) = (x.body.drop j).all (stmPts xs x) ∧ Box2 wr w.heap.size (.slice A1' x.nest.length c1') (.slice A2' x.body.length c2') ∧ Below w1.heap.size w1 wr) (fun i _ => x.body.length - (intOf i).toNat)
  case atStart => exact ⟨0, Nat.zero_le _, rfl, rfl, P1, Below.refl _ _⟩
  case round =>
    clear P1
    obtain ⟨j, hj, rfl, hi, Pr, hb⟩ := hrel
    have HI := Lib.hid hi; clear hi
    have Sr : Below w.heap.size w wr := below_tr S1 hb
    by_cases hlt : j < x.body.length
    · have HD := Lib.hid (HI.out.trans (all_drop (stmPts xs x) x.body j hlt))
      obtain ⟨be, oe, cse, le, rfl, hble, hre, _, _, hce⟩ := (Gbody'.out.below Sr).sls_at Stm.d_size (k := j) hlt
      have Ge := Lib.hid hre
      obtain ⟨A2e, c2e, A5e, c5e, A8e, c8e, A9e, c9e, d2e, d5e, d8e, d9e, rfl, rfl, g1e, g2e, g3e, g4e, g5e, g6e, g7e, g8e, g9e⟩ := Rep.stm_iff.1 hre
      have k0e := (hce 0 _ rfl).1; rw [Nat.add_zero] at k0e
      have k1e := (hce 1 _ rfl).1
      have k2e := (hce 2 _ rfl).1
      have k3e := (hce 3 _ rfl).1
      have k4e := (hce 4 _ rfl).1
      have k5e := (hce 5 _ rfl).1
      have k6e := (hce 6 _ rfl).1
      have k7e := (hce 7 _ rfl).1
      have k8e := (hce 8 _ rfl).1
      have Q1e := Lib.hid g1e
      have Q2e := Lib.hid g2e
      have Q3e := Lib.hid g3e
      have Q4e := Lib.hid g4e
      have Q5e := Lib.hid g5e
      have Q6e := Lib.hid g6e
      have Q7e := Lib.hid g7e
      have Q8e := Lib.hid g8e
      have Q9e := Lib.hid g9e
      clear hce hre g1e g2e g3e g4e g5e g6e g7e g8e g9e
      cases hv : StmtValidF x.body[j] (x.nest.length : Int) with
      | false =>
        have HX := Lib.hid (partOk_3 (xs := xs) (x := x) (HD.out.trans (by rw [stmPts, stmOk, hv, Bool.false_and, Bool.false_and])))
        have HV := Lib.hid hv; clear hv
        go_wp2_with fail
        refine wp_region_noPanic ?_
        refine wp_region_held_drew (S := fun w' => (Box2 w' w.heap.size (.slice A1' x.nest.length c1') (.slice (some ⟨be, oe, none⟩) x.body.length c2')) ∧ (w'.cell? ⟨be, oe + j * 9, none⟩ = some (.string x.body[j].write.arr) ∧ w'.cell? ⟨be, oe + j * 9 + 1, none⟩ = some (.slice A2e x.body[j].write.subs.length c2e) ∧ w'.cell? ⟨be, oe + j * 9 + 2, none⟩ = some (.int .i64 x.body[j].value.kind) ∧ w'.cell? ⟨be, oe + j * 9 + 3, none⟩ = some (.int .i64 x.body[j].value.num) ∧ w'.cell? ⟨be, oe + j * 9 + 4, none⟩ = some (.slice A5e x.body[j].value.index.coefs.length c5e) ∧ w'.cell? ⟨be, oe + j * 9 + 5, none⟩ = some (.int .i64 x.body[j].value.index.const) ∧ w'.cell? ⟨be, oe + j * 9 + 6, none⟩ = some (.string x.body[j].value.read.arr) ∧ w'.cell? ⟨be, oe + j * 9 + 7, none⟩ = some (.slice A8e x.body[j].value.read.subs.length c8e) ∧ w'.cell? ⟨be, oe + j * 9 + 8, none⟩ = some (.slice A9e x.body[j].value.kids.length c9e))) (by kernel_rfl) (⟨Pr, k0e, k1e, k2e, k3e, k4e, k5e, k6e, k7e, k8e⟩) (fun hHeld => ?_)
        refine goR 0 hHeld ?_
        refine goR 1 hHeld ?_
        refine goR 2 hHeld ?_
        refine goR 3 hHeld ?_
        refine goR 4 hHeld ?_
        refine goR 5 hHeld ?_
        refine goR 6 hHeld ?_
        refine goR 7 hHeld ?_
        refine stepR (i := 8) rfl (by kernel_rfl) (wanted_none rfl) (fun K hK => ?_)
        go_simp
        (refine (specStmtValid_c (Ge.out.drewN 1)).mono ?_; rintro e w2 ⟨he, b2⟩; replace b2 := of_drew b2; rw [HV.out] at he; subst he)
        go_wp2_with fail
        refine hK.out _ _ (⟨Pr.to b2, by rw [b2.cell hble]; exact k0e, by rw [b2.cell hble]; exact k1e, by rw [b2.cell hble]; exact k2e, by rw [b2.cell hble]; exact k3e, by rw [b2.cell hble]; exact k4e, by rw [b2.cell hble]; exact k5e, by rw [b2.cell hble]; exact k6e, by rw [b2.cell hble]; exact k7e, by rw [b2.cell hble]; exact k8e⟩) (fun hHeld => ?_)
        clear hK K
        try simp only [Act.put, aq0, aq1, aq2]
        refine goR 9 hHeld ?_
        refine wpAnyH_done (by kernel_rfl) ?_ _
        refine NoPanic.normal ?_
        go_wp2
        go_ret2
        exact ⟨ret_two (partN_no HX.out).symm HX.out.symm, below_tr Sr b2⟩
      | true =>
        have HS := Lib.hid (show stmPts xs x x.body[j] = (ptsOf x).all (ptSt xs x.body[j]) by rw [stmPts, stmOk, hv, Bool.true_and]; rfl)
        have HV := Lib.hid hv; clear hv
        go_wp2_with fail
        refine wp_region_noPanic ?_
        refine wp_region_held_drew (S := fun w' => (Box2 w' w.heap.size (.slice A1' x.nest.length c1') (.slice (some ⟨be, oe, none⟩) x.body.length c2')) ∧ (w'.cell? ⟨be, oe + j * 9, none⟩ = some (.string x.body[j].write.arr) ∧ w'.cell? ⟨be, oe + j * 9 + 1, none⟩ = some (.slice A2e x.body[j].write.subs.length c2e) ∧ w'.cell? ⟨be, oe + j * 9 + 2, none⟩ = some (.int .i64 x.body[j].value.kind) ∧ w'.cell? ⟨be, oe + j * 9 + 3, none⟩ = some (.int .i64 x.body[j].value.num) ∧ w'.cell? ⟨be, oe + j * 9 + 4, none⟩ = some (.slice A5e x.body[j].value.index.coefs.length c5e) ∧ w'.cell? ⟨be, oe + j * 9 + 5, none⟩ = some (.int .i64 x.body[j].value.index.const) ∧ w'.cell? ⟨be, oe + j * 9 + 6, none⟩ = some (.string x.body[j].value.read.arr) ∧ w'.cell? ⟨be, oe + j * 9 + 7, none⟩ = some (.slice A8e x.body[j].value.read.subs.length c8e) ∧ w'.cell? ⟨be, oe + j * 9 + 8, none⟩ = some (.slice A9e x.body[j].value.kids.length c9e))) (by kernel_rfl) (⟨Pr, k0e, k1e, k2e, k3e, k4e, k5e, k6e, k7e, k8e⟩) (fun hHeld => ?_)
        refine goR 0 hHeld ?_
        refine goR 1 hHeld ?_
        refine goR 2 hHeld ?_
        refine goR 3 hHeld ?_
        refine goR 4 hHeld ?_
        refine goR 5 hHeld ?_
        refine goR 6 hHeld ?_
        refine goR 7 hHeld ?_
        refine stepR (i := 8) rfl (by kernel_rfl) (wanted_none rfl) (fun K hK => ?_)
        go_simp
        (refine (specStmtValid_c (Ge.out.drewN 1)).mono ?_; rintro e w2 ⟨he, b2⟩; replace b2 := of_drew b2; rw [HV.out] at he; subst he)
        go_wp2_with fail
        refine hK.out _ _ (⟨Pr.to b2, by rw [b2.cell hble]; exact k0e, by rw [b2.cell hble]; exact k1e, by rw [b2.cell hble]; exact k2e, by rw [b2.cell hble]; exact k3e, by rw [b2.cell hble]; exact k4e, by rw [b2.cell hble]; exact k5e, by rw [b2.cell hble]; exact k6e, by rw [b2.cell hble]; exact k7e, by rw [b2.cell hble]; exact k8e⟩) (fun hHeld => ?_)
        clear hK K
        try simp only [Act.put, aq0, aq1, aq2]
        refine goR 9 hHeld ?_
        refine wpAnyH_done (by kernel_rfl) ?_ _
        refine NoPanic.normal ?_
        have P2 := Pr.to b2
        clear Pr
        go_wp2
        go_loopw [9] (fun i w3 => ∃ k : Nat, k ≤ (ptsOf x).length ∧ i = .int .i64 k ∧ (ptsOf x).all (ptSt xs x.body[j]) = ((ptsOf x).drop k).all (ptSt xs x.body[j]) ∧ Box2 w3 w.heap.size (.slice A1' x.nest.length c1') (.slice (some ⟨be, oe, none⟩) x.body.length c2') ∧ Below wr.heap.size wr w3) (fun i _ => (ptsOf x).length - (intOf i).toNat)
        case atStart => exact ⟨0, Nat.zero_le _, rfl, rfl, P2, b2⟩
        case round =>
          clear P2 b2
          obtain ⟨k, hk, rfl, hi3, P3, hw3⟩ := hrel
          have HI3 := Lib.hid hi3; clear hi3
          have hb3 := below_tr hb hw3
          have HW3 := Lib.hid hw3
          have hbl3 := Nat.lt_of_lt_of_le hble hw3.size
          have q0 := (hw3.cell hble).trans k0e
          have q1 := (hw3.cell hble).trans k1e
          have q2 := (hw3.cell hble).trans k2e
          have q3 := (hw3.cell hble).trans k3e
          have q4 := (hw3.cell hble).trans k4e
          have q5 := (hw3.cell hble).trans k5e
          have q6 := (hw3.cell hble).trans k6e
          have q7 := (hw3.cell hble).trans k7e
          have q8 := (hw3.cell hble).trans k8e
          have Gf := Lib.hid (Ge.out.below hw3)
          clear hw3 k0e k1e k2e k3e k4e k5e k6e k7e k8e
          have S3 : Below w.heap.size w wr := below_tr S1 hb3
          by_cases hkt : k < (ptsOf x).length
          · have HD3 := Lib.hid (HI3.out.trans (all_drop (ptSt xs x.body[j]) (ptsOf x) k hkt))
            have HPQ := Lib.hid (HP4.out _ (List.getElem_mem hkt))
            obtain ⟨bq, oq, csq, lq, rfl, hblq, hrq, _, _, hcq⟩ := (R1.out.below hb3).sls_at ints_size (k := k) hkt
            obtain ⟨Aq, cq, rfl⟩ := hrq.ints_form1
            have GQ := Lib.hid hrq
            have kq := (hcq 0 _ rfl).1; rw [Nat.add_zero, Nat.mul_one] at kq
            clear hcq hrq
            cases hf : fineS xs (ptsOf x)[k] x.body[j] with
            | false =>
              have HX := Lib.hid (partOk_3 (xs := xs) (x := x) (HD.out.trans (by rw [HS.out, HD3.out, ptSt, hf, Bool.false_and, Bool.false_and, Bool.false_and])))
              have HF := Lib.hid (show CellsF xs (ptsOf x)[k] x.body[j] = ([], 0, false) by simp [CellsF, hf])
              clear hf
              go_wp2_with fail
              refine wp_region_noPanic ?_
              refine wp_region_held_drew (S := fun w' => (Box2 w' w.heap.size (.slice A1' x.nest.length c1') (.slice (some ⟨be, oe, none⟩) x.body.length c2')) ∧ (w'.cell? ⟨bq, oq + k, none⟩ = some (.slice Aq (ptsOf x)[k].length cq)) ∧ (w'.cell? ⟨be, oe + j * 9, none⟩ = some (.string x.body[j].write.arr) ∧ w'.cell? ⟨be, oe + j * 9 + 1, none⟩ = some (.slice A2e x.body[j].write.subs.length c2e) ∧ w'.cell? ⟨be, oe + j * 9 + 2, none⟩ = some (.int .i64 x.body[j].value.kind) ∧ w'.cell? ⟨be, oe + j * 9 + 3, none⟩ = some (.int .i64 x.body[j].value.num) ∧ w'.cell? ⟨be, oe + j * 9 + 4, none⟩ = some (.slice A5e x.body[j].value.index.coefs.length c5e) ∧ w'.cell? ⟨be, oe + j * 9 + 5, none⟩ = some (.int .i64 x.body[j].value.index.const) ∧ w'.cell? ⟨be, oe + j * 9 + 6, none⟩ = some (.string x.body[j].value.read.arr) ∧ w'.cell? ⟨be, oe + j * 9 + 7, none⟩ = some (.slice A8e x.body[j].value.read.subs.length c8e) ∧ w'.cell? ⟨be, oe + j * 9 + 8, none⟩ = some (.slice A9e x.body[j].value.kids.length c9e))) (by kernel_rfl) (⟨P3, kq, q0, q1, q2, q3, q4, q5, q6, q7, q8⟩) (fun hHeld => ?_)
              refine goR 0 hHeld ?_
              refine goR 1 hHeld ?_
              refine goR 2 hHeld ?_
              refine goR 3 hHeld ?_
              refine goR 4 hHeld ?_
              refine goR 5 hHeld ?_
              refine goR 6 hHeld ?_
              refine goR 7 hHeld ?_
              refine goR 8 hHeld ?_
              refine goR 9 hHeld ?_
              refine stepR (i := 10) rfl (by kernel_rfl) (wanted_none rfl) (fun K hK => ?_)
              go_simp
              (refine (l4Cells_c (H.out.below (below_drewN S3 1)) (Gf.out.drewN 1) (GQ.out.drewN 1) HOK.out HV.out HPQ.out).mono ?_; rintro e w4 ⟨A4, n4, c4, bs4, he, _, _, _, b4⟩; replace b4 := of_drew b4; rw [HF.out] at he; subst he)
              go_wp2_with fail
              refine hK.out _ _ (⟨P3.to b4, by rw [b4.cell hblq]; exact kq, by rw [b4.cell hbl3]; exact q0, by rw [b4.cell hbl3]; exact q1, by rw [b4.cell hbl3]; exact q2, by rw [b4.cell hbl3]; exact q3, by rw [b4.cell hbl3]; exact q4, by rw [b4.cell hbl3]; exact q5, by rw [b4.cell hbl3]; exact q6, by rw [b4.cell hbl3]; exact q7, by rw [b4.cell hbl3]; exact q8⟩) (fun hHeld => ?_)
              clear hK K
              try simp only [Act.put, aq0, aq1, aq2]
              refine goR 11 hHeld ?_
              refine goR 12 hHeld ?_
              refine goR 13 hHeld ?_
              refine goR 14 hHeld ?_
              refine goR 15 hHeld ?_
              refine goR 16 hHeld ?_
              refine goR 17 hHeld ?_
              refine wpAnyH_done (by kernel_rfl) ?_ _
              refine NoPanic.normal ?_
              go_wp2
              go_ret2
              exact ⟨ret_two (partN_no HX.out).symm HX.out.symm, below_tr S3 b4⟩
            | true =>
              have HPS := Lib.hid (show ptSt xs x.body[j] (ptsOf x)[k] = ptOk (ptsOf x)[k] by rw [ptSt, hf, Bool.true_and])
              have HF := Lib.hid (show CellsF xs (ptsOf x)[k] x.body[j] = (rdF xs (ptsOf x)[k] x.body[j], wrF xs (ptsOf x)[k] x.body[j], true) by simp [CellsF, hf])
              clear hf
              go_wp2_with fail
              refine wp_region_noPanic ?_
              refine wp_region_held_drew (S := fun w' => (Box2 w' w.heap.size (.slice A1' x.nest.length c1') (.slice (some ⟨be, oe, none⟩) x.body.length c2')) ∧ (w'.cell? ⟨bq, oq + k, none⟩ = some (.slice Aq (ptsOf x)[k].length cq)) ∧ (w'.cell? ⟨be, oe + j * 9, none⟩ = some (.string x.body[j].write.arr) ∧ w'.cell? ⟨be, oe + j * 9 + 1, none⟩ = some (.slice A2e x.body[j].write.subs.length c2e) ∧ w'.cell? ⟨be, oe + j * 9 + 2, none⟩ = some (.int .i64 x.body[j].value.kind) ∧ w'.cell? ⟨be, oe + j * 9 + 3, none⟩ = some (.int .i64 x.body[j].value.num) ∧ w'.cell? ⟨be, oe + j * 9 + 4, none⟩ = some (.slice A5e x.body[j].value.index.coefs.length c5e) ∧ w'.cell? ⟨be, oe + j * 9 + 5, none⟩ = some (.int .i64 x.body[j].value.index.const) ∧ w'.cell? ⟨be, oe + j * 9 + 6, none⟩ = some (.string x.body[j].value.read.arr) ∧ w'.cell? ⟨be, oe + j * 9 + 7, none⟩ = some (.slice A8e x.body[j].value.read.subs.length c8e) ∧ w'.cell? ⟨be, oe + j * 9 + 8, none⟩ = some (.slice A9e x.body[j].value.kids.length c9e))) (by kernel_rfl) (⟨P3, kq, q0, q1, q2, q3, q4, q5, q6, q7, q8⟩) (fun hHeld => ?_)
              refine goR 0 hHeld ?_
              refine goR 1 hHeld ?_
              refine goR 2 hHeld ?_
              refine goR 3 hHeld ?_
              refine goR 4 hHeld ?_
              refine goR 5 hHeld ?_
              refine goR 6 hHeld ?_
              refine goR 7 hHeld ?_
              refine goR 8 hHeld ?_
              refine goR 9 hHeld ?_
              refine stepR (i := 10) rfl (by kernel_rfl) (wanted_none rfl) (fun K hK => ?_)
              go_simp
              (refine (l4Cells_c (H.out.below (below_drewN S3 1)) (Gf.out.drewN 1) (GQ.out.drewN 1) HOK.out HV.out HPQ.out).mono ?_; rintro e w4 ⟨A4, n4, c4, bs4, he, _, _, _, b4⟩; replace b4 := of_drew b4; rw [HF.out] at he; subst he)
              go_wp2_with fail
              refine hK.out _ _ (⟨P3.to b4, by rw [b4.cell hblq]; exact kq, by rw [b4.cell hbl3]; exact q0, by rw [b4.cell hbl3]; exact q1, by rw [b4.cell hbl3]; exact q2, by rw [b4.cell hbl3]; exact q3, by rw [b4.cell hbl3]; exact q4, by rw [b4.cell hbl3]; exact q5, by rw [b4.cell hbl3]; exact q6, by rw [b4.cell hbl3]; exact q7, by rw [b4.cell hbl3]; exact q8⟩) (fun hHeld => ?_)
              clear hK K
              try simp only [Act.put, aq0, aq1, aq2]
              refine goR 11 hHeld ?_
              refine goR 12 hHeld ?_
              refine goR 13 hHeld ?_
              refine goR 14 hHeld ?_
              refine goR 15 hHeld ?_
              refine goR 16 hHeld ?_
              refine goR 17 hHeld ?_
              refine wpAnyH_done (by kernel_rfl) ?_ _
              refine NoPanic.normal ?_
              have P4 := P3.to b4
              have kq4 := (b4.cell (p := ⟨bq, oq + k, none⟩) hblq).trans kq
              have S4 := below_tr S3 b4
              have T4 := below_tr hb3 b4
              have GQ4 := Lib.hid (GQ.out.below b4)
              have W4 := below_tr HW3.out b4
              clear P3 kq S3 hb3 GQ b4 q0 q1 q2 q3 q4 q5 q6 q7 q8 T4
              go_wp2_with fail
              refine (l1Point_c GQ4.out).mono ?_
              rintro e w5 ⟨rfl, rfl⟩
              cases hpo : ptOk (ptsOf x)[k] with
              | false =>
                have HX := Lib.hid (partOk_3 (xs := xs) (x := x) (HD.out.trans (by rw [HS.out, HD3.out, HPS.out, hpo, Bool.false_and, Bool.false_and])))
                clear hpo
                go_wp2
                go_ret2
                exact ⟨ret_two (partN_no HX.out).symm HX.out.symm, by first | exact S4 | exact below_drewN S4 _⟩
              | true =>
                have HX := Lib.hid (HD3.out.trans (by rw [HPS.out, hpo, Bool.true_and]))
                clear hpo
                go_wp2
                go_roundw
                case rel => exact ⟨k + 1, by omega, by go_num, HX.out, by first | exact P4 | exact P4.to (below_drewN (Below.refl _ _) _), by first | exact W4 | exact below_drewN W4 _⟩
                case measure => simp [intOf]; omega
          · have hkk : k = (ptsOf x).length := by omega
            subst hkk
            have HX := Lib.hid (show x.body.all (stmPts xs x) = (x.body.drop (j + 1)).all (stmPts xs x) by rw [HD.out, HS.out, HI3.out, List.drop_length]; rfl)
            go_wp2
            go_roundw
            case rel => exact ⟨j + 1, by omega, by go_num, HX.out, P3, hb3⟩
            case measure => simp [intOf]; omega
    · have hjj : j = x.body.length := by omega
      subst hjj
      have HY := Lib.hid (partOk_4 HNP.out HIN.out (show x.body.all (stmPts xs x) = true by rw [HI.out, List.drop_length]; rfl))
      have hm1 : (ptsOf x).length * x.body.length ≤ 480 := by have := Nat.mul_le_mul hpl (show x.body.length ≤ 4 by omega); omega
      have hm2 : ((ptsOf x).length : Int) * (x.body.length : Int) = (((ptsOf x).length * x.body.length : Nat) : Int) := by simp
      have hm3 : 0 ≤ ((ptsOf x).length : Int) * (x.body.length : Int) ∧ ((ptsOf x).length : Int) * (x.body.length : Int) ≤ 480 := by rw [hm2]; omega
      clear hm1 hm2
      go_wp2
      go_ret2
      exact ⟨ret_two (partN_yes HY.out).symm HY.out.symm, Sr⟩
end Go.Proofs.YtbhniobgaoncaaaGreatDoor
