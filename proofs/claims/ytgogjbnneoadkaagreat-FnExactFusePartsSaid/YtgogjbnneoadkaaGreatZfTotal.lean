/- Cells of programs, on both sides: how many there are, the cell of an access, which memories are valid. -/
import Derived.Test.YtgogjbnneoadkaaGreatZfCellsS
import Derived.Test.YtgogjbnneoadkaaGreatZfArrsS
import Derived.Test.YtgogjbnneoadkaaGreatZfInsts
set_option linter.all false
set_option maxHeartbeats 4000000
set_option maxRecDepth 100000
namespace Go.Proofs.YtgogjbnneoadkaaGreat
open Go.ChangeShapes Go.WideShapes Go.ChangeAt Go.RowKit Go.Deep
def qSP (xs : List Ar) (x : Prt) : Int := if zU xs x = true then ((zG x).length : Int) * (x.body.length : Int) else 0
theorem qNH {xs : List Ar} {x : Prt} (h : (qN x.nest).2 = false) : zU xs x = false := by rw [qZB, h, Bool.false_and]
theorem qNK {xs : List Ar} {x : Prt} (h : inB (x.body.length : Int) 1 4 = false) : zU xs x = false := by rw [qZB, h, Bool.false_and, Bool.and_false]
theorem qKW {xs : List Ar} {x : Prt} (h : x.body.all (jG xs x) = false) : zU xs x = false := by rw [qZB, h, Bool.and_false, Bool.and_false]
theorem qNY {xs : List Ar} {x : Prt} (h : (qN x.nest).2 = true) (h2 : inB (x.body.length : Int) 1 4 = true) (h3 : x.body.all (jG xs x) = true) : zU xs x = true := by rw [qZB, h, h2, h3]; rfl
theorem qQX {xs : List Ar} {x : Prt} (h : zU xs x = false) : qSP xs x = 0 := by rw [qSP, if_neg (by rw [h]; simp)]
theorem qHR {xs : List Ar} {x : Prt} (h : zU xs x = true) : qSP xs x = ((zG x).length : Int) * (x.body.length : Int) := by rw [qSP, if_pos h]
def ptSt (xs : List Ar) (s : Stm) (q : List Int) : Bool := wB xs q s && ptOk q
theorem qZW {a b : Int} {p q : Bool} (h : a = b) (h2 : p = q) : (Ending.returned (.tuple #[.int .i64 a, .bool p]) : Ending) = .returned (.tuple #[.int .i64 b, .bool q]) := by rw [h, h2]
theorem qDK {w : World} {xs : List Ar} {x : Prt} {cs' : List Value} {A : Option Addr} {n c : Nat} {bs bs1 : List Nat} (h : Rep w (sls Ar.d xs) [.slice A n c] bs) (h' : Rep w x.d cs' bs1) (hok : xM xs = true) :
  Calls Tryz.prog 95 #[.slice A n c, .agg cs'.toArray] w fun e w' => e = .returned (.tuple #[.int .i64 (qSP xs x), .bool (zU xs x)]) /\ Below w.heap.size w w' := by
 have H := qQ h; clear h;have HOK := qQ hok; clear hok;obtain ⟨A1', c1', A2', c2', d1', d2', rfl, rfl, g1', g2'⟩ := Rep.prt_iff.1 h';have Gnest' := qQ g1';have Gbody' := qQ g2';clear h' g1' g2';have hbn : x.body.length <= 9223372036854775807 := qX Gbody'.out.sls_len.2.1 Gbody'.out.sls_len.2.2;have hnn : x.nest.length <= 9223372036854775807 := qX Gnest'.out.sls_len.2.1 Gnest'.out.sls_len.2.2;go_enter Tryz.func95, Tryz.ntmps95;go_wp2_with fail;refine (qJU (Gnest'.out.below bel)).mono ?_;rintro e w1 ⟨A3, n3, c3, bs3, rfl, r1, nd1, hb1, b1⟩;have P1 : Box2 w1 w.heap.size (.slice A1' x.nest.length c1') (.slice A2' x.body.length c2') := by
  refine ⟨?_, ?_⟩ <;> (rw [b1.cell (by simp [World.setCell]; try omega)]; go_simp)
 have S1 : Below w.heap.size w w1 := bel;clear b1
 cases hnp : (qN x.nest).2 with
 | false =>
  have HX := qQ (qNH (xs := xs) hnp);clear hnp;go_wp2;go_ret2;exact ⟨qZW (qQX HX.out).symm HX.out.symm, S1⟩
 | true =>
 have hnf := qHC hnp;have HNP := qQ hnp; clear hnp;have HP4 := qQ (fun q hq => (fun hh => PtS.of_B hh.1 hh.2.2) (qHP hnf.1 q hq) : ∀ q ∈ zG x, PtS q);have hpl : (zG x).length <= 120 := hnf.2.2.1;rw [show (qN x.nest).1 = zG x from hnf.2.2.2] at r1;clear hnf;obtain ⟨rfl, _, _⟩ := r1.sls_len;have R1 := qQ r1;clear r1 nd1 hb1
 cases hin : inB (x.body.length : Int) 1 4 with
 | false =>
  have HX := qQ (qNK (xs := xs) hin);by_cases hl1 : x.body.length < 1
  ·clear hin
   go_wp2;go_ret2;exact ⟨qZW (qQX HX.out).symm HX.out.symm, S1⟩
  ·have hl4 : 4 < x.body.length := by
    rcases Nat.lt_or_ge 4 x.body.length with h | h
    ·exact h
    ·rw [uH (by omega) (by omega)] at hin; cases hin
   clear hin;go_wp2;go_ret2;exact ⟨qZW (qQX HX.out).symm HX.out.symm, S1⟩
 | true =>
 have hin2 := uZ.1 hin;have HIN := qQ hin; clear hin;go_wp2;go_loopw [8] (fun i wr => ∃ j : Nat, j <= x.body.length /\ i = .int .i64 j /\ x.body.all (jG xs x) = (x.body.drop j).all (jG xs x) /\ Box2 wr w.heap.size (.slice A1' x.nest.length c1') (.slice A2' x.body.length c2') /\ Below w1.heap.size w1 wr) (fun i _ => x.body.length - (intOf i).toNat)
 case atStart => exact ⟨0, Nat.zero_le _, rfl, rfl, P1, Below.refl _ _⟩
 case round =>
  clear P1;obtain ⟨j, hj, rfl, hi, Pr, hb⟩ := hrel;have HI := qQ hi; clear hi;have Sr : Below w.heap.size w wr := qY S1 hb;by_cases hlt : j < x.body.length
  ·have HD := qQ (HI.out.trans (wJ (jG xs x) x.body j hlt))
   obtain ⟨be, oe, cse, le, rfl, hble, hre, _, _, hce⟩ := (Gbody'.out.below Sr).sls_at Stm.d_size (k := j) hlt;have Ge := qQ hre;obtain ⟨A2e, c2e, A5e, c5e, A8e, c8e, A9e, c9e, d2e, d5e, d8e, d9e, rfl, rfl, g1e, g2e, g3e, g4e, g5e, g6e, g7e, g8e, g9e⟩ := Rep.stm_iff.1 hre;have k0e := (hce 0 _ rfl).1; rw [Nat.add_zero] at k0e;have k1e := (hce 1 _ rfl).1;have k2e := (hce 2 _ rfl).1;have k3e := (hce 3 _ rfl).1;have k4e := (hce 4 _ rfl).1;have k5e := (hce 5 _ rfl).1;have k6e := (hce 6 _ rfl).1;have k7e := (hce 7 _ rfl).1;have k8e := (hce 8 _ rfl).1;have Q1e := qQ g1e;have Q2e := qQ g2e;have Q3e := qQ g3e;have Q4e := qQ g4e;have Q5e := qQ g5e;have Q6e := qQ g6e;have Q7e := qQ g7e;have Q8e := qQ g8e;have Q9e := qQ g9e;clear hce hre g1e g2e g3e g4e g5e g6e g7e g8e g9e
   cases hv : zV x.body[j] (x.nest.length : Int) with
   | false =>
    have HX := qQ (qKW (xs := xs) (x := x) (HD.out.trans (by rw [jG, qWC, hv, Bool.false_and, Bool.false_and])));have HV := qQ hv; clear hv;go_wp2_with fail;refine wp_region_noPanic ?_;refine wp_region_held_drew (S := fun w' => (Box2 w' w.heap.size (.slice A1' x.nest.length c1') (.slice (some ⟨be, oe, none⟩) x.body.length c2')) /\ (w'.cell? ⟨be, oe + j * 9, none⟩ = some (.string x.body[j].write.arr) /\ w'.cell? ⟨be, oe + j * 9 + 1, none⟩ = some (.slice A2e x.body[j].write.subs.length c2e) /\ w'.cell? ⟨be, oe + j * 9 + 2, none⟩ = some (.int .i64 x.body[j].value.kind) /\ w'.cell? ⟨be, oe + j * 9 + 3, none⟩ = some (.int .i64 x.body[j].value.num) /\ w'.cell? ⟨be, oe + j * 9 + 4, none⟩ = some (.slice A5e x.body[j].value.index.coefs.length c5e) /\ w'.cell? ⟨be, oe + j * 9 + 5, none⟩ = some (.int .i64 x.body[j].value.index.const) /\ w'.cell? ⟨be, oe + j * 9 + 6, none⟩ = some (.string x.body[j].value.read.arr) /\ w'.cell? ⟨be, oe + j * 9 + 7, none⟩ = some (.slice A8e x.body[j].value.read.subs.length c8e) /\ w'.cell? ⟨be, oe + j * 9 + 8, none⟩ = some (.slice A9e x.body[j].value.kids.length c9e))) (by kernel_rfl) (⟨Pr, k0e, k1e, k2e, k3e, k4e, k5e, k6e, k7e, k8e⟩) (fun hHeld => ?_);refine goR 0 hHeld ?_;refine goR 1 hHeld ?_;refine goR 2 hHeld ?_;refine goR 3 hHeld ?_;refine goR 4 hHeld ?_;refine goR 5 hHeld ?_;refine goR 6 hHeld ?_;refine goR 7 hHeld ?_;refine zF (i := 8) rfl (by kernel_rfl) (qK rfl) (fun K hK => ?_);go_simp
    (refine (wU (Ge.out.drewN 1)).mono ?_; rintro e w2 ⟨he, b2⟩; replace b2 := qL b2; rw [HV.out] at he; subst he)
    go_wp2_with fail;refine hK.out _ _ (⟨Pr.to b2, by rw [b2.cell hble]; exact k0e, by rw [b2.cell hble]; exact k1e, by rw [b2.cell hble]; exact k2e, by rw [b2.cell hble]; exact k3e, by rw [b2.cell hble]; exact k4e, by rw [b2.cell hble]; exact k5e, by rw [b2.cell hble]; exact k6e, by rw [b2.cell hble]; exact k7e, by rw [b2.cell hble]; exact k8e⟩) (fun hHeld => ?_);clear hK K
    try simp only [Act.put, aq0, aq1, aq2]
    refine goR 9 hHeld ?_;refine wpAnyH_done (by kernel_rfl) ?_ _;refine NoPanic.normal ?_;go_wp2;go_ret2;exact ⟨qZW (qQX HX.out).symm HX.out.symm, qY Sr b2⟩
   | true =>
    have HS := qQ (show jG xs x x.body[j] = (zG x).all (ptSt xs x.body[j]) by rw [jG, qWC, hv, Bool.true_and]; rfl);have HV := qQ hv; clear hv;go_wp2_with fail;refine wp_region_noPanic ?_;refine wp_region_held_drew (S := fun w' => (Box2 w' w.heap.size (.slice A1' x.nest.length c1') (.slice (some ⟨be, oe, none⟩) x.body.length c2')) /\ (w'.cell? ⟨be, oe + j * 9, none⟩ = some (.string x.body[j].write.arr) /\ w'.cell? ⟨be, oe + j * 9 + 1, none⟩ = some (.slice A2e x.body[j].write.subs.length c2e) /\ w'.cell? ⟨be, oe + j * 9 + 2, none⟩ = some (.int .i64 x.body[j].value.kind) /\ w'.cell? ⟨be, oe + j * 9 + 3, none⟩ = some (.int .i64 x.body[j].value.num) /\ w'.cell? ⟨be, oe + j * 9 + 4, none⟩ = some (.slice A5e x.body[j].value.index.coefs.length c5e) /\ w'.cell? ⟨be, oe + j * 9 + 5, none⟩ = some (.int .i64 x.body[j].value.index.const) /\ w'.cell? ⟨be, oe + j * 9 + 6, none⟩ = some (.string x.body[j].value.read.arr) /\ w'.cell? ⟨be, oe + j * 9 + 7, none⟩ = some (.slice A8e x.body[j].value.read.subs.length c8e) /\ w'.cell? ⟨be, oe + j * 9 + 8, none⟩ = some (.slice A9e x.body[j].value.kids.length c9e))) (by kernel_rfl) (⟨Pr, k0e, k1e, k2e, k3e, k4e, k5e, k6e, k7e, k8e⟩) (fun hHeld => ?_);refine goR 0 hHeld ?_;refine goR 1 hHeld ?_;refine goR 2 hHeld ?_;refine goR 3 hHeld ?_;refine goR 4 hHeld ?_;refine goR 5 hHeld ?_;refine goR 6 hHeld ?_;refine goR 7 hHeld ?_;refine zF (i := 8) rfl (by kernel_rfl) (qK rfl) (fun K hK => ?_);go_simp
    (refine (wU (Ge.out.drewN 1)).mono ?_; rintro e w2 ⟨he, b2⟩; replace b2 := qL b2; rw [HV.out] at he; subst he)
    go_wp2_with fail;refine hK.out _ _ (⟨Pr.to b2, by rw [b2.cell hble]; exact k0e, by rw [b2.cell hble]; exact k1e, by rw [b2.cell hble]; exact k2e, by rw [b2.cell hble]; exact k3e, by rw [b2.cell hble]; exact k4e, by rw [b2.cell hble]; exact k5e, by rw [b2.cell hble]; exact k6e, by rw [b2.cell hble]; exact k7e, by rw [b2.cell hble]; exact k8e⟩) (fun hHeld => ?_);clear hK K
    try simp only [Act.put, aq0, aq1, aq2]
    refine goR 9 hHeld ?_;refine wpAnyH_done (by kernel_rfl) ?_ _;refine NoPanic.normal ?_;have P2 := Pr.to b2;clear Pr;go_wp2;go_loopw [9] (fun i w3 => ∃ k : Nat, k <= (zG x).length /\ i = .int .i64 k /\ (zG x).all (ptSt xs x.body[j]) = ((zG x).drop k).all (ptSt xs x.body[j]) /\ Box2 w3 w.heap.size (.slice A1' x.nest.length c1') (.slice (some ⟨be, oe, none⟩) x.body.length c2') /\ Below wr.heap.size wr w3) (fun i _ => (zG x).length - (intOf i).toNat)
    case atStart => exact ⟨0, Nat.zero_le _, rfl, rfl, P2, b2⟩
    case round =>
     clear P2 b2;obtain ⟨k, hk, rfl, hi3, P3, hw3⟩ := hrel;have HI3 := qQ hi3; clear hi3;have hb3 := qY hb hw3;have HW3 := qQ hw3;have hbl3 := qZ hble hw3.size;have q0 := (hw3.cell hble).trans k0e;have q1 := (hw3.cell hble).trans k1e;have q2 := (hw3.cell hble).trans k2e;have q3 := (hw3.cell hble).trans k3e;have q4 := (hw3.cell hble).trans k4e;have q5 := (hw3.cell hble).trans k5e;have q6 := (hw3.cell hble).trans k6e;have q7 := (hw3.cell hble).trans k7e;have q8 := (hw3.cell hble).trans k8e;have Gf := qQ (Ge.out.below hw3);clear hw3 k0e k1e k2e k3e k4e k5e k6e k7e k8e;have S3 : Below w.heap.size w wr := qY S1 hb3;by_cases hkt : k < (zG x).length
     ·have HD3 := qQ (HI3.out.trans (wJ (ptSt xs x.body[j]) (zG x) k hkt))
      have HPQ := qQ (HP4.out _ (List.getElem_mem hkt));obtain ⟨bq, oq, csq, lq, rfl, hblq, hrq, _, _, hcq⟩ := (R1.out.below hb3).sls_at qWX (k := k) hkt;obtain ⟨Aq, cq, rfl⟩ := hrq.ints_form1;have GQ := qQ hrq;have kq := (hcq 0 _ rfl).1; rw [Nat.add_zero, Nat.mul_one] at kq;clear hcq hrq
      cases hf : wB xs (zG x)[k] x.body[j] with
      | false =>
       have HX := qQ (qKW (xs := xs) (x := x) (HD.out.trans (by rw [HS.out, HD3.out, ptSt, hf, Bool.false_and, Bool.false_and, Bool.false_and])));have HF := qQ (show jW xs (zG x)[k] x.body[j] = ([], 0, false) by simp [jW, hf]);clear hf;go_wp2_with fail;refine wp_region_noPanic ?_;refine wp_region_held_drew (S := fun w' => (Box2 w' w.heap.size (.slice A1' x.nest.length c1') (.slice (some ⟨be, oe, none⟩) x.body.length c2')) /\ (w'.cell? ⟨bq, oq + k, none⟩ = some (.slice Aq (zG x)[k].length cq)) /\ (w'.cell? ⟨be, oe + j * 9, none⟩ = some (.string x.body[j].write.arr) /\ w'.cell? ⟨be, oe + j * 9 + 1, none⟩ = some (.slice A2e x.body[j].write.subs.length c2e) /\ w'.cell? ⟨be, oe + j * 9 + 2, none⟩ = some (.int .i64 x.body[j].value.kind) /\ w'.cell? ⟨be, oe + j * 9 + 3, none⟩ = some (.int .i64 x.body[j].value.num) /\ w'.cell? ⟨be, oe + j * 9 + 4, none⟩ = some (.slice A5e x.body[j].value.index.coefs.length c5e) /\ w'.cell? ⟨be, oe + j * 9 + 5, none⟩ = some (.int .i64 x.body[j].value.index.const) /\ w'.cell? ⟨be, oe + j * 9 + 6, none⟩ = some (.string x.body[j].value.read.arr) /\ w'.cell? ⟨be, oe + j * 9 + 7, none⟩ = some (.slice A8e x.body[j].value.read.subs.length c8e) /\ w'.cell? ⟨be, oe + j * 9 + 8, none⟩ = some (.slice A9e x.body[j].value.kids.length c9e))) (by kernel_rfl) (⟨P3, kq, q0, q1, q2, q3, q4, q5, q6, q7, q8⟩) (fun hHeld => ?_);refine goR 0 hHeld ?_;refine goR 1 hHeld ?_;refine goR 2 hHeld ?_;refine goR 3 hHeld ?_;refine goR 4 hHeld ?_;refine goR 5 hHeld ?_;refine goR 6 hHeld ?_;refine goR 7 hHeld ?_;refine goR 8 hHeld ?_;refine goR 9 hHeld ?_;refine zF (i := 10) rfl (by kernel_rfl) (qK rfl) (fun K hK => ?_);go_simp
       (refine (qVE (H.out.below (qE S3 1)) (Gf.out.drewN 1) (GQ.out.drewN 1) HOK.out HV.out HPQ.out).mono ?_; rintro e w4 ⟨A4, n4, c4, bs4, he, _, _, _, b4⟩; replace b4 := qL b4; rw [HF.out] at he; subst he)
       go_wp2_with fail;refine hK.out _ _ (⟨P3.to b4, by rw [b4.cell hblq]; exact kq, by rw [b4.cell hbl3]; exact q0, by rw [b4.cell hbl3]; exact q1, by rw [b4.cell hbl3]; exact q2, by rw [b4.cell hbl3]; exact q3, by rw [b4.cell hbl3]; exact q4, by rw [b4.cell hbl3]; exact q5, by rw [b4.cell hbl3]; exact q6, by rw [b4.cell hbl3]; exact q7, by rw [b4.cell hbl3]; exact q8⟩) (fun hHeld => ?_);clear hK K
       try simp only [Act.put, aq0, aq1, aq2]
       refine goR 11 hHeld ?_;refine goR 12 hHeld ?_;refine goR 13 hHeld ?_;refine goR 14 hHeld ?_;refine goR 15 hHeld ?_;refine goR 16 hHeld ?_;refine goR 17 hHeld ?_;refine wpAnyH_done (by kernel_rfl) ?_ _;refine NoPanic.normal ?_;go_wp2;go_ret2;exact ⟨qZW (qQX HX.out).symm HX.out.symm, qY S3 b4⟩
      | true =>
       have HPS := qQ (show ptSt xs x.body[j] (zG x)[k] = ptOk (zG x)[k] by rw [ptSt, hf, Bool.true_and]);have HF := qQ (show jW xs (zG x)[k] x.body[j] = (rdF xs (zG x)[k] x.body[j], wrF xs (zG x)[k] x.body[j], true) by simp [jW, hf]);clear hf;go_wp2_with fail;refine wp_region_noPanic ?_;refine wp_region_held_drew (S := fun w' => (Box2 w' w.heap.size (.slice A1' x.nest.length c1') (.slice (some ⟨be, oe, none⟩) x.body.length c2')) /\ (w'.cell? ⟨bq, oq + k, none⟩ = some (.slice Aq (zG x)[k].length cq)) /\ (w'.cell? ⟨be, oe + j * 9, none⟩ = some (.string x.body[j].write.arr) /\ w'.cell? ⟨be, oe + j * 9 + 1, none⟩ = some (.slice A2e x.body[j].write.subs.length c2e) /\ w'.cell? ⟨be, oe + j * 9 + 2, none⟩ = some (.int .i64 x.body[j].value.kind) /\ w'.cell? ⟨be, oe + j * 9 + 3, none⟩ = some (.int .i64 x.body[j].value.num) /\ w'.cell? ⟨be, oe + j * 9 + 4, none⟩ = some (.slice A5e x.body[j].value.index.coefs.length c5e) /\ w'.cell? ⟨be, oe + j * 9 + 5, none⟩ = some (.int .i64 x.body[j].value.index.const) /\ w'.cell? ⟨be, oe + j * 9 + 6, none⟩ = some (.string x.body[j].value.read.arr) /\ w'.cell? ⟨be, oe + j * 9 + 7, none⟩ = some (.slice A8e x.body[j].value.read.subs.length c8e) /\ w'.cell? ⟨be, oe + j * 9 + 8, none⟩ = some (.slice A9e x.body[j].value.kids.length c9e))) (by kernel_rfl) (⟨P3, kq, q0, q1, q2, q3, q4, q5, q6, q7, q8⟩) (fun hHeld => ?_);refine goR 0 hHeld ?_;refine goR 1 hHeld ?_;refine goR 2 hHeld ?_;refine goR 3 hHeld ?_;refine goR 4 hHeld ?_;refine goR 5 hHeld ?_;refine goR 6 hHeld ?_;refine goR 7 hHeld ?_;refine goR 8 hHeld ?_;refine goR 9 hHeld ?_;refine zF (i := 10) rfl (by kernel_rfl) (qK rfl) (fun K hK => ?_);go_simp
       (refine (qVE (H.out.below (qE S3 1)) (Gf.out.drewN 1) (GQ.out.drewN 1) HOK.out HV.out HPQ.out).mono ?_; rintro e w4 ⟨A4, n4, c4, bs4, he, _, _, _, b4⟩; replace b4 := qL b4; rw [HF.out] at he; subst he)
       go_wp2_with fail;refine hK.out _ _ (⟨P3.to b4, by rw [b4.cell hblq]; exact kq, by rw [b4.cell hbl3]; exact q0, by rw [b4.cell hbl3]; exact q1, by rw [b4.cell hbl3]; exact q2, by rw [b4.cell hbl3]; exact q3, by rw [b4.cell hbl3]; exact q4, by rw [b4.cell hbl3]; exact q5, by rw [b4.cell hbl3]; exact q6, by rw [b4.cell hbl3]; exact q7, by rw [b4.cell hbl3]; exact q8⟩) (fun hHeld => ?_);clear hK K
       try simp only [Act.put, aq0, aq1, aq2]
       refine goR 11 hHeld ?_;refine goR 12 hHeld ?_;refine goR 13 hHeld ?_;refine goR 14 hHeld ?_;refine goR 15 hHeld ?_;refine goR 16 hHeld ?_;refine goR 17 hHeld ?_;refine wpAnyH_done (by kernel_rfl) ?_ _;refine NoPanic.normal ?_;have P4 := P3.to b4;have kq4 := (b4.cell (p := ⟨bq, oq + k, none⟩) hblq).trans kq;have S4 := qY S3 b4;have T4 := qY hb3 b4;have GQ4 := qQ (GQ.out.below b4);have W4 := qY HW3.out b4;clear P3 kq S3 hb3 GQ b4 q0 q1 q2 q3 q4 q5 q6 q7 q8 T4;go_wp2_with fail;refine (qLZ GQ4.out).mono ?_;rintro e w5 ⟨rfl, rfl⟩
       cases hpo : ptOk (zG x)[k] with
       | false =>
        have HX := qQ (qKW (xs := xs) (x := x) (HD.out.trans (by rw [HS.out, HD3.out, HPS.out, hpo, Bool.false_and, Bool.false_and])));clear hpo;go_wp2;go_ret2;exact ⟨qZW (qQX HX.out).symm HX.out.symm, by first | exact S4 | exact qE S4 _⟩
       | true =>
        have HX := qQ (HD3.out.trans (by rw [HPS.out, hpo, Bool.true_and]));clear hpo;go_wp2;go_roundw
        case rel => exact ⟨k + 1, by omega, by go_num, HX.out, by first | exact P4 | exact P4.to (qE (Below.refl _ _) _), by first | exact W4 | exact qE W4 _⟩
        case measure => simp [intOf]; omega
     ·have hkk : k = (zG x).length := by omega
      subst hkk;have HX := qQ (show x.body.all (jG xs x) = (x.body.drop (j + 1)).all (jG xs x) by rw [HD.out, HS.out, HI3.out, List.drop_length]; rfl);go_wp2;go_roundw
      case rel => exact ⟨j + 1, by omega, by go_num, HX.out, P3, hb3⟩
      case measure => simp [intOf]; omega
  ·have hjj : j = x.body.length := by omega
   subst hjj;have HY := qQ (qNY HNP.out HIN.out (show x.body.all (jG xs x) = true by rw [HI.out, List.drop_length]; rfl));have hm1 : (zG x).length * x.body.length <= 480 := by have := Nat.mul_le_mul hpl (show x.body.length <= 4 by omega); omega
   have hm2 : ((zG x).length : Int) * (x.body.length : Int) = (((zG x).length * x.body.length : Nat) : Int) := by simp
   have hm3 : 0 <= ((zG x).length : Int) * (x.body.length : Int) /\ ((zG x).length : Int) * (x.body.length : Int) <= 480 := by rw [hm2]; omega
   clear hm1 hm2;go_wp2;go_ret2;exact ⟨qZW (qHR HY.out).symm HY.out.symm, Sr⟩
theorem qNJ {p : Pgm} (h : xM p.arrays = false) : zK p = false := by rw [zK, uK, h, Bool.false_and, Bool.false_and]
theorem qNX {p : Pgm} (h : ¬ p.parts.length <= 4) : zK p = false := by rw [zK, uK, decide_eq_false h, Bool.and_false, Bool.false_and]
theorem qNZ {p : Pgm} (h : p.parts.all (zU p.arrays) = false) : zK p = false := by rw [zK, h, Bool.false_and, Bool.and_false]
theorem qNQ {p : Pgm} (h : xM p.arrays = true) (h2 : p.parts.length <= 4) (h3 : p.parts.all (zU p.arrays) = true) : zK p = decide ((qM p).length <= 120) := by rw [zK, uK, h, decide_eq_true h2, h3]; rfl
theorem qPW {xs : List Ar} {x : Prt} (h : zU xs x = true) : ∃ n : Nat, n = (zG x).length * x.body.length /\ n <= 480 /\ qSP xs x = (n : Int) :=
 ⟨_, rfl, qKV h, by rw [qHR h]; simp⟩
theorem zH {w : World} {p : Pgm} {cs : List Value} {bs : List Nat} (h : Rep w p.d cs bs) :
  Calls Tryz.prog 48 #[.agg cs.toArray] w fun e w' => e = .returned (.bool (zK p)) /\ Below w.heap.size w w' := by
 obtain ⟨A1, c1, A2, c2, d1, d2, rfl, rfl, g1, g2⟩ := Rep.pgm_iff.1 h;have Garrays := qQ g1;have Gparts := qQ g2;clear h g1 g2;have hpn : p.parts.length <= 9223372036854775807 := qX Gparts.out.sls_len.2.1 Gparts.out.sls_len.2.2;go_enter Tryz.func48, Tryz.ntmps48;go_wp2_with fail;refine (qSL (Garrays.out.below bel)).mono ?_;rintro e w1 ⟨rfl, b1⟩;have P1 : Box2 w1 w.heap.size (.slice A1 p.arrays.length c1) (.slice A2 p.parts.length c2) := by
  refine ⟨?_, ?_⟩ <;> (rw [b1.cell (by simp [World.setCell]; try omega)]; go_simp)
 have S1 : Below w.heap.size w w1 := bel;clear b1
 cases hok : xM p.arrays with
 | false =>
  have HX := qQ (qNJ hok);clear hok;go_wp2;go_ret;exact ⟨qH HX.out.symm, S1⟩
 | true =>
 have HOK := qQ hok; clear hok;by_cases h4 : p.parts.length <= 4
 case neg =>
  have HX := qQ (qNX h4);go_wp2;go_ret;exact ⟨qH HX.out.symm, S1⟩
 go_wp2;go_loopw [3, 4] (fun u i wr => ∃ j : Nat, j <= p.parts.length /\ i = .int .i64 j /\ u = .int .i64 (qWB p.parts j : Nat) /\ qWB p.parts j <= 480 * j /\ p.parts.all (zU p.arrays) = (p.parts.drop j).all (zU p.arrays) /\ Box2 wr w.heap.size (.slice A1 p.arrays.length c1) (.slice A2 p.parts.length c2) /\ Below w.heap.size w wr) (fun _ i _ => p.parts.length - (intOf i).toNat)
 case atStart => exact ⟨0, Nat.zero_le _, rfl, zQ (by rw [qYJ]; rfl), by rw [qYJ]; omega, rfl, P1, S1⟩
 case round =>
  clear P1 S1;obtain ⟨j, hj, rfl, rfl, htj, hi, Pr, Sr⟩ := hrel;have HI := qQ hi; clear hi;by_cases hlt : j < p.parts.length
  ·have HD := qQ (HI.out.trans (wJ (zU p.arrays) p.parts j hlt))
   have HT := qQ (qSW hlt);obtain ⟨be, oe, cse, le, rfl, hble, hre, _, _, hce⟩ := (Gparts.out.below Sr).sls_at Prt.d_size (k := j) hlt;have Ge := qQ hre;obtain ⟨A1e, c1e, A2e, c2e, d1e, d2e, rfl, rfl, g1e, g2e⟩ := Rep.prt_iff.1 hre;have k0e := (hce 0 _ rfl).1; rw [Nat.add_zero] at k0e;have k1e := (hce 1 _ rfl).1;have Q1e := qQ g1e;have Q2e := qQ g2e;clear hce hre g1e g2e
   cases hv : zU p.arrays p.parts[j] with
   | false =>
    have HX := qQ (qNZ (p := p) (HD.out.trans (by rw [hv, Bool.false_and])));have HV := qQ hv; clear hv;go_wp2_with fail;refine wp_region_noPanic ?_;refine wp_region_held_drew (S := fun w' => (Box2 w' w.heap.size (.slice A1 p.arrays.length c1) (.slice (some ⟨be, oe, none⟩) p.parts.length c2)) /\ (w'.cell? ⟨be, oe + j * 2, none⟩ = some (.slice A1e p.parts[j].nest.length c1e) /\ w'.cell? ⟨be, oe + j * 2 + 1, none⟩ = some (.slice A2e p.parts[j].body.length c2e))) (by kernel_rfl) (⟨Pr, k0e, k1e⟩) (fun hHeld => ?_);refine goR 0 hHeld ?_;refine goR 1 hHeld ?_;refine goR 2 hHeld ?_;refine goR 3 hHeld ?_;refine goR 4 hHeld ?_;refine goR 5 hHeld ?_;refine goR 6 hHeld ?_;refine zF (i := 7) rfl (by kernel_rfl) (qK rfl) (fun K hK => ?_);go_simp
    (refine (qDK (Garrays.out.below (qE Sr 1)) (Ge.out.drewN 1) HOK.out).mono ?_; rintro e w2 ⟨he, b2⟩; replace b2 := qL b2; rw [HV.out] at he; subst he)
    go_wp2_with fail;refine hK.out _ _ (⟨Pr.to b2, by rw [b2.cell hble]; exact k0e, by rw [b2.cell hble]; exact k1e⟩) (fun hHeld => ?_);clear hK K
    try simp only [Act.put, aq0, aq1, aq2]
    refine goR 8 hHeld ?_;refine goR 9 hHeld ?_;refine goR 10 hHeld ?_;refine goR 11 hHeld ?_;refine goR 12 hHeld ?_;refine wpAnyH_done (by kernel_rfl) ?_ _;refine NoPanic.normal ?_;go_wp2;go_ret;exact ⟨qH HX.out.symm, qY Sr b2⟩
   | true =>
    have HX := qQ (HD.out.trans (by rw [hv, Bool.true_and]));obtain ⟨nn, hnn, hn480, hpn⟩ := qPW hv;rw [<- hnn] at HT;have HV := qQ hv; clear hv hnn;have HPN := qQ hpn; clear hpn;go_wp2_with fail;refine wp_region_noPanic ?_;refine wp_region_held_drew (S := fun w' => (Box2 w' w.heap.size (.slice A1 p.arrays.length c1) (.slice (some ⟨be, oe, none⟩) p.parts.length c2)) /\ (w'.cell? ⟨be, oe + j * 2, none⟩ = some (.slice A1e p.parts[j].nest.length c1e) /\ w'.cell? ⟨be, oe + j * 2 + 1, none⟩ = some (.slice A2e p.parts[j].body.length c2e))) (by kernel_rfl) (⟨Pr, k0e, k1e⟩) (fun hHeld => ?_);refine goR 0 hHeld ?_;refine goR 1 hHeld ?_;refine goR 2 hHeld ?_;refine goR 3 hHeld ?_;refine goR 4 hHeld ?_;refine goR 5 hHeld ?_;refine goR 6 hHeld ?_;refine zF (i := 7) rfl (by kernel_rfl) (qK rfl) (fun K hK => ?_);go_simp
    (refine (qDK (Garrays.out.below (qE Sr 1)) (Ge.out.drewN 1) HOK.out).mono ?_; rintro e w2 ⟨he, b2⟩; replace b2 := qL b2; rw [HV.out, HPN.out] at he; subst he)
    go_wp2_with fail;refine hK.out _ _ (⟨Pr.to b2, by rw [b2.cell hble]; exact k0e, by rw [b2.cell hble]; exact k1e⟩) (fun hHeld => ?_);clear hK K
    try simp only [Act.put, aq0, aq1, aq2]
    refine goR 8 hHeld ?_;refine goR 9 hHeld ?_;refine goR 10 hHeld ?_;refine goR 11 hHeld ?_;refine goR 12 hHeld ?_;refine wpAnyH_done (by kernel_rfl) ?_ _;refine NoPanic.normal ?_;have P2 := Pr.to b2;have S2 := qY Sr b2;clear Pr Sr b2 k0e k1e;go_wp2;go_roundw
    case rel => exact ⟨j + 1, by omega, by go_num, zQ (by rw [HT.out]; simp), by rw [HT.out]; omega, HX.out, P2, S2⟩
    case measure => simp [intOf]; omega
  ·have hjj : j = p.parts.length := by omega
   subst hjj;have HX := qQ (qNQ HOK.out h4 (show p.parts.all (zU p.arrays) = true by rw [HI.out, List.drop_length]; rfl));have HE := qQ (show qWB p.parts p.parts.length = (qM p).length from qTF _);go_wp2;go_ret;exact ⟨qH (by rw [HX.out, <- HE.out, decide_eq_decide]; omega), Sr⟩
theorem xL {w : World} {p : Pgm} {cs : List Value} {bs : List Nat} (h : Rep w p.d cs bs) :
  Calls Tryz.prog 79 #[.agg cs.toArray] w fun e w' => e = .returned (.bool (zK p)) /\ Below w.heap.size w w' := by
 have HP := qQ h;have HX := qQ (qHW p);obtain ⟨A1, c1, A2, c2, d1, d2, rfl, rfl, g1, g2⟩ := Rep.pgm_iff.1 h;have Garrays := qQ g1;have Gparts := qQ g2;clear h g1 g2;go_enter Tryz.func79, Tryz.ntmps79;go_wp2_with fail;refine (qZH (HP.out.below bel)).mono ?_;rintro e w1 ⟨A3, n3, c3, bs3, rfl, _, _, _, b1⟩;rw [HX.out];go_wp2;go_ret;exact ⟨rfl, bel⟩
theorem qQZ {p : Pgm} (h : zK p = true) : xM p.arrays = true := by
 simp only [zK, uK, Bool.and_eq_true] at h;exact h.1.1
end Go.Proofs.YtgogjbnneoadkaaGreat
