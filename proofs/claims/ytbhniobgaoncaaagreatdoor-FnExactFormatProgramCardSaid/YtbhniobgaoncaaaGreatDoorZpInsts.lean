/- The instances of a program: instances of the program. -/
import Derived.Test.YtbhniobgaoncaaaGreatDoorZpStmtOk
import Derived.Test.YtbhniobgaoncaaaGreatDoorZpPgF
import Derived.Test.YtbhniobgaoncaaaGreatDoorZpBasic
set_option linter.all false
set_option linter.unusedSimpArgs false
set_option linter.unusedVariables false
namespace Go.Proofs.YtbhniobgaoncaaaGreatDoor
open Go.ChangeShapes Go.WideShapes Go.ChangeAt Go.RowKit Go.Deep

def InstsF (p : Pgm) : List In × Bool := if progBase p && p.parts.all (partOk p.arrays) then (instsF p, decide ((instsF p).length ≤ 120)) else ([], false)
theorem InstsF_2 (p : Pgm) : (InstsF p).2 = progOk p := by
  unfold InstsF progOk
  cases progBase p <;> cases p.parts.all (partOk p.arrays) <;> simp
theorem InstsF_n1 {p : Pgm} (h : arrsOk p.arrays = false) : InstsF p = ([], false) := by simp [InstsF, progBase, h]
theorem InstsF_n2 {p : Pgm} (h : ¬ p.parts.length ≤ 4) : InstsF p = ([], false) := by simp [InstsF, progBase, h]
theorem InstsF_n3 {p : Pgm} (h : p.parts.all (partOk p.arrays) = false) : InstsF p = ([], false) := by simp only [InstsF, h, Bool.and_false]; rfl
theorem InstsF_y {p : Pgm} (h : arrsOk p.arrays = true) (h2 : p.parts.length ≤ 4) (h3 : p.parts.all (partOk p.arrays) = true) : InstsF p = (instsF p, decide ((instsF p).length ≤ 120)) := by simp only [InstsF, progBase, h, decide_eq_true h2, h3, Bool.and_true]; rfl
theorem partOk_n1 {xs : List Ar} {x : Prt} (h : (NestPointsF x.nest).2 = false) : partOk xs x = false := by rw [partOk, h, Bool.false_and]
theorem partOk_n2 {xs : List Ar} {x : Prt} (h : inB (x.body.length : Int) 1 4 = false) : partOk xs x = false := by rw [partOk, bodyOk, h, Bool.false_and, Bool.false_and, Bool.and_false]
theorem partOk_n3 {xs : List Ar} {x : Prt} (h : x.body.all (stmOk x) = false) : partOk xs x = false := by rw [partOk, bodyOk, h, Bool.and_false, Bool.false_and, Bool.and_false]
theorem partOk_n4 {xs : List Ar} {x : Prt} (h : (ptsOf x).all (ptFine xs x) = false) : partOk xs x = false := by rw [partOk, h, Bool.and_false, Bool.and_false]
theorem partOk_y {xs : List Ar} {x : Prt} (h : (NestPointsF x.nest).2 = true) (h2 : inB (x.body.length : Int) 1 4 = true) (h3 : x.body.all (stmOk x) = true) (h4 : (ptsOf x).all (ptFine xs x) = true) : partOk xs x = true := by rw [partOk, bodyOk, h, h2, h3, h4]; rfl
theorem anyNot {α : Type} (p : α → Bool) (l : List α) : l.any (fun y => !p y) = !l.all p := by
  induction l with
  | nil => rfl
  | cons x l ih => rw [List.any_cons, List.all_cons, ih, Bool.not_and]

/-- the call answers new instances and a truth value -/
def MadeInsB (w : World) (r : List In × Bool) (e : Ending) (w' : World) : Prop :=
  ∃ A n c bs, e = .returned (.tuple #[.slice A n c, .bool r.2]) ∧ Rep w' (sls In.d r.1) [.slice A n c] bs ∧ bs.Nodup ∧ (∀ b ∈ bs, w.heap.size ≤ b) ∧ Below w.heap.size w w'
theorem MadeInsB.of_grow {w w' : World} {e : TypeId} {v : Value} {r : List In × Bool} {B : Nat} (h : Grow w' B e 3 v (r.1.map In.d)) (hB : w.heap.size ≤ B) (hb : Below w.heap.size w w') : MadeInsB w r (.returned (.tuple #[v, .bool r.2])) w' := by
  obtain ⟨A, c, bs, rfl, h1, h2, h3⟩ := h.rep
  rw [List.length_map] at h1 ⊢
  exact ⟨A, _, c, bs, rfl, h1, h2, fun b hb' => Nat.le_trans hB (h3 b hb'), hb⟩
theorem Tryz.infoIns : (Tryz.prog.info? 171).map (fun i => (i.zero, i.size, decide (i.bytes ≤ 1024))) = some (some (.agg #[.int .i64 0, .int .i64 0, .slice none 0 0]), 3, true) := by kernel_rfl

theorem instances1_e : Enters Tryz.prog 131 := fun args W => by go_simp
theorem instances1_c {w : World} {x : Prt} {y : Stm} {cs : List Value} {bs : List Nat} {g c1 c2 : Nat} {A1 A2 : Option Addr} (h : Rep w y.d cs bs) (hX : Box2 w g (.slice A1 x.nest.length c1) (.slice A2 x.body.length c2)) (hn : x.nest.length ≤ 9223372036854775807) :
    Calls Tryz.prog 131 (#[.agg cs.toArray] ++ #[.pointer (some ⟨g, 0, none⟩)]) w fun e w' => e = .returned (.bool (!stmOk x y)) ∧ Below w.heap.size w w' := by
  show Calls Tryz.prog 131 #[.agg cs.toArray, .pointer (some ⟨g, 0, none⟩)] w _
  have HX := Lib.hid (show StmtValidF y (x.nest.length : Int) = stmOk x y from rfl)
  have HH := Lib.hid h
  have hg := lt_of_cell hX.1
  obtain ⟨A2, c2, A5, c5, A8, c8, A9, c9, d2, d5, d8, d9, rfl, rfl, g1, g2, g3, g4, g5, g6, g7, g8, g9⟩ := Rep.stm_iff.1 h
  have Gwrite := Lib.hid ((Rep.acc_iff (x := y.write)).2 ⟨_, _, _, rfl, rfl, g1, g2⟩)
  have Gvalue := Lib.hid ((Rep.ex_iff (x := y.value)).2 ⟨_, _, _, _, _, _, _, _, _, rfl, rfl, g3, g4, g5, g6, g7, g8, g9⟩)
  clear h g1 g2 g3 g4 g5 g6 g7 g8 g9
  go_enter Tryz.func131, Tryz.ntmps131
  go_wp2_with fail
  refine (implStmtValid_c (HH.out.below bel)).mono ?_
  rintro e w1 ⟨rfl, b1⟩
  rw [HX.out]
  go_wp2
  go_ret
  exact ⟨rfl, bel⟩

set_option maxRecDepth 100000 in
set_option maxHeartbeats 4000000 in
theorem instances_c {w : World} {p : Pgm} {cs : List Value} {bs : List Nat} (h : Rep w p.d cs bs) :
    Calls Tryz.prog 78 #[.agg cs.toArray] w (MadeInsB w (InstsF p)) := by
  have HP := Lib.hid h
  obtain ⟨A1, c1, A2, c2, d1, d2, rfl, rfl, g1, g2⟩ := Rep.pgm_iff.1 h
  have Garrays := Lib.hid g1
  have Gparts := Lib.hid g2
  clear h g1 g2
  have hpn : p.parts.length ≤ 9223372036854775807 := Nat.le_trans Gparts.out.sls_len.2.1 Gparts.out.sls_len.2.2
  go_enter Tryz.func78, Tryz.ntmps78
  go_wp2_with fail
  refine (arraysOk_c (Garrays.out.below bel)).mono ?_
  rintro e w1 ⟨rfl, b1⟩
  have P1 : Box2 w1 w.heap.size (.slice A1 p.arrays.length c1) (.slice A2 p.parts.length c2) := by
    refine ⟨?_, ?_⟩ <;> (rw [b1.cell (by simp [World.setCell]; try omega)]; go_simp)
  have S1 : Below w.heap.size w w1 := bel
  clear b1
  cases hok : arrsOk p.arrays with
  | false =>
    have HX := Lib.hid (InstsF_n1 hok)
    clear hok
    go_wp2
    go_ret2
    rw [HX.out]
    exact MadeInsB.of_grow (e := 0) (r := ([], false)) (Grow.nil _ _ _ _) (Nat.le_refl _) S1
  | true =>
  have HOK := Lib.hid hok; clear hok
  by_cases h4 : p.parts.length ≤ 4
  case neg =>
    have HX := Lib.hid (InstsF_n2 h4)
    go_wp2
    go_ret2
    rw [HX.out]
    exact MadeInsB.of_grow (e := 0) (r := ([], false)) (Grow.nil _ _ _ _) (Nat.le_refl _) S1
  go_wp2
  go_loopw [4, 26] (fun u i wr => ∃ j : Nat, j ≤ p.parts.length ∧ i = .int .i64 j ∧ Grow wr (w.heap.size + 1) 171 3 u ((instsFrom (p.parts.take j) 0).map In.d) ∧ (instsFrom (p.parts.take j) 0).length ≤ 480 * j ∧ p.parts.all (partOk p.arrays) = (p.parts.drop j).all (partOk p.arrays) ∧ Box2 wr w.heap.size (.slice A1 p.arrays.length c1) (.slice A2 p.parts.length c2) ∧ Below w.heap.size w wr) (fun _ i _ => p.parts.length - (intOf i).toNat)
  case atStart => exact ⟨0, Nat.zero_le _, rfl, by simpa [instsFrom] using Grow.nil _ _ _ _, by simp [instsFrom], rfl, P1, S1⟩
  case round =>
    clear P1 S1
    obtain ⟨j, hj, rfl, hG, htj, hi, Pr, Sr⟩ := hrel
    have HI := Lib.hid hi; clear hi
    have HG := Lib.hid hG; clear hG
    by_cases hlt : j < p.parts.length
    case neg =>
      have hjj : j = p.parts.length := by omega
      subst hjj
      have HX := Lib.hid (InstsF_y HOK.out h4 (show p.parts.all (partOk p.arrays) = true by rw [HI.out, List.drop_length]; rfl))
      have HG2 := Lib.hid (show Grow wr (w.heap.size + 1) 171 3 u4 ((instsF p).map In.d) by have := HG.out; rw [List.take_length] at this; exact this)
      obtain ⟨Au, cu, hfu, _, _⟩ := HG2.out.form
      rw [List.length_map] at hfu
      rw [List.take_length] at htj
      have htj2 : (instsF p).length ≤ 480 * p.parts.length := htj
      subst hfu
      go_wp2
      go_ret2
      rw [HX.out]
      have := MadeInsB.of_grow (w := w) (r := (instsF p, decide ((instsF p).length ≤ 120))) HG2.out (by omega) Sr
      rw [show (decide (((instsF p).length : Int) ≤ 120)) = decide ((instsF p).length ≤ 120) from by rw [decide_eq_decide]; omega]
      exact this
    have HD := Lib.hid (HI.out.trans (all_drop (partOk p.arrays) p.parts j hlt))
    have HT := Lib.hid (instsFrom_take hlt)
    obtain ⟨be, oe, cse, le, rfl, hble, hre, _, _, hce⟩ := Gparts.out.sls_at Prt.d_size (k := j) hlt
    have Ge := Lib.hid hre
    obtain ⟨A1e, c1e, A2e, c2e, d1e, d2e, rfl, rfl, g1e, g2e⟩ := Rep.prt_iff.1 hre
    have k0e := (hce 0 _ rfl).1; rw [Nat.add_zero] at k0e
    have k1e := (hce 1 _ rfl).1
    have Q1e := Lib.hid g1e
    have Q2e := Lib.hid g2e
    clear hce hre g1e g2e
    have hbn : p.parts[j].body.length ≤ 9223372036854775807 := Nat.le_trans Q2e.out.sls_len.2.1 Q2e.out.sls_len.2.2
    have hnn : p.parts[j].nest.length ≤ 9223372036854775807 := Nat.le_trans Q1e.out.sls_len.2.1 Q1e.out.sls_len.2.2
    have z0e := (Sr.cell hble).trans k0e
    have z1e := (Sr.cell hble).trans k1e
    clear k0e k1e
    go_wp2_with fail
    refine (implNestPoints_c ((Q1e.out.below Sr).below bel)).mono ?_
    rintro e w2 ⟨A3, n3, c3, bs3, rfl, r3, _, hb3, b3⟩
    have X2 : Box2 w2 wr.heap.size (.slice A1e p.parts[j].nest.length c1e) (.slice A2e p.parts[j].body.length c2e) := by
      refine ⟨?_, ?_⟩ <;> (rw [b3.cell (by simp [World.setCell]; try omega)]; go_simp)
    have T2 : Below wr.heap.size wr w2 := bel
    have P2 := Pr.to T2
    have S2 := below_tr Sr T2
    have HG2 := Lib.hid (HG.out.below T2)
    have HOWN := Lib.hid (show ∀ b, u4.ownBlock = some b → w.heap.size + 1 ≤ b ∧ b < wr.heap.size from HG.out.own_ge)
    have hb3' : ∀ b ∈ bs3, wr.heap.size + 1 ≤ b := fun b hb => by have := hb3 b hb; simpa [World.setCell] using this
    clear Pr Sr T2 b3 z0e z1e hb3 HG
    cases hnp : (NestPointsF p.parts[j].nest).2 with
    | false =>
      have HX := Lib.hid (InstsF_n3 (HD.out.trans (by rw [partOk_n1 hnp, Bool.false_and])))
      clear hnp
      go_wp2
      go_ret2
      rw [HX.out]
      exact MadeInsB.of_grow (e := 0) (r := ([], false)) (Grow.nil _ _ _ _) (Nat.le_refl _) S2
    | true =>
    have hnf := npF_ok hnp
    have HNP := Lib.hid hnp; clear hnp
    have HP4 := Lib.hid (fun q hq => (fun hh => PtS.of_B hh.1 hh.2.2) (pts_ok hnf.1 q hq) : ∀ q ∈ ptsOf p.parts[j], PtS q)
    have HQ4 := Lib.hid (fun q hq => (pts_ok hnf.1 q hq).2.2 : ∀ q ∈ ptsOf p.parts[j], q.length ≤ 4)
    have hpl : (ptsOf p.parts[j]).length ≤ 120 := hnf.2.2.1
    rw [show (NestPointsF p.parts[j].nest).1 = ptsOf p.parts[j] from hnf.2.2.2] at r3
    clear hnf
    obtain ⟨rfl, _, _⟩ := r3.sls_len
    have R2 := Lib.hid r3
    have HB3 := Lib.hid (show ∀ b ∈ bs3, wr.heap.size + 1 ≤ b ∧ b < w2.heap.size from fun b hb => ⟨hb3' b hb, Rep.lt _ r3 b hb⟩)
    clear r3 hb3'
    cases hin : inB (p.parts[j].body.length : Int) 1 4 with
    | false =>
      have HX := Lib.hid (InstsF_n3 (HD.out.trans (by rw [partOk_n2 hin, Bool.false_and])))
      have HIN := Lib.hid hin; clear hin
      go_wp2_with fail
      refine (within_c _ _ _ _).mono ?_
      rintro e w' ⟨rfl, rfl⟩
      rw [HIN.out]
      go_wp2
      go_ret2
      rw [HX.out]
      exact MadeInsB.of_grow (e := 0) (r := ([], false)) (Grow.nil _ _ _ _) (Nat.le_refl _) S2
    | true =>
    have hin2 := inB_iff.1 hin
    have HIN := Lib.hid hin; clear hin
    go_wp2_with fail
    refine (within_c _ _ _ _).mono ?_
    rintro e w' ⟨rfl, rfl⟩
    rw [HIN.out]
    go_wp2_with fail
    refine (ContainsFunc_Stmt_c (p := fun y => !stmOk p.parts[j] y) (Q2e.out.below S2) instances1_e (fun y cs bs W hm hb r => instances1_c r (X2.to hb) hnn)).mono ?_
    rintro e w4 ⟨rfl, b4⟩
    rw [anyNot]
    have X4 := X2.to b4
    have P4 := P2.to b4
    have S4 := below_tr S2 b4
    have R4 := Lib.hid (R2.out.below b4)
    have HG4 := Lib.hid (HG2.out.below b4)
    have HAP := Lib.hid (show ∀ y ∈ w.heap.size :: wr.heap.size :: bs3, u4.ownBlock ≠ some y from fun y hy e => by
      have h1 := HOWN.out y e
      rcases List.mem_cons.1 hy with rfl | hy
      · omega
      · rcases List.mem_cons.1 hy with rfl | hy
        · omega
        · have := (HB3.out y hy).1; omega)
    have HLT4 := Lib.hid (show ∀ y ∈ w.heap.size :: wr.heap.size :: bs3, y < w4.heap.size from fun y hy => by
      have h1 := lt_of_cell P4.1
      have h2 := lt_of_cell X4.1
      rcases List.mem_cons.1 hy with rfl | hy
      · omega
      · rcases List.mem_cons.1 hy with rfl | hy
        · omega
        · have := (HB3.out y hy).2; have := b4.size; omega)
    clear X2 P2 S2 R2 HG2 b4 HB3
    cases hall : p.parts[j].body.all (stmOk p.parts[j]) with
    | false =>
      have HX := Lib.hid (InstsF_n3 (HD.out.trans (by rw [partOk_n3 hall, Bool.false_and])))
      clear hall
      go_wp2
      go_ret2
      rw [HX.out]
      exact MadeInsB.of_grow (e := 0) (r := ([], false)) (Grow.nil _ _ _ _) (Nat.le_refl _) S4
    | true =>
    have HALL := Lib.hid hall; clear hall
    go_wp2
    go_loopw [4, 54] (fun u i wv => ∃ k : Nat, k ≤ (ptsOf p.parts[j]).length ∧ i = .int .i64 k ∧ Grow wv (w.heap.size + 1) 171 3 u ((instsFrom (p.parts.take j) 0 ++ ((ptsOf p.parts[j]).take k).flatMap (instsQ (j : Int) p.parts[j].body.length)).map In.d) ∧ (ptsOf p.parts[j]).all (ptFine p.arrays p.parts[j]) = ((ptsOf p.parts[j]).drop k).all (ptFine p.arrays p.parts[j]) ∧ Grew w4 wv u4 u) (fun _ i _ => (ptsOf p.parts[j]).length - (intOf i).toNat)
    case atStart => exact ⟨0, Nat.zero_le _, rfl, by simpa using HG4.out, rfl, Grew.refl _ _⟩
    case round =>
      obtain ⟨k, hk, rfl, hG5, hi5, hgr5⟩ := hrel
      have HI5 := Lib.hid hi5; clear hi5
      have X5 := hgr5.touch.box2 X4 (fun hm => HAP.out _ (by simp) (mem_ownL.1 hm))
      have P5 := hgr5.touch.box2 P4 (fun hm => HAP.out _ (by simp) (mem_ownL.1 hm))
      have HAP5 := Lib.hid (hgr5.apart HAP.out HLT4.out)
      have S5 : Below w.heap.size w wr := S4.trans (hgr5.below S4.size (fun b hb => by have := (HOWN.out b hb).1; omega))
      have R5 := Lib.hid (R4.out.grew hgr5 (fun y hy => HAP.out y (by simp [hy])))
      have HLT5 := Lib.hid (show ∀ y ∈ w.heap.size :: _ :: bs3, y < wr.heap.size from fun y hy => Nat.lt_of_lt_of_le (HLT4.out y hy) hgr5.touch.size)
      have HOWN5 := Lib.hid (show ∀ b, u4.ownBlock = some b → w.heap.size ≤ b from fun b hb => by have := (hG5.own_ge b hb).1; omega)
      have Hgr5 := Lib.hid hgr5; clear hgr5
      by_cases hkt : k < (ptsOf p.parts[j]).length
      case neg =>
        have hkk : k = (ptsOf p.parts[j]).length := by omega
        subst hkk
        rw [List.take_length] at hG5
        have HG5 := Lib.hid hG5; clear hG5
        have hpo := partOk_y HNP.out HIN.out HALL.out (show (ptsOf p.parts[j]).all (ptFine p.arrays p.parts[j]) = true by rw [HI5.out, List.drop_length]; rfl)
        have HX := Lib.hid (HD.out.trans (by rw [hpo, Bool.true_and]))
        have hlen := part_len hpo
        have hl2 : (instsFrom (p.parts.take (j + 1)) 0).length ≤ 480 * (j + 1) := by rw [HT.out, List.length_append, instsP_len]; omega
        have HG6 := Lib.hid (show Grow wr (w.heap.size + 1) 171 3 u4 ((instsFrom (p.parts.take (j + 1)) 0).map In.d) by rw [HT.out]; exact HG5.out)
        clear hpo
        go_wp2
        go_roundw
        case rel => exact ⟨j + 1, by omega, by go_num, HG6.out, hl2, HX.out, P5, S5⟩
        case measure => simp [intOf]; omega
      have HD5 := Lib.hid (HI5.out.trans (all_drop (ptFine p.arrays p.parts[j]) (ptsOf p.parts[j]) k hkt))
      have HFT := Lib.hid (flat_take (instsQ (j : Int) p.parts[j].body.length) (ptsOf p.parts[j]) k hkt)
      have hlR : (((ptsOf p.parts[j]).take k).flatMap (instsQ (j : Int) p.parts[j].body.length)).length ≤ 480 := by
        rw [flat_len _ fun _ _ => instsQ_len _ _ _, List.length_take]
        have := Nat.mul_le_mul (show min k (ptsOf p.parts[j]).length ≤ 120 by omega) (show p.parts[j].body.length ≤ 4 by omega)
        omega
      have HPQ := Lib.hid (HP4.out _ (List.getElem_mem hkt))
      have hq4 := HQ4.out _ (List.getElem_mem hkt)
      obtain ⟨bq, oq, csq, lq, rfl, hblq, hrq, _, hlq, hcq⟩ := R5.out.sls_at ints_size (k := k) hkt
      obtain ⟨Aq, cq, rfl⟩ := hrq.ints_form1
      have GQ := Lib.hid hrq
      have kq := (hcq 0 _ rfl).1; rw [Nat.add_zero, Nat.mul_one] at kq
      have HLQ := Lib.hid hlq
      clear hcq hrq hlq
      obtain ⟨q, hq⟩ : ∃ q, q = (ptsOf p.parts[j])[k] := ⟨_, rfl⟩
      rw [← hq] at HD5 HFT HPQ hq4 GQ kq
      have HQ := Lib.hid hq; clear hq
      obtain ⟨R, hR⟩ : ∃ R, R = instsFrom (p.parts.take j) 0 ++ ((ptsOf p.parts[j]).take k).flatMap (instsQ (j : Int) p.parts[j].body.length) := ⟨_, rfl⟩
      have hRl : R.length ≤ 480 * j + 480 := by rw [hR, List.length_append]; omega
      rw [← hR] at hG5
      have HR := Lib.hid hR; clear hR hlR
      have HG5 := Lib.hid hG5; clear hG5
      go_wp2_with fail
      refine (isPoint_c GQ.out).mono ?_
      rintro e w' ⟨rfl, rfl⟩
      cases hpo : ptOk q with
      | false =>
        have HX := Lib.hid (InstsF_n3 (HD.out.trans (by rw [partOk_n4 (HD5.out.trans (by rw [ptFine, hpo, Bool.false_and, Bool.false_and])), Bool.false_and])))
        clear hpo
        go_wp2
        go_ret2
        rw [HX.out]
        exact MadeInsB.of_grow (e := 0) (r := ([], false)) (Grow.nil _ _ _ _) (Nat.le_refl _) S5
      | true =>
      have HPF := Lib.hid (show ptFine p.arrays p.parts[j] q = p.parts[j].body.all (fineS p.arrays q) by rw [ptFine, hpo, Bool.true_and])
      clear hpo
      go_wp2
      go_loopw [4, 64] (fun u i wv => ∃ m : Nat, m ≤ p.parts[j].body.length ∧ i = .int .i64 m ∧ Grow wv (w.heap.size + 1) 171 3 u ((R ++ instsQ (j : Int) m q).map In.d) ∧ p.parts[j].body.all (fineS p.arrays q) = (p.parts[j].body.drop m).all (fineS p.arrays q) ∧ Grew wr wv u4 u) (fun _ i _ => p.parts[j].body.length - (intOf i).toNat)
      case atStart => exact ⟨0, Nat.zero_le _, rfl, by simpa [instsQ] using HG5.out, rfl, Grew.refl _ _⟩
      case round =>
        obtain ⟨m, hm, rfl, hG6, hi6, hgr6⟩ := hrel
        have HI6 := Lib.hid hi6; clear hi6
        have HG6 := Lib.hid hG6; clear hG6
        have X6 := hgr6.touch.box2 X5 (fun hm => HAP5.out _ (by simp) (mem_ownL.1 hm))
        have P6 := hgr6.touch.box2 P5 (fun hm => HAP5.out _ (by simp) (mem_ownL.1 hm))
        have S6 : Below w.heap.size w wr := S5.trans (hgr6.below S5.size HOWN5.out)
        have GQ6 := Lib.hid (GQ.out.grew hgr6 (fun y hy => HAP5.out y (by simp [HLQ.out y hy])))
        have Hgr6 := Lib.hid hgr6; clear hgr6
        by_cases hmt : m < p.parts[j].body.length
        case neg =>
          have hmm : m = p.parts[j].body.length := by omega
          subst hmm
          have HX5 := Lib.hid (HD5.out.trans (by rw [HPF.out, HI6.out, List.drop_length, List.all_nil, Bool.true_and]))
          have HG7 := Lib.hid (show Grow wr (w.heap.size + 1) 171 3 u4 ((instsFrom (p.parts.take j) 0 ++ ((ptsOf p.parts[j]).take (k + 1)).flatMap (instsQ (j : Int) p.parts[j].body.length)).map In.d) by
            rw [HFT.out, ← List.append_assoc, ← HR.out]; exact HG6.out)
          have g7 := Lib.hid (Hgr5.out.trans Hgr6.out)
          go_wp2
          go_roundw
          case rel => exact ⟨k + 1, by omega, by go_num, HG7.out, HX5.out, g7.out⟩
          case measure => simp [intOf]; omega
        have HD6 := Lib.hid (HI6.out.trans (all_drop (fineS p.arrays q) p.parts[j].body m hmt))
        have HST := Lib.hid (StB.of (show StmtValidF p.parts[j].body[m] (p.parts[j].nest.length : Int) = true from List.all_eq_true.1 HALL.out _ (List.getElem_mem hmt)) HPQ.out)
        obtain ⟨bt, ot, cst, lt, rfl, hblt, hrt, _, _, hct⟩ := Q2e.out.sls_at Stm.d_size (k := m) hmt
        have Gt := Lib.hid hrt
        obtain ⟨A2t, c2t, A5t, c5t, A8t, c8t, A9t, c9t, d2t, d5t, d8t, d9t, rfl, rfl, g1t, g2t, g3t, g4t, g5t, g6t, g7t, g8t, g9t⟩ := Rep.stm_iff.1 hrt
        have k0t := (hct 0 _ rfl).1; rw [Nat.add_zero] at k0t
        have k1t := (hct 1 _ rfl).1
        have k2t := (hct 2 _ rfl).1
        have k3t := (hct 3 _ rfl).1
        have k4t := (hct 4 _ rfl).1
        have k5t := (hct 5 _ rfl).1
        have k6t := (hct 6 _ rfl).1
        have k7t := (hct 7 _ rfl).1
        have k8t := (hct 8 _ rfl).1
        have Q1t := Lib.hid g1t
        have Q2t := Lib.hid g2t
        have Q3t := Lib.hid g3t
        have Q4t := Lib.hid g4t
        have Q5t := Lib.hid g5t
        have Q6t := Lib.hid g6t
        have Q7t := Lib.hid g7t
        have Q8t := Lib.hid g8t
        have Q9t := Lib.hid g9t
        clear hct hrt g1t g2t g3t g4t g5t g6t g7t g8t g9t
        have z0 := (S6.cell hblt).trans k0t
        have z1 := (S6.cell hblt).trans k1t
        have z2 := (S6.cell hblt).trans k2t
        have z3 := (S6.cell hblt).trans k3t
        have z4 := (S6.cell hblt).trans k4t
        have z5 := (S6.cell hblt).trans k5t
        have z6 := (S6.cell hblt).trans k6t
        have z7 := (S6.cell hblt).trans k7t
        have z8 := (S6.cell hblt).trans k8t
        clear k0t k1t k2t k3t k4t k5t k6t k7t k8t
        have hl6 : w.heap.size < wr.heap.size := lt_of_cell P6.1
        go_wp2_with fail
        refine (stmtOk_c (HP.out.below (below_tr S6 bel)) (Gt.out.below (below_tr S6 bel)) (GQ6.out.below bel) HOK.out HST.out).mono ?_
        rintro e w7 ⟨rfl, b7⟩
        have T7 : Below wr.heap.size wr w7 := bel
        have S7 := below_tr S6 T7
        clear b7 z0 z1 z2 z3 z4 z5 z6 z7 z8
        cases hf : fineS p.arrays q p.parts[j].body[m] with
        | false =>
          have HX := Lib.hid (InstsF_n3 (HD.out.trans (by rw [partOk_n4 (HD5.out.trans (by rw [HPF.out, HD6.out, hf, Bool.false_and, Bool.false_and])), Bool.false_and])))
          clear hf
          go_wp2
          go_ret2
          rw [HX.out]
          exact MadeInsB.of_grow (e := 0) (r := ([], false)) (Grow.nil _ _ _ _) (Nat.le_refl _) S7
        | true =>
        have HX6 := Lib.hid (HD6.out.trans (by rw [hf, Bool.true_and]))
        clear hf
        have GQ7 := Lib.hid (GQ6.out.below T7)
        have X7 := X6.to T7
        clear X6
        go_wp2_with fail
        refine (Clone_int_c GQ7.out (by omega)).mono ?_
        rintro e w8 ⟨A8, n8, c8, bs8, rfl, r8, nd8, hb8, b8⟩
        obtain ⟨rfl, _, _⟩ := r8.ints_len
        have O8 := Lib.hid (one_newN (N := w8.heap.size) (Rep.in_iff (x := ⟨(j : Int), (m : Int), q⟩) |>.2 ⟨A8, c8, bs8, rfl, rfl, show I64 (j : Int) by unfold I64; omega, show I64 (m : Int) by unfold I64; omega, r8⟩) 171 rfl)
        have N8 := Lib.hid (And.intro nd8 hb8)
        have T8 := below_tr T7 b8
        have HG7 := Lib.hid (HG6.out.below T7)
        have B8 := b8.alloc b8.size (.cells #[.int .i64 (j : Int), .int .i64 (m : Int), .slice A8 q.length c8] 171)
        have hbz : w.heap.size + 1 ≤ w7.heap.size := by have := lt_of_cell P6.1; have := T7.size; omega
        have hQl : ((R ++ instsQ (j : Int) m q).map In.d).length + 1 ≤ 100000000000 := by
          rw [List.length_map, List.length_append, instsQ_len]; omega
        have HE := Lib.hid (show (R ++ instsQ (j : Int) m q).map In.d ++ [In.d ⟨(j : Int), (m : Int), q⟩] = (R ++ instsQ (j : Int) (m + 1) q).map In.d by
          rw [instsQ_succ, ← List.append_assoc, List.map_append (l₂ := [_])]; rfl)
        clear r8 nd8 hb8
        go_wp2_with (
          at_builtin
          refine wpList_append_more (w0 := w7) (B := w.heap.size + 1) (xs := (R ++ instsQ (j : Int) m q).map In.d) (ys := [In.d ⟨(j : Int), (m : Int), q⟩]) rfl (.tmp 74) (.tmp 80) _ rfl _ Tryz.underlying120 Tryz.infoIns rfl (by decide) rfl HG7.out B8 rfl O8.out ?hys ?hn ?hf ?hlen hbz ?_
          case hys => intro y hy; simp only [List.mem_singleton] at hy; rw [hy]; rfl
          case hn => exact N8.out.1
          case hf => exact N8.out.2
          case hlen => exact hQl
          intro v9 w9 hG9 hg9)
        rw [HE.out] at hG9
        have HG9 := Lib.hid hG9
        have g9 := Lib.hid ((Hgr6.out.trans (Grew.of_below (T7.trans (B8.mono T7.size)) _)).trans hg9)
        clear hG9 hg9
        go_wp2
        go_roundw
        case rel => exact ⟨m + 1, by omega, by go_num, HG9.out, HX6.out, g9.out⟩
        case measure => simp [intOf]; omega
end Go.Proofs.YtbhniobgaoncaaaGreatDoor
