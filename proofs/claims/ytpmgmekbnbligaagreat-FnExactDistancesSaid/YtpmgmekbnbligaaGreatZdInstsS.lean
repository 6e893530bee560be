/- The instances of a program: l4Instances of the reference. -/
import Derived.Test.YtpmgmekbnbligaaGreatZdTotal
set_option linter.all false
set_option linter.unusedSimpArgs false
set_option linter.unusedVariables false
namespace Go.Proofs.YtpmgmekbnbligaaGreat
open Go.ChangeShapes Go.WideShapes Go.ChangeAt Go.RowKit Go.Deep

/-- the call answers new instances -/
def MadeIns (w : World) (l : List In) (e : Ending) (w' : World) : Prop :=
  ∃ A n c bs, e = .returned (.slice A n c) ∧ Rep w' (sls In.d l) [.slice A n c] bs ∧ bs.Nodup ∧ (∀ b ∈ bs, w.heap.size ≤ b) ∧ Below w.heap.size w w'
theorem MadeIns.of_grow {w w' : World} {e : TypeId} {v : Value} {l : List In} {B : Nat} (h : Grow w' B e 3 v (l.map In.d)) (hB : w.heap.size ≤ B) (hb : Below w.heap.size w w') : MadeIns w l (.returned v) w' := by
  obtain ⟨A, c, bs, rfl, h1, h2, h3⟩ := h.rep
  rw [List.length_map] at h1 ⊢
  exact ⟨A, _, c, bs, rfl, h1, h2, fun b hb' => Nat.le_trans hB (h3 b hb'), hb⟩
theorem progOk_all {p : Pgm} (h : progOk p = true) : p.parts.length ≤ 4 ∧ (∀ x ∈ p.parts, partOk p.arrays x = true) ∧ (instsF p).length ≤ 120 := by
  simp only [progOk, progBase, Bool.and_eq_true, decide_eq_true_iff, List.all_eq_true] at h
  exact ⟨h.1.2, h.2.1, h.2.2⟩
theorem take_le {p : Pgm} (h : (instsF p).length ≤ 120) (j : Nat) : (instsFrom (p.parts.take j) 0).length ≤ 120 := by
  obtain ⟨r, hr⟩ := instsFrom_pre (xs := p.parts) (j := j)
  have : (instsF p).length = (instsFrom (p.parts.take j) 0).length + r.length := by rw [instsF, hr, List.length_append]
  omega

set_option maxRecDepth 100000 in
set_option maxHeartbeats 4000000 in
theorem l4Instances_c {w : World} {p : Pgm} {cs : List Value} {bs : List Nat} (h : Rep w p.d cs bs) (hv : progOk p = true) :
    Calls Tryz.prog 53 #[.agg cs.toArray] w (MadeIns w (instsF p)) := by
  obtain ⟨hp4, hall, h120⟩ := progOk_all hv
  have HALL := Lib.hid hall; clear hall
  have H120 := Lib.hid h120; clear h120
  have HLT := Lib.hid (Rep.lt _ h)
  obtain ⟨A1, c1, A2, c2, d1, d2, rfl, rfl, g1, g2⟩ := Rep.pgm_iff.1 h
  have Garrays := Lib.hid g1
  have Gparts := Lib.hid g2
  clear h g1 g2
  have hpn : p.parts.length ≤ 9223372036854775807 := by omega
  go_enter Tryz.func53, Tryz.ntmps53
  go_wp2
  go_loopw [3, 4] (fun u i wr => ∃ j : Nat, j ≤ p.parts.length ∧ i = .int .i64 j ∧ Grow wr (w.heap.size + 1) 91 3 u ((instsFrom (p.parts.take j) 0).map In.d) ∧ Box2 wr w.heap.size (.slice A1 p.arrays.length c1) (.slice A2 p.parts.length c2) ∧ Below w.heap.size w wr) (fun _ i _ => p.parts.length - (intOf i).toNat)
  case atStart => exact ⟨0, Nat.zero_le _, rfl, by simpa [instsFrom] using Grow.madeE _ _ (by simp) (Nat.le_refl _), ⟨by go_simp, by go_simp⟩, bel⟩
  case round =>
    obtain ⟨j, hj, rfl, hG, Pr, Sr⟩ := hrel
    have HG := Lib.hid hG; clear hG
    have hlp := lt_of_cell Pr.1
    by_cases hlt : j < p.parts.length
    case neg =>
      have hjj : j = p.parts.length := by omega
      subst hjj
      have hg := HG.out
      rw [List.take_length] at hg
      have HG2 := Lib.hid hg; clear hg
      obtain ⟨Au, cu, hfu, _, _⟩ := HG2.out.form
      subst hfu
      go_wp2
      go_ret
      exact MadeIns.of_grow HG2.out (by omega) Sr
    have hpo := HALL.out _ (List.getElem_mem hlt)
    have hl480 := part_len hpo
    have hb4 := partOk_len hpo
    have hnf := npF_ok (show (NestPointsF p.parts[j].nest).2 = true by simp only [partOk, Bool.and_eq_true] at hpo; exact hpo.1)
    have hok := nest_ok hnf.1
    have HOK := Lib.hid hok.2
    have hn4 := hok.1
    have HQ4 := Lib.hid (fun q hq => (pts_ok hnf.1 q hq).2.2 : ∀ q ∈ ptsOf p.parts[j], q.length ≤ 4)
    have hpl : (ptsOf p.parts[j]).length ≤ 120 := hnf.2.2.1
    have hR0 := take_le H120.out j
    clear hpo hnf hok
    have HT := Lib.hid (instsFrom_take hlt)
    obtain ⟨be, oe, cse, le, rfl, hble, hre, _, _, hce⟩ := Gparts.out.sls_at Prt.d_size (k := j) hlt
    have Ge := Lib.hid hre
    obtain ⟨A1e, c1e, A2e, c2e, d1e, d2e, rfl, rfl, g1e, g2e⟩ := Rep.prt_iff.1 hre
    have k0e := (hce 0 _ rfl).1; rw [Nat.add_zero] at k0e
    have k1e := (hce 1 _ rfl).1
    have Q1e := Lib.hid g1e
    have Q2e := Lib.hid g2e
    clear hce hre g1e g2e
    have HSUB := Lib.hid ‹∀ y ∈ d1e ++ d2e, y ∈ d2›
    have z0e := (Sr.cell hble).trans k0e
    have z1e := (Sr.cell hble).trans k1e
    have hle2 : be < wr.heap.size := lt_of_cell z0e
    go_wp2_with fail
    refine (l2Points_c p.parts[j].nest p.parts[j].nest [] [] _ _ _ _ _ _ _ _ _ wr.heap.size _ [] rfl rfl hn4 HOK.out PtB.nil (by simp) (Q1e.out.below (Sr.alloc Sr.size _)) (Rep.ints_nil (Nat.zero_le _)) (Grow.made wr 27 1 (Nat.le_refl _)) (by simp) (fun y hy e => by have := Rep.lt _ Q1e.out y hy; have := Sr.size; simp [Value.ownBlock] at e; omega) (by simp)).mono ?_
    rintro e w2 ⟨v2, rfl, hG2, hg2⟩
    have T2 : Below wr.heap.size wr w2 := ((Below.refl _ _).alloc (Nat.le_refl _) _).trans (hg2.belowG (by simp) (Grow.made wr 27 1 (Nat.le_refl _)))
    rw [show (([] : List (List Int)) ++ ptsF p.parts[j].nest []).take 121 = ptsOf p.parts[j] by rw [List.nil_append, List.take_of_length_le (show (ptsF p.parts[j].nest []).length ≤ 121 from Nat.le_trans hpl (by omega))]; rfl] at hG2
    obtain ⟨A3, c3, bs3, rfl, r3, _, hb3⟩ := hG2.rep
    simp only [lls, List.length_map] at r3
    have P2 := Pr.to T2
    have S2 := below_tr Sr T2
    have HG4 := Lib.hid (HG.out.below T2)
    have HOWN := Lib.hid (show ∀ b, u3.ownBlock = some b → w.heap.size + 1 ≤ b ∧ b < wr.heap.size from HG.out.own_ge)
    have R4 := Lib.hid (show Rep w2 (sls ints (ptsOf p.parts[j])) [.slice A3 (ptsOf p.parts[j]).length c3] bs3 from r3)
    have HAP := Lib.hid (show ∀ y ∈ w.heap.size :: bs3, u3.ownBlock ≠ some y from fun y hy e => by
      have h1 := HOWN.out y e
      rcases List.mem_cons.1 hy with rfl | hy
      · omega
      · have := hb3 y hy; omega)
    have HLT4 := Lib.hid (show ∀ y ∈ w.heap.size :: bs3, y < w2.heap.size from fun y hy => by
      have h1 := lt_of_cell P2.1
      rcases List.mem_cons.1 hy with rfl | hy
      · omega
      · exact Rep.lt _ R4.out y hy)
    simp only [lls, List.length_map]
    clear hG2 hg2 r3 hb3 z0e z1e Pr Sr T2 HG hlp
    go_wp2
    go_loopw [3, 6] (fun u i wv => ∃ k : Nat, k ≤ (ptsOf p.parts[j]).length ∧ i = .int .i64 k ∧ Grow wv (w.heap.size + 1) 91 3 u ((instsFrom (p.parts.take j) 0 ++ ((ptsOf p.parts[j]).take k).flatMap (instsQ (j : Int) p.parts[j].body.length)).map In.d) ∧ Grew w2 wv u3 u) (fun _ i _ => (ptsOf p.parts[j]).length - (intOf i).toNat)
    case atStart => exact ⟨0, Nat.zero_le _, rfl, by simpa using HG4.out, Grew.refl _ _⟩
    case round =>
      obtain ⟨k, hk, rfl, hG5, hgr5⟩ := hrel
      have P5 := hgr5.touch.box2 P2 (fun hm => HAP.out _ (by simp) (mem_ownL.1 hm))
      have HAP5 := Lib.hid (hgr5.apart HAP.out HLT4.out)
      have S5 : Below w.heap.size w wr := S2.trans (hgr5.below S2.size (fun b hb => by have := (HOWN.out b hb).1; omega))
      have R5 := Lib.hid (R4.out.grew hgr5 (fun y hy => HAP.out y (by simp [hy])))
      have HOWN5 := Lib.hid (show ∀ b, u3.ownBlock = some b → w.heap.size ≤ b from fun b hb => by have := (hG5.own_ge b hb).1; omega)
      have Hgr5 := Lib.hid hgr5; clear hgr5
      by_cases hkt : k < (ptsOf p.parts[j]).length
      case neg =>
        have hkk : k = (ptsOf p.parts[j]).length := by omega
        subst hkk
        rw [List.take_length] at hG5
        have HG6 := Lib.hid (show Grow wr (w.heap.size + 1) 91 3 u3 ((instsFrom (p.parts.take (j + 1)) 0).map In.d) by rw [HT.out]; exact hG5)
        clear hG5
        go_wp2
        go_roundw
        case rel => exact ⟨j + 1, by omega, by go_num, HG6.out, P5, S5⟩
        case measure => simp [intOf]; omega
      have HFT := Lib.hid (flat_take (instsQ (j : Int) p.parts[j].body.length) (ptsOf p.parts[j]) k hkt)
      have hlR : (((ptsOf p.parts[j]).take k).flatMap (instsQ (j : Int) p.parts[j].body.length)).length ≤ 480 := by
        rw [flat_len _ fun _ _ => instsQ_len _ _ _, List.length_take]
        have := Nat.mul_le_mul (show min k (ptsOf p.parts[j]).length ≤ 120 by omega) (show p.parts[j].body.length ≤ 4 by omega)
        omega
      have hq4 := HQ4.out _ (List.getElem_mem hkt)
      obtain ⟨bq, oq, csq, lq, rfl, hblq, hrq, hbq, hlq, hcq⟩ := R5.out.sls_at ints_size (k := k) hkt
      obtain ⟨Aq, cq, rfl⟩ := hrq.ints_form1
      have GQ := Lib.hid hrq
      have kq := (hcq 0 _ rfl).1; rw [Nat.add_zero, Nat.mul_one] at kq
      have HLQ := Lib.hid hlq
      have HBQ := Lib.hid hbq
      clear hcq hrq hlq hbq
      obtain ⟨q, hq⟩ : ∃ q, q = (ptsOf p.parts[j])[k] := ⟨_, rfl⟩
      rw [← hq] at HFT hq4 GQ kq
      have HQ := Lib.hid hq; clear hq
      obtain ⟨R, hR⟩ : ∃ R, R = instsFrom (p.parts.take j) 0 ++ ((ptsOf p.parts[j]).take k).flatMap (instsQ (j : Int) p.parts[j].body.length) := ⟨_, rfl⟩
      have hRl : R.length ≤ 600 := by rw [hR, List.length_append]; omega
      rw [← hR] at hG5
      have HR := Lib.hid hR; clear hR hlR
      have HG5 := Lib.hid hG5; clear hG5
      go_wp2
      go_loopw [3, 7] (fun u i wv => ∃ m : Nat, m ≤ p.parts[j].body.length ∧ i = .int .i64 m ∧ Grow wv (w.heap.size + 1) 91 3 u ((R ++ instsQ (j : Int) m q).map In.d) ∧ Grew wr wv u3 u) (fun _ i _ => p.parts[j].body.length - (intOf i).toNat)
      case atStart => exact ⟨0, Nat.zero_le _, rfl, by simpa [instsQ] using HG5.out, Grew.refl _ _⟩
      case round =>
        obtain ⟨m, hm, rfl, hG6, hgr6⟩ := hrel
        have HG6 := Lib.hid hG6; clear hG6
        have P6 := hgr6.touch.box2 P5 (fun hm => HAP5.out _ (by simp) (mem_ownL.1 hm))
        have S6 : Below w.heap.size w wr := S5.trans (hgr6.below S5.size HOWN5.out)
        have GQ6 := Lib.hid (GQ.out.grew hgr6 (fun y hy => HAP5.out y (by simp [HLQ.out y hy])))
        have kq6 := (hgr6.touch.cell (o := oq + k) hblq (fun hm => HAP5.out bq (by simp [HBQ.out]) (mem_ownL.1 hm))).trans kq
        have Hgr6 := Lib.hid hgr6; clear hgr6
        have z0 := (S6.cell hble).trans k0e
        have z1 := (S6.cell hble).trans k1e
        have hl6 : w.heap.size < wr.heap.size := lt_of_cell P6.1
        have hlq6 : bq < wr.heap.size := lt_of_cell kq6
        have hle6 : be < wr.heap.size := lt_of_cell z0
        by_cases hmt : m < p.parts[j].body.length
        case neg =>
          have hmm : m = p.parts[j].body.length := by omega
          subst hmm
          have HG7 := Lib.hid (show Grow wr (w.heap.size + 1) 91 3 u3 ((instsFrom (p.parts.take j) 0 ++ ((ptsOf p.parts[j]).take (k + 1)).flatMap (instsQ (j : Int) p.parts[j].body.length)).map In.d) by
            rw [HFT.out, ← List.append_assoc, ← HR.out]; exact HG6.out)
          have g7 := Lib.hid (Hgr5.out.trans Hgr6.out)
          go_wp2
          go_roundw
          case rel => exact ⟨k + 1, by omega, by go_num, HG7.out, g7.out⟩
          case measure => simp [intOf]; omega
        have B0 : Below wr.heap.size wr (wr.alloc (.cells #[] 3)) := bel
        have hbz : w.heap.size + 1 ≤ wr.heap.size := by omega
        have hQl : ((R ++ instsQ (j : Int) m q).map In.d).length + 1 ≤ 100000000000 := by
          rw [List.length_map, List.length_append, instsQ_len]; omega
        have HE := Lib.hid (show (R ++ instsQ (j : Int) m q).map In.d ++ [In.d ⟨(j : Int), (m : Int), q⟩] = (R ++ instsQ (j : Int) (m + 1) q).map In.d by
          rw [instsQ_succ, ← List.append_assoc, List.map_append (l₂ := [_])]; rfl)
        go_wp2_with (first
          | (at_builtin
             refine wpList_append_more (w0 := wr.alloc (.cells #[] 3)) (B := wr.heap.size) (xs := []) (ys := q.map D.int) rfl (.tmp 44) (.tmp 48) _ rfl _ Tryz.underlying27 Tryz.infoInt rfl (by decide) rfl (Grow.made wr _ 1 (Nat.le_refl _)) (Below.refl _ _) rfl (GQ6.out.below B0) ?hys ?hn ?hf ?hlen ?hbase ?_
             case hys => intro y hy; obtain ⟨_, _, rfl⟩ := List.mem_map.1 hy; rfl
             case hn => rw [GQ6.out.ints_tail]; simp
             case hf => rw [GQ6.out.ints_tail]; simp
             case hlen => simp; omega
             case hbase => simp
             intro v7 w7 hG7 hg7
             rw [List.nil_append] at hG7
             have B7 : Below wr.heap.size wr w7 := B0.trans (hg7.belowG (by simp) (Grow.made wr 3 1 (Nat.le_refl _)))
             obtain ⟨A8, c8, bs8, rfl, r8, nd8, hb8, _⟩ := hG7.ints
             have O8 := Lib.hid (one_newN (N := w7.heap.size) (Rep.in_iff (x := ⟨(j : Int), (m : Int), q⟩) |>.2 ⟨A8, c8, bs8, rfl, rfl, show I64 (j : Int) by unfold I64; omega, show I64 (m : Int) by unfold I64; omega, r8⟩) 91 rfl)
             have N8 := Lib.hid (And.intro nd8 hb8)
             have B8 := B7.alloc B7.size (.cells #[.int .i64 (j : Int), .int .i64 (m : Int), .slice A8 q.length c8] 91)
             clear hG7 hg7 r8 nd8 hb8 B0)
          | (at_builtin
             refine wpList_append_more (w0 := wr) (B := w.heap.size + 1) (xs := (R ++ instsQ (j : Int) m q).map In.d) (ys := [In.d ⟨(j : Int), (m : Int), q⟩]) rfl (.tmp 41) (.tmp 51) _ rfl _ Tryz.underlying79 Tryz.infoIns rfl (by decide) rfl HG6.out B8 rfl O8.out ?hys ?hn ?hf ?hlen hbz ?_
             case hys => intro y hy; simp only [List.mem_singleton] at hy; rw [hy]; rfl
             case hn => exact N8.out.1
             case hf => exact N8.out.2
             case hlen => exact hQl
             intro v9 w9 hG9 hg9))
        rw [HE.out] at hG9
        have HG9 := Lib.hid hG9
        have g9 := Lib.hid ((Hgr6.out.trans (Grew.of_below B8 _)).trans hg9)
        clear hG9 hg9
        go_wp2
        go_roundw
        case rel => exact ⟨m + 1, by omega, by go_num, HG9.out, g9.out⟩
        case measure => simp [intOf]; omega
end Go.Proofs.YtpmgmekbnbligaaGreat
