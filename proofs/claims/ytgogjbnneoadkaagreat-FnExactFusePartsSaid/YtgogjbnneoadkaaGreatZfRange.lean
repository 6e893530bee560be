/- Ranges of loops, points of nests: LoopRange, PointIn of both sides; constant bounds: RectNest of both sides. -/
import Derived.Test.YtgogjbnneoadkaaGreatZfTyAccess
import Derived.Test.YtgogjbnneoadkaaGreatZfTyLoop
import Derived.Test.YtgogjbnneoadkaaGreatZfCore
set_option linter.all false
set_option maxHeartbeats 4000000
namespace Go.Proofs.YtgogjbnneoadkaaGreat
open Go.ChangeShapes Go.WideShapes Go.ChangeAt Go.RowKit Go.Deep
def evAt (xs : List Aff) (pt : List Int) (j : Nat) : Int := evF (xs.getD j ⟨[], 0⟩) pt
theorem yY {xs : List Aff} {pt : List Int} {j : Nat} (h : j < xs.length) : evF xs[j] pt = evAt xs pt j := by simp [evAt, List.getD_eq_getElem?_getD, h]
def mxTo (xs : List Aff) (pt : List Int) : Nat -> Int
 | 0 => evAt xs pt 0
 | j + 1 => if mxTo xs pt j < evAt xs pt j then evAt xs pt j else mxTo xs pt j
def mnTo (xs : List Aff) (pt : List Int) : Nat -> Int
 | 0 => evAt xs pt 0
 | j + 1 => if evAt xs pt j < mnTo xs pt j then evAt xs pt j else mnTo xs pt j
def loF (x : Lp) (pt : List Int) : Int := mxTo x.lo pt x.lo.length
def hiF (x : Lp) (pt : List Int) : Int := mnTo x.hi pt x.hi.length
theorem qNT (xs : List Aff) (pt : List Int) : mxTo xs pt 1 = evAt xs pt 0 := by simp [mxTo]
theorem qNN (xs : List Aff) (pt : List Int) : mnTo xs pt 1 = evAt xs pt 0 := by simp [mnTo]
theorem qBB {xs : List Aff} {pt : List Int} {j : Nat} (h : mxTo xs pt j < evAt xs pt j) : mxTo xs pt (j + 1) = evAt xs pt j := if_pos h
theorem qBC {xs : List Aff} {pt : List Int} {j : Nat} (h : ¬ mxTo xs pt j < evAt xs pt j) : mxTo xs pt (j + 1) = mxTo xs pt j := if_neg h
theorem qBA {xs : List Aff} {pt : List Int} {j : Nat} (h : evAt xs pt j < mnTo xs pt j) : mnTo xs pt (j + 1) = evAt xs pt j := if_pos h
theorem qBE {xs : List Aff} {pt : List Int} {j : Nat} (h : ¬ evAt xs pt j < mnTo xs pt j) : mnTo xs pt (j + 1) = mnTo xs pt j := if_neg h
theorem qNP (xs : List Aff) (pt : List Int) (j : Nat) : max (mxTo xs pt j) (evAt xs pt j) = mxTo xs pt (j + 1) := by
 rw [show mxTo xs pt (j + 1) = if mxTo xs pt j < evAt xs pt j then evAt xs pt j else mxTo xs pt j from rfl, Int.max_def]; split <;> split <;> omega
theorem qNR (xs : List Aff) (pt : List Int) (j : Nat) : min (mnTo xs pt j) (evAt xs pt j) = mnTo xs pt (j + 1) := by
 rw [show mnTo xs pt (j + 1) = if evAt xs pt j < mnTo xs pt j then evAt xs pt j else mnTo xs pt j from rfl, Int.min_def]; split <;> split <;> omega
structure LpBd (x : Lp) (pt : List Int) : Prop where
 lo1 : 1 <= x.lo.length
 hi1 : 1 <= x.hi.length
 lo : ∀ a ∈ x.lo, EvBd a pt
 hi : ∀ a ∈ x.hi, EvBd a pt
section
variable {w : World} {bs bs' : List Nat}
theorem qGV {x : Lp} {pt : List Int} {cs : List Value} {B : Option Addr} {m d : Nat} (h : Rep w x.d cs bs) (hp : Rep w (ints pt) [.slice B m d] bs') (hbd : LpBd x pt) :
  Calls Tryz.prog 138 #[.agg cs.toArray, .slice B m d] w fun e w' => e = .returned (.tuple #[.int .i64 (loF x pt), .int .i64 (hiF x pt)]) /\ Below w.heap.size w w' := by
 obtain ⟨A1, c1, A2, c2, d1, d2, rfl, rfl, g1, g2⟩ := Rep.lp_iff.1 h;obtain ⟨_, hn1, hn2⟩ := g1.sls_len;obtain ⟨_, hn3, hn4⟩ := g2.sls_len;have hnl : x.lo.length <= 9223372036854775807 := qX hn1 hn2;have hnh : x.hi.length <= 9223372036854775807 := qX hn3 hn4;have q1 := hbd.lo1;have q2 := hbd.hi1;have HBD := qQ hbd;have L1 := qQ g1; have L2 := qQ g2; have HP := qQ hp;clear h g1 g2 hp hbd hn1 hn2 hn3 hn4;have hl0 : 0 < x.lo.length := q1;have hh0 : 0 < x.hi.length := q2;obtain ⟨bu, ou, csu, lu, rfl, hblu, hru, _, _, hcu⟩ := L1.out.sls_at Aff.d_size (k := 0) hl0;have Gu := qQ hru;obtain ⟨A1u, c1u, d1u, rfl, rfl, g1u, g2u⟩ := Rep.aff_iff2.1 hru;have k0u := (hcu 0 _ rfl).1; rw [Nat.add_zero] at k0u;have k1u := (hcu 1 _ rfl).1;have Q1u := qQ g1u;have Q2u := qQ g2u;clear hcu hru g1u g2u;obtain ⟨bv, ov, csv, lv, rfl, hblv, hrv, _, _, hcv⟩ := L2.out.sls_at Aff.d_size (k := 0) hh0;have Gv := qQ hrv;obtain ⟨A1v, c1v, d1v, rfl, rfl, g1v, g2v⟩ := Rep.aff_iff2.1 hrv;have k0v := (hcv 0 _ rfl).1; rw [Nat.add_zero] at k0v;have k1v := (hcv 1 _ rfl).1;have Q1v := qQ g1v;have Q2v := qQ g2v;clear hcv hrv g1v g2v;simp only [Nat.zero_mul, Nat.add_zero] at k0u k1u k0v k1v;clear Q1u Q2u Q1v Q2v;have E1 := qQ (yY (pt := pt) hl0);have E2 := qQ (yY (pt := pt) hh0);go_enter Tryz.func138, Tryz.ntmps138;go_wp2_with fail;refine (qZO (Gu.out.below bel) (HP.out.below bel) (HBD.out.lo _ (List.getElem_mem hl0))).mono ?_;rintro e w1 ⟨rfl, b1⟩;rw [E1.out];have P1 : Box2 w1 w.heap.size (.slice (some ⟨bu, ou, none⟩) x.lo.length c1) (.slice (some ⟨bv, ov, none⟩) x.hi.length c2) := (Box2.new w _ _ _).to b1;have S1 : Below w.heap.size w w1 := bel;have k0_1 := (S1.cell (p := ⟨bv, ov, none⟩) hblv).trans k0v;have k1_1 := (S1.cell (p := ⟨bv, ov + 1, none⟩) hblv).trans k1v;have G1 := qQ (Gv.out.below S1);have hb1 : bv < w1.heap.size := qZ hblv S1.size;clear k0u k1u k0v k1v Gu Gv b1;go_wp2_with fail;refine (qZO G1.out (HP.out.below S1) (HBD.out.hi _ (List.getElem_mem hh0))).mono ?_;rintro e w2 ⟨rfl, b2⟩;rw [E2.out];have P2 := P1.to b2;have S2 := qY S1 b2;clear P1 S1 k0_1 k1_1 G1 hb1 b2;go_wp2;go_loopw [6, 8, 9] (fun u i _ wr => ∃ j : Nat, 1 <= j /\ j <= x.lo.length /\ i = .int .i64 j /\ u = .int .i64 (mxTo x.lo pt j) /\ Box2 wr w.heap.size (.slice (some ⟨bu, ou, none⟩) x.lo.length c1) (.slice (some ⟨bv, ov, none⟩) x.hi.length c2) /\ Below w.heap.size w wr) (fun _ i _ _ => x.lo.length - (intOf i).toNat)
 case atStart => exact ⟨1, qJ _, q1, rfl, zQ (qNT _ _).symm, P2, S2⟩
 case round =>
  obtain ⟨j, hj1, hj, rfl, rfl, P3, hb⟩ := hrel;by_cases hlt : j < x.lo.length
  ·clear P2 S2
   obtain ⟨bb, oo, cs, l, heq, hbl2, hr, _, _, hc⟩ := (L1.out.below hb).sls_at Aff.d_size (k := j) hlt;obtain ⟨rfl, rfl⟩ : bu = bb /\ ou = oo := by simpa using heq
   have G := qQ hr;obtain ⟨A3, c3, d3, rfl, rfl, g3, g4⟩ := Rep.aff_iff2.1 hr;have k0 := (hc 0 _ rfl).1; rw [Nat.add_zero] at k0;have k1 := (hc 1 _ rfl).1;clear hc hr g3 g4 heq;have E3 := qQ (yY (pt := pt) hlt);go_wp2_with fail;refine (qZO G.out (HP.out.below hb) (HBD.out.lo _ (List.getElem_mem hlt))).mono ?_;rintro e w4 ⟨rfl, b4⟩;rw [E3.out];have P4 := P3.to b4;have S4 := qY hb b4;clear P3 b4 k0 k1 G;by_cases hgt : mxTo x.lo pt j < evAt x.lo pt j
   ·have HM := qQ (qBB hgt)
    go_wp2;go_roundw
    case rel => exact ⟨j + 1, by omega, by omega, by go_num, zQ HM.out.symm, P4, S4⟩
    case measure => simp [intOf]; omega
   ·have HM := qQ (qBC hgt)
    go_wp2;go_roundw
    case rel => exact ⟨j + 1, by omega, by omega, by go_num, zQ HM.out.symm, P4, S4⟩
    case measure => simp [intOf]; omega
  ·have hjj : j = x.lo.length := by omega
   subst hjj;clear P2 S2;have HLO := qQ (show mxTo x.lo pt x.lo.length = loF x pt from rfl);rw [HLO.out];go_wp2;go_loopw [7, 10, 11] (fun u i _ wr2 => ∃ j : Nat, 1 <= j /\ j <= x.hi.length /\ i = .int .i64 j /\ u = .int .i64 (mnTo x.hi pt j) /\ Box2 wr2 w.heap.size (.slice (some ⟨bu, ou, none⟩) x.lo.length c1) (.slice (some ⟨bv, ov, none⟩) x.hi.length c2) /\ Below w.heap.size w wr2) (fun _ i _ _ => x.hi.length - (intOf i).toNat)
   case atStart => exact ⟨1, qJ _, q2, rfl, zQ (qNN _ _).symm, P3, hb⟩
   case round =>
    clear P3 hb;obtain ⟨j, hj1, hj, rfl, rfl, P3, hb⟩ := hrel;by_cases hlt : j < x.hi.length
    ·obtain ⟨bb, oo, cs, l, heq, hbl2, hr, _, _, hc⟩ := (L2.out.below hb).sls_at Aff.d_size (k := j) hlt
     obtain ⟨rfl, rfl⟩ : bv = bb /\ ov = oo := by simpa using heq
     have G := qQ hr;obtain ⟨A3, c3, d3, rfl, rfl, g3, g4⟩ := Rep.aff_iff2.1 hr;have k0 := (hc 0 _ rfl).1; rw [Nat.add_zero] at k0;have k1 := (hc 1 _ rfl).1;clear hc hr g3 g4 heq;have E3 := qQ (yY (pt := pt) hlt);go_wp2_with fail;refine (qZO G.out (HP.out.below hb) (HBD.out.hi _ (List.getElem_mem hlt))).mono ?_;rintro e w4 ⟨rfl, b4⟩;rw [E3.out];have P4 := P3.to b4;have S4 := qY hb b4;clear P3 b4 k0 k1 G;by_cases hgt : evAt x.hi pt j < mnTo x.hi pt j
     ·have HM := qQ (qBA hgt)
      go_wp2;go_roundw
      case rel => exact ⟨j + 1, by omega, by omega, by go_num, zQ HM.out.symm, P4, S4⟩
      case measure => simp [intOf]; omega
     ·have HM := qQ (qBE hgt)
      go_wp2;go_roundw
      case rel => exact ⟨j + 1, by omega, by omega, by go_num, zQ HM.out.symm, P4, S4⟩
      case measure => simp [intOf]; omega
    ·have hjj : j = x.hi.length := by omega
     subst hjj;have HHI := qQ (show mnTo x.hi pt x.hi.length = hiF x pt from rfl);rw [HHI.out];go_wp2;go_ret2;exact ⟨rfl, hb⟩
theorem qCT {x : Lp} {pt : List Int} {cs : List Value} {B : Option Addr} {m d : Nat} (h : Rep w x.d cs bs) (hp : Rep w (ints pt) [.slice B m d] bs') (hbd : LpBd x pt) :
  Calls Tryz.prog 212 #[.agg cs.toArray, .slice B m d] w fun e w' => e = .returned (.tuple #[.int .i64 (loF x pt), .int .i64 (hiF x pt)]) /\ Below w.heap.size w w' := by
 obtain ⟨A1, c1, A2, c2, d1, d2, rfl, rfl, g1, g2⟩ := Rep.lp_iff.1 h;obtain ⟨_, hn1, hn2⟩ := g1.sls_len;obtain ⟨_, hn3, hn4⟩ := g2.sls_len;have hnl : x.lo.length <= 9223372036854775807 := qX hn1 hn2;have hnh : x.hi.length <= 9223372036854775807 := qX hn3 hn4;have q1 := hbd.lo1;have q2 := hbd.hi1;have HBD := qQ hbd;have L1 := qQ g1; have L2 := qQ g2; have HP := qQ hp;clear h g1 g2 hp hbd hn1 hn2 hn3 hn4;have hl0 : 0 < x.lo.length := q1;have hh0 : 0 < x.hi.length := q2;have B0 : Below w.heap.size w (w.alloc (.cells #[.slice A1 x.lo.length c1, .slice A2 x.hi.length c2] 59)) := bel;have P0 := Box2.new w (.slice A1 x.lo.length c1) (.slice A2 x.hi.length c2) 59;obtain ⟨W, hW⟩ : ∃ W, W = w.alloc (.cells #[.slice A1 x.lo.length c1, .slice A2 x.hi.length c2] 59) := ⟨_, rfl⟩;rw [<- hW] at B0 P0;have HW := qQ hW; clear hW;obtain ⟨bu, ou, csu, lu, rfl, hblu, hru, _, _, hcu⟩ := (L1.out.below B0).sls_at Aff.d_size (k := 0) hl0;have Gu := qQ hru;obtain ⟨A1u, c1u, d1u, rfl, rfl, g1u, g2u⟩ := Rep.aff_iff2.1 hru;have k0u := (hcu 0 _ rfl).1; rw [Nat.add_zero] at k0u;have k1u := (hcu 1 _ rfl).1;have Q1u := qQ g1u;have Q2u := qQ g2u;clear hcu hru g1u g2u;obtain ⟨bv, ov, csv, lv, rfl, hblv, hrv, _, _, hcv⟩ := (L2.out.below B0).sls_at Aff.d_size (k := 0) hh0;have Gv := qQ hrv;obtain ⟨A1v, c1v, d1v, rfl, rfl, g1v, g2v⟩ := Rep.aff_iff2.1 hrv;have k0v := (hcv 0 _ rfl).1; rw [Nat.add_zero] at k0v;have k1v := (hcv 1 _ rfl).1;have Q1v := qQ g1v;have Q2v := qQ g2v;clear hcv hrv g1v g2v;simp only [Nat.zero_mul, Nat.add_zero] at k0u k1u k0v k1v;clear Q1u Q2u Q1v Q2v;have HPW := qQ (HP.out.below B0);have E1 := qQ (yY (pt := pt) hl0);have E2 := qQ (yY (pt := pt) hh0);go_enter Tryz.func212, Tryz.ntmps212;go_wp2;rw [<- HW.out];refine wp_region_noPanic ?_;refine wp_region_held_drew (S := fun w' => Box2 w' w.heap.size (.slice (some ⟨bu, ou, none⟩) x.lo.length c1) (.slice (some ⟨bv, ov, none⟩) x.hi.length c2) /\ (w'.cell? ⟨bu, ou, none⟩ = some (.slice A1u x.lo[0].coefs.length c1u) /\ w'.cell? ⟨bu, ou + 1, none⟩ = some (.int .i64 x.lo[0].const)) /\ (w'.cell? ⟨bv, ov, none⟩ = some (.slice A1v x.hi[0].coefs.length c1v) /\ w'.cell? ⟨bv, ov + 1, none⟩ = some (.int .i64 x.hi[0].const))) (by kernel_rfl) (⟨P0, ⟨k0u, k1u⟩, ⟨k0v, k1v⟩⟩) (fun hHeld => ?_);refine goR 0 hHeld ?_;refine goR 1 hHeld ?_;refine goR 2 hHeld ?_;refine goR 3 hHeld ?_;refine goR 4 hHeld ?_;refine goR 6 hHeld ?_;refine goR 7 hHeld ?_;refine goR 8 hHeld ?_;refine goR 9 hHeld ?_;refine goR 10 hHeld ?_;refine zF (i := 5) rfl (by kernel_rfl) (qK rfl) (fun K hK => ?_)
 go_simp
 (refine (qGI (Gu.out.drewN 1) (HPW.out.drewN 1) (HBD.out.lo _ (List.getElem_mem hl0))).mono ?_; rintro e w1 ⟨rfl, b1⟩; rw [E1.out]; replace b1 := qL b1)
 go_wp2_with fail;refine hK.out _ _ (⟨P0.to b1, ⟨by rw [b1.cell hblu]; exact k0u, by rw [b1.cell hblu]; exact k1u⟩, ⟨by rw [b1.cell hblv]; exact k0v, by rw [b1.cell hblv]; exact k1v⟩⟩) (fun hHeld => ?_);clear hK K
 try simp only [Act.put, aq0, aq1, aq2]
 refine zF (i := 11) rfl (by kernel_rfl) (qK rfl) (fun K hK => ?_);go_simp
 (refine (qGI (Gv.out.below b1) (HPW.out.below b1) (HBD.out.hi _ (List.getElem_mem hh0))).mono ?_; rintro e w2 ⟨rfl, b2⟩; rw [E2.out])
 go_wp2_with fail;refine hK.out _ _ (⟨(P0.to b1).to b2, ⟨by rw [b2.cell (qZ hblu b1.size), b1.cell hblu]; exact k0u, by rw [b2.cell (qZ hblu b1.size), b1.cell hblu]; exact k1u⟩, ⟨by rw [b2.cell (qZ hblv b1.size), b1.cell hblv]; exact k0v, by rw [b2.cell (qZ hblv b1.size), b1.cell hblv]; exact k1v⟩⟩) (fun hHeld => ?_);clear hK K
 try simp only [Act.put, aq0, aq1, aq2]
 refine goR 12 hHeld ?_;refine goR 13 hHeld ?_;refine wpAnyH_done (by kernel_rfl) ?_ _;refine NoPanic.normal ?_;have P2 := (P0.to b1).to b2;have S2 := qY (qY B0 b1) b2;clear P0 k0u k1u k0v k1v Gu Gv b1 b2 hblu hblv hHeld;go_wp2;go_loopw [6, 27] (fun u i wr => ∃ j : Nat, j <= x.lo.length /\ i = .int .i64 j /\ u = .int .i64 (mxTo x.lo pt j) /\ Box2 wr w.heap.size (.slice (some ⟨bu, ou, none⟩) x.lo.length c1) (.slice (some ⟨bv, ov, none⟩) x.hi.length c2) /\ Below w.heap.size w wr) (fun _ i _ => x.lo.length - (intOf i).toNat)
 case atStart => exact ⟨0, Nat.zero_le _, rfl, rfl, P2, S2⟩
 case round =>
  obtain ⟨j, hj, rfl, rfl, P3, hb⟩ := hrel;clear P2 S2;by_cases hlt : j < x.lo.length
  ·obtain ⟨bb, oo, cs, l, heq, hbl2, hr, _, _, hc⟩ := (L1.out.below hb).sls_at Aff.d_size (k := j) hlt
   obtain ⟨rfl, rfl⟩ : bu = bb /\ ou = oo := by simpa using heq
   have G := qQ hr;obtain ⟨A3, c3, d3, rfl, rfl, g3, g4⟩ := Rep.aff_iff2.1 hr;have k0 := (hc 0 _ rfl).1; rw [Nat.add_zero] at k0;have k1 := (hc 1 _ rfl).1;clear hc hr g3 g4 heq;have E3 := qQ (yY (pt := pt) hlt);have HM := qQ (qNP x.lo pt j);go_wp2_with fail;refine (qGI (G.out.below bel) (HP.out.below (qY hb bel)) (HBD.out.lo _ (List.getElem_mem hlt))).mono ?_;rintro e w4 ⟨rfl, b4⟩;rw [E3.out];have T4 : Below wr.heap.size wr w4 := bel;have P4 := P3.to T4;have S4 := qY hb T4;clear P3 b4 k0 k1 G;go_wp2;go_roundw
   case rel => exact ⟨j + 1, by omega, by go_num, zQ (by first | rfl | exact HM.out), P4, S4⟩
   case measure => simp [intOf]; omega
  ·have hjj : j = x.lo.length := by omega
   subst hjj;have HLO := qQ (show mxTo x.lo pt x.lo.length = loF x pt from rfl);rw [HLO.out];go_wp2;go_loopw [7, 40] (fun u i wr2 => ∃ j : Nat, j <= x.hi.length /\ i = .int .i64 j /\ u = .int .i64 (mnTo x.hi pt j) /\ Below w.heap.size w wr2) (fun _ i _ => x.hi.length - (intOf i).toNat)
   case atStart => exact ⟨0, Nat.zero_le _, rfl, rfl, hb⟩
   case round =>
    clear P3 hb;obtain ⟨j, hj, rfl, rfl, hb⟩ := hrel;by_cases hlt : j < x.hi.length
    ·obtain ⟨bb, oo, cs, l, heq, hbl2, hr, _, _, hc⟩ := (L2.out.below hb).sls_at Aff.d_size (k := j) hlt
     obtain ⟨rfl, rfl⟩ : bv = bb /\ ov = oo := by simpa using heq
     have G := qQ hr;obtain ⟨A3, c3, d3, rfl, rfl, g3, g4⟩ := Rep.aff_iff2.1 hr;have k0 := (hc 0 _ rfl).1; rw [Nat.add_zero] at k0;have k1 := (hc 1 _ rfl).1;clear hc hr g3 g4 heq;have E3 := qQ (yY (pt := pt) hlt);have HM := qQ (qNR x.hi pt j);go_wp2_with fail;refine (qGI (G.out.below bel) (HP.out.below (qY hb bel)) (HBD.out.hi _ (List.getElem_mem hlt))).mono ?_;rintro e w4 ⟨rfl, b4⟩;rw [E3.out];have S4 : Below w.heap.size w w4 := qY (qY hb bel) b4;clear b4 k0 k1 G;go_wp2;go_roundw
     case rel => exact ⟨j + 1, by omega, by go_num, zQ (by first | rfl | exact HM.out), S4⟩
     case measure => simp [intOf]; omega
    ·have hjj : j = x.hi.length := by omega
     subst hjj;have HHI := qQ (show mnTo x.hi pt x.hi.length = hiF x pt from rfl);rw [HHI.out];go_wp2;go_ret2;exact ⟨rfl, hb⟩
end
theorem qJO {w : World} {xs ys : List Lp} {A B : Option Addr} {n c m d : Nat} {bs bs' : List Nat} {g : FuncId} {cap : Array Value} {p : Lp -> Lp -> Bool} (h : Rep w (sls Lp.d xs) [.slice A n c] bs) (h' : Rep w (sls Lp.d ys) [.slice B m d] bs') (hg : xD Tryz.prog g)
  (hp : ∀ x y cs bs cs' bs' W, x ∈ xs -> y ∈ ys -> Below w.heap.size w W -> Rep W (Lp.d x) cs bs -> Rep W (Lp.d y) cs' bs' -> Calls Tryz.prog g (#[.agg cs.toArray, .agg cs'.toArray] ++ cap) W fun e w' => e = .returned (.bool (p x y)) /\ Below W.heap.size W w') :
  Calls Tryz.prog 104 #[.slice A n c, .slice B m d, .func (.func g) #[] cap] w fun e w' => e = .returned (.bool (yC p xs ys)) /\ Below w.heap.size w w' := by
 obtain ⟨rfl, h1, h2⟩ := h.sls_len;obtain ⟨rfl, h3, h4⟩ := h'.sls_len;have hn : xs.length <= 9223372036854775807 := qX h1 h2;have hm : ys.length <= 9223372036854775807 := qX h3 h4;clear h1 h2 h3 h4;have H := qQ h; clear h;have H' := qQ h'; clear h';have HP := qQ hp; clear hp;unfold xD at hg;by_cases hl : xs.length = ys.length
 ·have hl1 : ((xs.length : Int) != (ys.length : Int)) = false := by simp [hl]
  have HL := qQ hl; clear hl;go_enter Tryz.func104, Tryz.ntmps104;go_wp2;go_loopw [17] (fun i wr => ∃ j : Nat, j <= xs.length /\ i = .int .i64 j /\ yC p xs ys = yC p (xs.drop j) (ys.drop j) /\ Below w.heap.size w wr) (fun i _ => xs.length - (intOf i).toNat)
  case atStart => exact ⟨0, Nat.zero_le _, rfl, by simp, Below.refl _ _⟩
  case round =>
   obtain ⟨j, hj, rfl, hi, hb⟩ := hrel;have HI := qQ hi; clear hi;by_cases hlt : j < xs.length
   ·have hlt2 : j < ys.length := by rw [<- HL.out]; exact hlt
    have hd := qQ (qQT p xs ys j hlt hlt2);obtain ⟨b, o, cs, l, rfl, hbl, hr, _, _, hc⟩ := (H.out.below hb).sls_at Lp.d_size (k := j) hlt;have G := qQ hr;obtain ⟨A1, c1, A2, c2, d1, d2, rfl, rfl, g1, g2⟩ := Rep.lp_iff.1 hr;have k0 := (hc 0 _ rfl).1; rw [Nat.add_zero] at k0;have k1 := (hc 1 _ rfl).1;clear hc hr g1 g2;obtain ⟨b', o', cs', l', rfl, hbl', hr', _, _, hc'⟩ := (H'.out.below hb).sls_at Lp.d_size (k := j) hlt2;have G' := qQ hr';obtain ⟨A1', c1', A2', c2', d1', d2', rfl, rfl, g1', g2'⟩ := Rep.lp_iff.1 hr';have k0' := (hc' 0 _ rfl).1; rw [Nat.add_zero] at k0';have k1' := (hc' 1 _ rfl).1;clear hc' hr' g1' g2';have hja : (j : Int) < (ys.length : Int) := by omega
    go_wp2_with fail;refine (HP.out _ _ _ _ _ _ _ (List.getElem_mem hlt) (List.getElem_mem hlt2) (hb.trans (by have h5 := hb.size; refine Below.mono (B := wr.heap.size) ?_ h5; exact bel)) (G.out.below bel) (G'.out.below bel)).mono ?_;rintro e w1 ⟨rfl, b1⟩;have S1 : Below w.heap.size w w1 := qY hb bel
    cases hpx : p xs[j] ys[j] with
    | false =>
     have HX := qQ (hd.out.trans (by rw [hpx, Bool.false_and])); clear hpx;go_wp2;go_ret;exact ⟨qH (by rw [HI.out, HX.out]), S1⟩
    | true =>
     have HX := qQ (hd.out.trans (by rw [hpx, Bool.true_and])); clear hpx;go_wp2;go_roundw
     case rel => exact ⟨j + 1, by omega, by go_num, by rw [HI.out, HX.out], S1⟩
     case measure => simp [intOf]; omega
   ·have hjj : j = xs.length := by omega
    subst hjj;go_wp2;go_ret;exact ⟨qH (by rw [HI.out, List.drop_length, HL.out, List.drop_length]; rfl), hb⟩
 ·have hl1 : ((xs.length : Int) != (ys.length : Int)) = true := by simp; omega
  have HR := qQ (qXK p xs ys hl); clear hl;go_enter Tryz.func104, Tryz.ntmps104;go_wp2;go_ret;exact ⟨qH HR.out.symm, bel⟩
def nthL (xs : List Lp) (j : Nat) : Lp := xs.getD j ⟨[], []⟩
theorem qBN {xs : List Lp} {j : Nat} (h : j < xs.length) : xs[j] = nthL xs j := by simp [nthL, List.getD_eq_getElem?_getD, h]
theorem jA : (xs : List Lp) -> (i : Nat) -> xT xs i = true -> ∀ j (h : j < xs.length), xJ xs[j].lo (i + j : Nat) = true /\ xJ xs[j].hi (i + j : Nat) = true
 | [], _, _, j, h => by simp at h
 | x :: xs, i, hv, j, h => by
  simp only [xT, Bool.and_eq_true] at hv;rcases j with _ | j
  ·exact ⟨hv.1.1, hv.1.2⟩
  ·have := jA xs (i + 1) hv.2 j (by simpa using h)
   simpa [Nat.add_assoc, Nat.add_comm 1 j] using this
theorem xB {xs : List Aff} {d : Int} (h : xJ xs d = true) : 1 <= xs.length /\ xs.length <= 2 /\ ∀ a ∈ xs, xG a = true /\ (depF a.coefs : Int) <= d := by
 simp only [xJ, Bool.and_eq_true, decide_eq_true_iff, Bool.not_eq_true', List.any_eq_false] at h;refine ⟨h.1.1, h.1.2, fun a ha => ?_⟩;have := h.2 a ha;simp only [xZ, Bool.or_eq_true, Bool.not_eq_true', decide_eq_true_iff, not_or, Bool.not_eq_false] at this;exact ⟨this.1, by omega⟩
end Go.Proofs.YtgogjbnneoadkaaGreat
