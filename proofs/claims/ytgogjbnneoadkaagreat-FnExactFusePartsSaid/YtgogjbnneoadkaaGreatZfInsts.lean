/- The instances of a program: instances of the program. -/
import Derived.Test.YtgogjbnneoadkaaGreatZfPointIn
import Derived.Test.YtgogjbnneoadkaaGreatZfPgF
import Derived.Test.YtgogjbnneoadkaaGreatZfBasic
set_option linter.all false
set_option maxHeartbeats 4000000
set_option maxRecDepth 100000
namespace Go.Proofs.YtgogjbnneoadkaaGreat
open Go.ChangeShapes Go.WideShapes Go.ChangeAt Go.RowKit Go.Deep
def wK (p : Pgm) : List In × Bool := if uK p && p.parts.all (zU p.arrays) then (qM p, decide ((qM p).length <= 120)) else ([], false)
theorem qHW (p : Pgm) : (wK p).2 = zK p := by
 unfold wK zK
 cases uK p <;> cases p.parts.all (zU p.arrays) <;> simp
theorem qMK {p : Pgm} (h : xM p.arrays = false) : wK p = ([], false) := by simp [wK, uK, h]
theorem qMY {p : Pgm} (h : ¬ p.parts.length <= 4) : wK p = ([], false) := by simp [wK, uK, h]
theorem wE {p : Pgm} (h : p.parts.all (zU p.arrays) = false) : wK p = ([], false) := by simp only [wK, h, Bool.and_false]; rfl
theorem qDO {p : Pgm} (h : xM p.arrays = true) (h2 : p.parts.length <= 4) (h3 : p.parts.all (zU p.arrays) = true) : wK p = (qM p, decide ((qM p).length <= 120)) := by simp only [wK, uK, h, decide_eq_true h2, h3, Bool.and_true]; rfl
theorem qPV {xs : List Ar} {x : Prt} (h : (qN x.nest).2 = false) : zU xs x = false := by rw [zU, h, Bool.false_and]
theorem qPJ {xs : List Ar} {x : Prt} (h : inB (x.body.length : Int) 1 4 = false) : zU xs x = false := by rw [zU, qQO, h, Bool.false_and, Bool.false_and, Bool.and_false]
theorem qPX {xs : List Ar} {x : Prt} (h : x.body.all (qWC x) = false) : zU xs x = false := by rw [zU, qQO, h, Bool.and_false, Bool.false_and, Bool.and_false]
theorem qHN {xs : List Ar} {x : Prt} (h : (zG x).all (wW xs x) = false) : zU xs x = false := by rw [zU, h, Bool.and_false, Bool.and_false]
theorem qNW {xs : List Ar} {x : Prt} (h : (qN x.nest).2 = true) (h2 : inB (x.body.length : Int) 1 4 = true) (h3 : x.body.all (qWC x) = true) (h4 : (zG x).all (wW xs x) = true) : zU xs x = true := by rw [zU, qQO, h, h2, h3, h4]; rfl
theorem qCE {α : Type} (p : α -> Bool) (l : List α) : l.any (fun y => !p y) = !l.all p := by
 induction l with
 | nil => rfl
 | cons x l ih => rw [List.any_cons, List.all_cons, ih, Bool.not_and]
def vL (w : World) (r : List In × Bool) (e : Ending) (w' : World) : Prop :=
 ∃ A n c bs, e = .returned (.tuple #[.slice A n c, .bool r.2]) /\ Rep w' (sls In.d r.1) [.slice A n c] bs /\ bs.Nodup /\ (∀ b ∈ bs, w.heap.size <= b) /\ Below w.heap.size w w'
theorem vL.of_grow {w w' : World} {e : TypeId} {v : Value} {r : List In × Bool} {B : Nat} (h : Grow w' B e 3 v (r.1.map In.d)) (hB : w.heap.size <= B) (hb : Below w.heap.size w w') : vL w r (.returned (.tuple #[v, .bool r.2])) w' := by
 obtain ⟨A, c, bs, rfl, h1, h2, h3⟩ := h.rep;rw [List.length_map] at h1 ⊢;exact ⟨A, _, c, bs, rfl, h1, h2, fun b hb' => qX hB (h3 b hb'), hb⟩
theorem Tryz.infoIns : (Tryz.prog.info? 84).map (fun i => (i.zero, i.size, decide (i.bytes <= 1024))) = some (some (.agg #[.int .i64 0, .int .i64 0, .slice none 0 0]), 3, true) := by kernel_rfl
theorem qGD : xD Tryz.prog 143 := fun args W => by go_simp
theorem qGS {w : World} {x : Prt} {y : Stm} {cs : List Value} {bs : List Nat} {g c1 c2 : Nat} {A1 A2 : Option Addr} (h : Rep w y.d cs bs) (hX : Box2 w g (.slice A1 x.nest.length c1) (.slice A2 x.body.length c2)) (hn : x.nest.length <= 9223372036854775807) :
  Calls Tryz.prog 143 (#[.agg cs.toArray] ++ #[.pointer (some ⟨g, 0, none⟩)]) w fun e w' => e = .returned (.bool (!qWC x y)) /\ Below w.heap.size w w' := by
 show Calls Tryz.prog 143 #[.agg cs.toArray, .pointer (some ⟨g, 0, none⟩)] w _;have HX := qQ (show zV y (x.nest.length : Int) = qWC x y from rfl);have HH := qQ h;have hg := qW hX.1;obtain ⟨A2, c2, A5, c5, A8, c8, A9, c9, d2, d5, d8, d9, rfl, rfl, g1, g2, g3, g4, g5, g6, g7, g8, g9⟩ := Rep.stm_iff.1 h;have Gwrite := qQ ((Rep.acc_iff (x := y.write)).2 ⟨_, _, _, rfl, rfl, g1, g2⟩);have Gvalue := qQ ((Rep.ex_iff (x := y.value)).2 ⟨_, _, _, _, _, _, _, _, _, rfl, rfl, g3, g4, g5, g6, g7, g8, g9⟩);clear h g1 g2 g3 g4 g5 g6 g7 g8 g9;go_enter Tryz.func143, Tryz.ntmps143;go_wp2_with fail;refine (qWV (HH.out.below bel)).mono ?_;rintro e w1 ⟨rfl, b1⟩;rw [HX.out];go_wp2;go_ret;exact ⟨rfl, bel⟩
theorem qZH {w : World} {p : Pgm} {cs : List Value} {bs : List Nat} (h : Rep w p.d cs bs) :
  Calls Tryz.prog 99 #[.agg cs.toArray] w (vL w (wK p)) := by
 have HP := qQ h;obtain ⟨A1, c1, A2, c2, d1, d2, rfl, rfl, g1, g2⟩ := Rep.pgm_iff.1 h;have Garrays := qQ g1;have Gparts := qQ g2;clear h g1 g2;have hpn : p.parts.length <= 9223372036854775807 := qX Gparts.out.sls_len.2.1 Gparts.out.sls_len.2.2;go_enter Tryz.func99, Tryz.ntmps99;go_wp2_with fail;refine (qTZ (Garrays.out.below bel)).mono ?_;rintro e w1 ⟨rfl, b1⟩;have P1 : Box2 w1 w.heap.size (.slice A1 p.arrays.length c1) (.slice A2 p.parts.length c2) := by
  refine ⟨?_, ?_⟩ <;> (rw [b1.cell (by simp [World.setCell]; try omega)]; go_simp)
 have S1 : Below w.heap.size w w1 := bel;clear b1
 cases hok : xM p.arrays with
 | false =>
  have HX := qQ (qMK hok);clear hok;go_wp2;go_ret2;rw [HX.out];exact vL.of_grow (e := 0) (r := ([], false)) (Grow.nil _ _ _ _) (qJ _) S1
 | true =>
 have HOK := qQ hok; clear hok;by_cases h4 : p.parts.length <= 4
 case neg =>
  have HX := qQ (qMY h4);go_wp2;go_ret2;rw [HX.out];exact vL.of_grow (e := 0) (r := ([], false)) (Grow.nil _ _ _ _) (qJ _) S1
 go_wp2;go_loopw [4, 26] (fun u i wr => ∃ j : Nat, j <= p.parts.length /\ i = .int .i64 j /\ Grow wr (w.heap.size + 1) 84 3 u ((qC (p.parts.take j) 0).map In.d) /\ (qC (p.parts.take j) 0).length <= 480 * j /\ p.parts.all (zU p.arrays) = (p.parts.drop j).all (zU p.arrays) /\ Box2 wr w.heap.size (.slice A1 p.arrays.length c1) (.slice A2 p.parts.length c2) /\ Below w.heap.size w wr) (fun _ i _ => p.parts.length - (intOf i).toNat)
 case atStart => exact ⟨0, Nat.zero_le _, rfl, by simpa [qC] using Grow.nil _ _ _ _, by simp [qC], rfl, P1, S1⟩
 case round =>
  clear P1 S1;obtain ⟨j, hj, rfl, hG, htj, hi, Pr, Sr⟩ := hrel;have HI := qQ hi; clear hi;have HG := qQ hG; clear hG;by_cases hlt : j < p.parts.length
  case neg =>
   have hjj : j = p.parts.length := by omega
   subst hjj;have HX := qQ (qDO HOK.out h4 (show p.parts.all (zU p.arrays) = true by rw [HI.out, List.drop_length]; rfl));have HG2 := qQ (show Grow wr (w.heap.size + 1) 84 3 u4 ((qM p).map In.d) by have := HG.out; rw [List.take_length] at this; exact this);obtain ⟨Au, cu, hfu, _, _⟩ := HG2.out.form;rw [List.length_map] at hfu;rw [List.take_length] at htj;have htj2 : (qM p).length <= 480 * p.parts.length := htj;subst hfu;go_wp2;go_ret2;rw [HX.out];have := vL.of_grow (w := w) (r := (qM p, decide ((qM p).length <= 120))) HG2.out (by omega) Sr;rw [show (decide (((qM p).length : Int) <= 120)) = decide ((qM p).length <= 120) from by rw [decide_eq_decide]; omega];exact this
  have HD := qQ (HI.out.trans (wJ (zU p.arrays) p.parts j hlt));have HT := qQ (jK hlt);obtain ⟨be, oe, cse, le, rfl, hble, hre, _, _, hce⟩ := Gparts.out.sls_at Prt.d_size (k := j) hlt;have Ge := qQ hre;obtain ⟨A1e, c1e, A2e, c2e, d1e, d2e, rfl, rfl, g1e, g2e⟩ := Rep.prt_iff.1 hre;have k0e := (hce 0 _ rfl).1; rw [Nat.add_zero] at k0e;have k1e := (hce 1 _ rfl).1;have Q1e := qQ g1e;have Q2e := qQ g2e;clear hce hre g1e g2e;have hbn : p.parts[j].body.length <= 9223372036854775807 := qX Q2e.out.sls_len.2.1 Q2e.out.sls_len.2.2;have hnn : p.parts[j].nest.length <= 9223372036854775807 := qX Q1e.out.sls_len.2.1 Q1e.out.sls_len.2.2;have z0e := (Sr.cell hble).trans k0e;have z1e := (Sr.cell hble).trans k1e;clear k0e k1e;go_wp2_with fail;refine (qJB ((Q1e.out.below Sr).below bel)).mono ?_;rintro e w2 ⟨A3, n3, c3, bs3, rfl, r3, _, hb3, b3⟩;have X2 : Box2 w2 wr.heap.size (.slice A1e p.parts[j].nest.length c1e) (.slice A2e p.parts[j].body.length c2e) := by
   refine ⟨?_, ?_⟩ <;> (rw [b3.cell (by simp [World.setCell]; try omega)]; go_simp)
  have T2 : Below wr.heap.size wr w2 := bel;have P2 := Pr.to T2;have S2 := qY Sr T2;have HG2 := qQ (HG.out.below T2);have HOWN := qQ (show ∀ b, u4.ownBlock = some b -> w.heap.size + 1 <= b /\ b < wr.heap.size from HG.out.own_ge);have hb3' : ∀ b ∈ bs3, wr.heap.size + 1 <= b := fun b hb => by have := hb3 b hb; simpa [World.setCell] using this
  clear Pr Sr T2 b3 z0e z1e hb3 HG
  cases hnp : (qN p.parts[j].nest).2 with
  | false =>
   have HX := qQ (wE (HD.out.trans (by rw [qPV hnp, Bool.false_and])));clear hnp;go_wp2;go_ret2;rw [HX.out];exact vL.of_grow (e := 0) (r := ([], false)) (Grow.nil _ _ _ _) (qJ _) S2
  | true =>
  have hnf := qHC hnp;have HNP := qQ hnp; clear hnp;have HP4 := qQ (fun q hq => (fun hh => PtS.of_B hh.1 hh.2.2) (qHP hnf.1 q hq) : ∀ q ∈ zG p.parts[j], PtS q);have HQ4 := qQ (fun q hq => (qHP hnf.1 q hq).2.2 : ∀ q ∈ zG p.parts[j], q.length <= 4);have hpl : (zG p.parts[j]).length <= 120 := hnf.2.2.1;rw [show (qN p.parts[j].nest).1 = zG p.parts[j] from hnf.2.2.2] at r3;clear hnf;obtain ⟨rfl, _, _⟩ := r3.sls_len;have R2 := qQ r3;have HB3 := qQ (show ∀ b ∈ bs3, wr.heap.size + 1 <= b /\ b < w2.heap.size from fun b hb => ⟨hb3' b hb, Rep.lt _ r3 b hb⟩);clear r3 hb3'
  cases hin : inB (p.parts[j].body.length : Int) 1 4 with
  | false =>
   have HX := qQ (wE (HD.out.trans (by rw [qPJ hin, Bool.false_and])));have HIN := qQ hin; clear hin;go_wp2_with fail;refine (xX _ _ _ _).mono ?_;rintro e w' ⟨rfl, rfl⟩;rw [HIN.out];go_wp2;go_ret2;rw [HX.out];exact vL.of_grow (e := 0) (r := ([], false)) (Grow.nil _ _ _ _) (qJ _) S2
  | true =>
  have hin2 := uZ.1 hin;have HIN := qQ hin; clear hin;go_wp2_with fail;refine (xX _ _ _ _).mono ?_;rintro e w' ⟨rfl, rfl⟩;rw [HIN.out];go_wp2_with fail;refine (qZS (p := fun y => !qWC p.parts[j] y) (Q2e.out.below S2) qGD (fun y cs bs W hm hb r => qGS r (X2.to hb) hnn)).mono ?_;rintro e w4 ⟨rfl, b4⟩;rw [qCE];have X4 := X2.to b4;have P4 := P2.to b4;have S4 := qY S2 b4;have R4 := qQ (R2.out.below b4);have HG4 := qQ (HG2.out.below b4);have HAP := qQ (show ∀ y ∈ w.heap.size :: wr.heap.size :: bs3, u4.ownBlock ≠ some y from fun y hy e => by
   have h1 := HOWN.out y e;rcases List.mem_cons.1 hy with rfl | hy
   ·omega
   ·rcases List.mem_cons.1 hy with rfl | hy
    ·omega
    ·have := (HB3.out y hy).1; omega)
  have HLT4 := qQ (show ∀ y ∈ w.heap.size :: wr.heap.size :: bs3, y < w4.heap.size from fun y hy => by
   have h1 := qW P4.1;have h2 := qW X4.1;rcases List.mem_cons.1 hy with rfl | hy
   ·omega
   ·rcases List.mem_cons.1 hy with rfl | hy
    ·omega
    ·have := (HB3.out y hy).2; have := b4.size; omega)
  clear X2 P2 S2 R2 HG2 b4 HB3
  cases hall : p.parts[j].body.all (qWC p.parts[j]) with
  | false =>
   have HX := qQ (wE (HD.out.trans (by rw [qPX hall, Bool.false_and])));clear hall;go_wp2;go_ret2;rw [HX.out];exact vL.of_grow (e := 0) (r := ([], false)) (Grow.nil _ _ _ _) (qJ _) S4
  | true =>
  have HALL := qQ hall; clear hall;go_wp2;go_loopw [4, 54] (fun u i wv => ∃ k : Nat, k <= (zG p.parts[j]).length /\ i = .int .i64 k /\ Grow wv (w.heap.size + 1) 84 3 u ((qC (p.parts.take j) 0 ++ ((zG p.parts[j]).take k).flatMap (xP (j : Int) p.parts[j].body.length)).map In.d) /\ (zG p.parts[j]).all (wW p.arrays p.parts[j]) = ((zG p.parts[j]).drop k).all (wW p.arrays p.parts[j]) /\ Grew w4 wv u4 u) (fun _ i _ => (zG p.parts[j]).length - (intOf i).toNat)
  case atStart => exact ⟨0, Nat.zero_le _, rfl, by simpa using HG4.out, rfl, Grew.refl _ _⟩
  case round =>
   obtain ⟨k, hk, rfl, hG5, hi5, hgr5⟩ := hrel;have HI5 := qQ hi5; clear hi5;have X5 := hgr5.touch.box2 X4 (fun hm => HAP.out _ (by simp) (qU.1 hm));have P5 := hgr5.touch.box2 P4 (fun hm => HAP.out _ (by simp) (qU.1 hm));have HAP5 := qQ (hgr5.apart HAP.out HLT4.out);have S5 : Below w.heap.size w wr := S4.trans (hgr5.below S4.size (fun b hb => by have := (HOWN.out b hb).1; omega));have R5 := qQ (R4.out.grew hgr5 (fun y hy => HAP.out y (by simp [hy])));have HLT5 := qQ (show ∀ y ∈ w.heap.size :: _ :: bs3, y < wr.heap.size from fun y hy => qZ (HLT4.out y hy) hgr5.touch.size);have HOWN5 := qQ (show ∀ b, u4.ownBlock = some b -> w.heap.size <= b from fun b hb => by have := (hG5.own_ge b hb).1; omega);have Hgr5 := qQ hgr5; clear hgr5;by_cases hkt : k < (zG p.parts[j]).length
   case neg =>
    have hkk : k = (zG p.parts[j]).length := by omega
    subst hkk;rw [List.take_length] at hG5;have HG5 := qQ hG5; clear hG5;have hpo := qNW HNP.out HIN.out HALL.out (show (zG p.parts[j]).all (wW p.arrays p.parts[j]) = true by rw [HI5.out, List.drop_length]; rfl);have HX := qQ (HD.out.trans (by rw [hpo, Bool.true_and]));have hlen := qKV hpo;have hl2 : (qC (p.parts.take (j + 1)) 0).length <= 480 * (j + 1) := by rw [HT.out, List.length_append, qYG]; omega
    have HG6 := qQ (show Grow wr (w.heap.size + 1) 84 3 u4 ((qC (p.parts.take (j + 1)) 0).map In.d) by rw [HT.out]; exact HG5.out);clear hpo;go_wp2;go_roundw
    case rel => exact ⟨j + 1, by omega, by go_num, HG6.out, hl2, HX.out, P5, S5⟩
    case measure => simp [intOf]; omega
   have HD5 := qQ (HI5.out.trans (wJ (wW p.arrays p.parts[j]) (zG p.parts[j]) k hkt));have HFT := qQ (qGC (xP (j : Int) p.parts[j].body.length) (zG p.parts[j]) k hkt);have hlR : (((zG p.parts[j]).take k).flatMap (xP (j : Int) p.parts[j].body.length)).length <= 480 := by
    rw [qVJ _ fun _ _ => jD _ _ _, List.length_take];have := Nat.mul_le_mul (show min k (zG p.parts[j]).length <= 120 by omega) (show p.parts[j].body.length <= 4 by omega);omega
   have HPQ := qQ (HP4.out _ (List.getElem_mem hkt));have hq4 := HQ4.out _ (List.getElem_mem hkt);obtain ⟨bq, oq, csq, lq, rfl, hblq, hrq, _, hlq, hcq⟩ := R5.out.sls_at qWX (k := k) hkt;obtain ⟨Aq, cq, rfl⟩ := hrq.ints_form1;have GQ := qQ hrq;have kq := (hcq 0 _ rfl).1; rw [Nat.add_zero, Nat.mul_one] at kq;have HLQ := qQ hlq;clear hcq hrq hlq;obtain ⟨q, hq⟩ : ∃ q, q = (zG p.parts[j])[k] := ⟨_, rfl⟩;rw [<- hq] at HD5 HFT HPQ hq4 GQ kq;have HQ := qQ hq; clear hq;obtain ⟨R, hR⟩ : ∃ R, R = qC (p.parts.take j) 0 ++ ((zG p.parts[j]).take k).flatMap (xP (j : Int) p.parts[j].body.length) := ⟨_, rfl⟩;have hRl : R.length <= 480 * j + 480 := by rw [hR, List.length_append]; omega
   rw [<- hR] at hG5;have HR := qQ hR; clear hR hlR;have HG5 := qQ hG5; clear hG5;go_wp2_with fail;refine (qLJ GQ.out).mono ?_;rintro e w' ⟨rfl, rfl⟩
   cases hpo : ptOk q with
   | false =>
    have HX := qQ (wE (HD.out.trans (by rw [qHN (HD5.out.trans (by rw [wW, hpo, Bool.false_and, Bool.false_and])), Bool.false_and])));clear hpo;go_wp2;go_ret2;rw [HX.out];exact vL.of_grow (e := 0) (r := ([], false)) (Grow.nil _ _ _ _) (qJ _) S5
   | true =>
   have HPF := qQ (show wW p.arrays p.parts[j] q = p.parts[j].body.all (wB p.arrays q) by rw [wW, hpo, Bool.true_and]);clear hpo;go_wp2;go_loopw [4, 64] (fun u i wv => ∃ m : Nat, m <= p.parts[j].body.length /\ i = .int .i64 m /\ Grow wv (w.heap.size + 1) 84 3 u ((R ++ xP (j : Int) m q).map In.d) /\ p.parts[j].body.all (wB p.arrays q) = (p.parts[j].body.drop m).all (wB p.arrays q) /\ Grew wr wv u4 u) (fun _ i _ => p.parts[j].body.length - (intOf i).toNat)
   case atStart => exact ⟨0, Nat.zero_le _, rfl, by simpa [xP] using HG5.out, rfl, Grew.refl _ _⟩
   case round =>
    obtain ⟨m, hm, rfl, hG6, hi6, hgr6⟩ := hrel;have HI6 := qQ hi6; clear hi6;have HG6 := qQ hG6; clear hG6;have X6 := hgr6.touch.box2 X5 (fun hm => HAP5.out _ (by simp) (qU.1 hm));have P6 := hgr6.touch.box2 P5 (fun hm => HAP5.out _ (by simp) (qU.1 hm));have S6 : Below w.heap.size w wr := S5.trans (hgr6.below S5.size HOWN5.out);have GQ6 := qQ (GQ.out.grew hgr6 (fun y hy => HAP5.out y (by simp [HLQ.out y hy])));have Hgr6 := qQ hgr6; clear hgr6;by_cases hmt : m < p.parts[j].body.length
    case neg =>
     have hmm : m = p.parts[j].body.length := by omega
     subst hmm;have HX5 := qQ (HD5.out.trans (by rw [HPF.out, HI6.out, List.drop_length, List.all_nil, Bool.true_and]));have HG7 := qQ (show Grow wr (w.heap.size + 1) 84 3 u4 ((qC (p.parts.take j) 0 ++ ((zG p.parts[j]).take (k + 1)).flatMap (xP (j : Int) p.parts[j].body.length)).map In.d) by
      rw [HFT.out, <- List.append_assoc, <- HR.out]; exact HG6.out)
     have g7 := qQ (Hgr5.out.trans Hgr6.out);go_wp2;go_roundw
     case rel => exact ⟨k + 1, by omega, by go_num, HG7.out, HX5.out, g7.out⟩
     case measure => simp [intOf]; omega
    have HD6 := qQ (HI6.out.trans (wJ (wB p.arrays q) p.parts[j].body m hmt));have HST := qQ (StB.of (show zV p.parts[j].body[m] (p.parts[j].nest.length : Int) = true from List.all_eq_true.1 HALL.out _ (List.getElem_mem hmt)) HPQ.out);obtain ⟨bt, ot, cst, lt, rfl, hblt, hrt, _, _, hct⟩ := Q2e.out.sls_at Stm.d_size (k := m) hmt;have Gt := qQ hrt;obtain ⟨A2t, c2t, A5t, c5t, A8t, c8t, A9t, c9t, d2t, d5t, d8t, d9t, rfl, rfl, g1t, g2t, g3t, g4t, g5t, g6t, g7t, g8t, g9t⟩ := Rep.stm_iff.1 hrt;have k0t := (hct 0 _ rfl).1; rw [Nat.add_zero] at k0t;have k1t := (hct 1 _ rfl).1;have k2t := (hct 2 _ rfl).1;have k3t := (hct 3 _ rfl).1;have k4t := (hct 4 _ rfl).1;have k5t := (hct 5 _ rfl).1;have k6t := (hct 6 _ rfl).1;have k7t := (hct 7 _ rfl).1;have k8t := (hct 8 _ rfl).1;have Q1t := qQ g1t;have Q2t := qQ g2t;have Q3t := qQ g3t;have Q4t := qQ g4t;have Q5t := qQ g5t;have Q6t := qQ g6t;have Q7t := qQ g7t;have Q8t := qQ g8t;have Q9t := qQ g9t;clear hct hrt g1t g2t g3t g4t g5t g6t g7t g8t g9t;have z0 := (S6.cell hblt).trans k0t;have z1 := (S6.cell hblt).trans k1t;have z2 := (S6.cell hblt).trans k2t;have z3 := (S6.cell hblt).trans k3t;have z4 := (S6.cell hblt).trans k4t;have z5 := (S6.cell hblt).trans k5t;have z6 := (S6.cell hblt).trans k6t;have z7 := (S6.cell hblt).trans k7t;have z8 := (S6.cell hblt).trans k8t;clear k0t k1t k2t k3t k4t k5t k6t k7t k8t;have hl6 : w.heap.size < wr.heap.size := qW P6.1;go_wp2_with fail;refine (qMI (HP.out.below (qY S6 bel)) (Gt.out.below (qY S6 bel)) (GQ6.out.below bel) HOK.out HST.out).mono ?_;rintro e w7 ⟨rfl, b7⟩;have T7 : Below wr.heap.size wr w7 := bel;have S7 := qY S6 T7;clear b7 z0 z1 z2 z3 z4 z5 z6 z7 z8
    cases hf : wB p.arrays q p.parts[j].body[m] with
    | false =>
     have HX := qQ (wE (HD.out.trans (by rw [qHN (HD5.out.trans (by rw [HPF.out, HD6.out, hf, Bool.false_and, Bool.false_and])), Bool.false_and])));clear hf;go_wp2;go_ret2;rw [HX.out];exact vL.of_grow (e := 0) (r := ([], false)) (Grow.nil _ _ _ _) (qJ _) S7
    | true =>
    have HX6 := qQ (HD6.out.trans (by rw [hf, Bool.true_and]));clear hf;have GQ7 := qQ (GQ6.out.below T7);have X7 := X6.to T7;clear X6;go_wp2_with fail;refine (qWN GQ7.out (by omega)).mono ?_;rintro e w8 ⟨A8, n8, c8, bs8, rfl, r8, nd8, hb8, b8⟩;obtain ⟨rfl, _, _⟩ := r8.ints_len;have O8 := qQ (xV (N := w8.heap.size) (Rep.in_iff (x := ⟨(j : Int), (m : Int), q⟩) |>.2 ⟨A8, c8, bs8, rfl, rfl, show I64 (j : Int) by unfold I64; omega, show I64 (m : Int) by unfold I64; omega, r8⟩) 84 rfl);have N8 := qQ (qV nd8 hb8);have T8 := qY T7 b8;have HG7 := qQ (HG6.out.below T7);have B8 := b8.alloc b8.size (.cells #[.int .i64 (j : Int), .int .i64 (m : Int), .slice A8 q.length c8] 84);have hbz : w.heap.size + 1 <= w7.heap.size := by have := qW P6.1; have := T7.size; omega
    have hQl : ((R ++ xP (j : Int) m q).map In.d).length + 1 <= 100000000000 := by
     rw [List.length_map, List.length_append, jD]; omega
    have HE := qQ (show (R ++ xP (j : Int) m q).map In.d ++ [In.d ⟨(j : Int), (m : Int), q⟩] = (R ++ xP (j : Int) (m + 1) q).map In.d by
     rw [qWJ, <- List.append_assoc, List.map_append (l₂ := [_])]; rfl)
    clear r8 nd8 hb8;go_wp2_with (
     at_builtin;refine qT (w0 := w7) (B := w.heap.size + 1) (xs := (R ++ xP (j : Int) m q).map In.d) (ys := [In.d ⟨(j : Int), (m : Int), q⟩]) rfl (.tmp 74) (.tmp 80) _ rfl _ Tryz.underlying79 Tryz.infoIns rfl (by decide) rfl HG7.out B8 rfl O8.out ?hys ?hn ?hf ?hlen hbz ?_
     case hys => intro y hy; simp only [List.mem_singleton] at hy; rw [hy]; rfl
     case hn => exact N8.out.1
     case hf => exact N8.out.2
     case hlen => exact hQl
     intro v9 w9 hG9 hg9)
    rw [HE.out] at hG9;have HG9 := qQ hG9;have g9 := qQ ((Hgr6.out.trans (Grew.of_below (T7.trans (B8.mono T7.size)) _)).trans hg9);clear hG9 hg9;go_wp2;go_roundw
    case rel => exact ⟨m + 1, by omega, by go_num, HG9.out, HX6.out, g9.out⟩
    case measure => simp [intOf]; omega
end Go.Proofs.YtgogjbnneoadkaaGreat
