/- Points of nests: PointIn of both sides. -/
import Derived.Test.YtgogjbnneoadkaaGreatZfTyArray
import Derived.Test.YtgogjbnneoadkaaGreatZfCore
import Derived.Test.YtgogjbnneoadkaaGreatZfArrs
import Derived.Test.YtgogjbnneoadkaaGreatZfPgF
import Derived.Test.YtgogjbnneoadkaaGreatZfTyStmt
import Derived.Test.YtgogjbnneoadkaaGreatZfReads
import Derived.Test.YtgogjbnneoadkaaGreatZfBasic
import Derived.Test.YtgogjbnneoadkaaGreatZfRange
set_option linter.all false
set_option maxHeartbeats 8000000
set_option maxRecDepth 100000
namespace Go.Proofs.YtgogjbnneoadkaaGreat
open Go.ChangeShapes Go.WideShapes Go.ChangeAt Go.RowKit Go.Deep
theorem qYB {xs : List Ar} {a : Acc} {q : List Int} {j : Nat} (h : j < xs.length) : qWD xs a q (xs.length - j) j = if xs[j].name.toList = a.arr.toList then (if 0 <= atF a xs[j] q then uX xs j + atF a xs[j] q else -1) else qWD xs a q (xs.length - (j + 1)) (j + 1) := by
 rw [show xs.length - j = (xs.length - (j + 1)) + 1 by omega, qWD, yN h]
theorem qDC {subs : List Aff} {dims q : List Int} {k : Nat} {r : Int} (h : k < subs.length) : atN subs dims q (subs.length - k) k r = if 0 <= evF subs[k] q /\ evF subs[k] q < gi dims k then atN subs dims q (subs.length - (k + 1)) (k + 1) (r * gi dims k + evF subs[k] q) else -1 := by
 rw [show subs.length - k = (subs.length - (k + 1)) + 1 by omega, atN, qNS h]
theorem qJK {xs : List Ar} {j : Nat} (h : j < xs.length) : uX xs (j + 1) = uX xs j + szF xs[j] := by rw [uX, yN h]
theorem qBX {xs : List Ar} (h : xM xs = true) {j : Nat} (hj : j < xs.length) : uP xs[j].dims = true /\ (0 <= uX xs j /\ uX xs j <= 144) /\ (1 <= szF xs[j] /\ szF xs[j] <= 36) := by
 have h1 := yB h;have h2 := h1.2 j hj;rw [yN hj] at h2;have h3 := yP h j (Nat.le_of_lt hj);have h4 := vU h2 (qJ _);have := h1.1;exact ⟨h2, by omega, h4⟩
section
variable {w : World} {bs bs' bs2 : List Nat}
theorem qDN {p : Pgm} {a : Acc} {q : List Int} {cs cs' : List Value} {B : Option Addr} {m d : Nat} (h : Rep w p.d cs bs) (h' : Rep w a.d cs' bs') (hq : Rep w (ints q) [.slice B m d] bs2) (hok : xM p.arrays = true) (hs : ∀ s ∈ a.subs, EvBd s q) :
  Calls Tryz.prog 149 #[.agg cs.toArray, .agg cs'.toArray, .slice B m d] w fun e w' => e = .returned (.int .i64 (cellF p.arrays a q)) /\ Below w.heap.size w w' := by
 obtain ⟨A1, c1, A2, c2, d1, d2, rfl, rfl, g1, g2⟩ := Rep.pgm_iff.1 h;have Garrays := qQ g1;have Gparts := qQ g2;clear h g1 g2;obtain ⟨A2', c2', d2', rfl, rfl, g1', g2'⟩ := Rep.acc_iff.1 h';have Garr' := qQ g1';have Gsubs' := qQ g2';clear h' g1' g2';have hn : p.arrays.length <= 9223372036854775807 := qX Garrays.out.sls_len.2.1 Garrays.out.sls_len.2.2;have hm : a.subs.length <= 9223372036854775807 := qX Gsubs'.out.sls_len.2.1 Gsubs'.out.sls_len.2.2;have HQ := qQ hq; clear hq;have HOK := qQ hok; clear hok;have HS := qQ hs; clear hs;go_enter Tryz.func149, Tryz.ntmps149;go_wp2;go_loopw [7, 17] (fun u i wr => ∃ j : Nat, j <= p.arrays.length /\ i = .int .i64 j /\ u = .int .i64 (uX p.arrays j) /\ cellF p.arrays a q = qWD p.arrays a q (p.arrays.length - j) j /\ Box2 wr (w.heap.size+1) (.string a.arr) (.slice A2' a.subs.length c2') /\ Below w.heap.size w wr) (fun _ i _ => p.arrays.length - (intOf i).toNat)
 case atStart => exact ⟨0, Nat.zero_le _, rfl, rfl, rfl, ⟨by go_simp, by go_simp⟩, bel⟩
 case round =>
  obtain ⟨j, hj, rfl, rfl, hi, Qr, hb⟩ := hrel;have hlq := qW Qr.1;have HI := qQ hi; clear hi;by_cases hlt : j < p.arrays.length
  ·have HD := qQ (HI.out.trans (qYB hlt))
   obtain ⟨hd1, hd2, hd3⟩ := qBX HOK.out hlt;have HDI := qQ hd1; clear hd1;obtain ⟨be, oe, cse, le, rfl, hble, hre, _, _, hce⟩ := (Garrays.out.below hb).sls_at Ar.d_size (k := j) hlt;have Ge := qQ hre;obtain ⟨A2e, c2e, d2e, rfl, rfl, g1e, g2e⟩ := Rep.ar_iff.1 hre;have k0e := (hce 0 _ rfl).1; rw [Nat.add_zero] at k0e;have k1e := (hce 1 _ rfl).1;have Q1e := qQ g1e;have Q2e := qQ g2e;clear hce hre g1e g2e;have hne : p.arrays[j].dims.length <= 9223372036854775807 := qX Q2e.out.ints_len.2.1 Q2e.out.ints_len.2.2;by_cases hnm : p.arrays[j].name.toList = a.arr.toList
   case neg =>
    have hqn : (p.arrays[j].name.toList == a.arr.toList) = false := beq_eq_false_iff_ne.2 hnm;have HF := qQ (HD.out.trans (if_neg hnm)); clear hnm;have HT := qQ (qJK hlt);go_wp2_with fail;refine (qCP (Ge.out.below bel) HDI.out).mono ?_;rintro e w1 ⟨rfl, b1⟩;have T1 : Below wr.heap.size wr w1 := bel;have Q1 := Qr.to T1;have S1 := qY hb T1;clear b1 T1 Qr k0e k1e;go_wp2;go_roundw
    case rel => exact ⟨j + 1, by omega, by go_num, zQ (by rw [HT.out]), HF.out, Q1, S1⟩
    case measure => simp [intOf]; omega
   have hqn : (p.arrays[j].name.toList == a.arr.toList) = true := beq_iff_eq.2 hnm;have HF := qQ (HD.out.trans (if_pos hnm)); clear hnm;by_cases hll : a.subs.length = p.arrays[j].dims.length
   case neg =>
    have hql : ((a.subs.length : Int) != (p.arrays[j].dims.length : Int)) = true := yU (by omega);have HX := qQ (HF.out.trans (if_neg (by rw [atF, if_neg hll]; omega)));clear hll;go_wp2;go_ret;exact ⟨qF HX.out.symm, qY hb bel⟩
   have hql : ((a.subs.length : Int) != (p.arrays[j].dims.length : Int)) = false := wG (by omega);have HAT := qQ (show atF a p.arrays[j] q = atN a.subs p.arrays[j].dims q a.subs.length 0 0 by rw [atF, if_pos hll]);have HLL := qQ hll; clear hll;have BX : Below wr.heap.size wr (wr.alloc (.cells #[.string p.arrays[j].name, .slice A2e p.arrays[j].dims.length c2e] 125)) := bel;have QX := Qr.to BX;have SX := qY hb BX;have R2 := qQ (Q2e.out.below BX);obtain ⟨g, hg⟩ : ∃ g, g = wr.heap.size := ⟨_, rfl⟩;have hgw : w.heap.size <= g := by rw [hg]; exact hb.size
   have HG := qQ hg;go_wp2;rw [<- HG.out];go_loopw [10, 40] (fun u i w2 => ∃ (k : Nat) (r : Int), k <= a.subs.length /\ i = .int .i64 k /\ u = .int .i64 r /\ 0 <= r /\ r < xK p.arrays[j].dims k /\ atF a p.arrays[j] q = atN a.subs p.arrays[j].dims q (a.subs.length - k) k r /\ Box2 w2 (w.heap.size+1) (.string a.arr) (.slice A2' a.subs.length c2') /\ Box2 w2 g (.string p.arrays[j].name) (.slice A2e p.arrays[j].dims.length c2e) /\ Rep w2 (ints p.arrays[j].dims) [.slice A2e p.arrays[j].dims.length c2e] le /\ Below w.heap.size w w2) (fun _ i _ => a.subs.length - (intOf i).toNat)
   case atStart => exact ⟨0, 0, Nat.zero_le _, rfl, rfl, by omega, by simp [xK], HAT.out, QX, by rw [HG.out]; exact Box2.new _ _ _ _, R2.out, SX⟩
   case round =>
    clear QX SX BX hg Qr k0e k1e;obtain ⟨k, r, hk, rfl, rfl, hr0, hr1, hat, Q2, X2, hr2, hb2⟩ := hrel;have hlq2 := qW Q2.1;have hlx2 := qW X2.1;have HA := qQ hat; clear hat
    have HR := qQ hr2; clear hr2;by_cases hkt : k < a.subs.length
    ·have hkd : k < p.arrays[j].dims.length := by rw [<- HLL.out]; exact hkt
     have HST := qQ (HA.out.trans (qDC hkt));have hdk := (qZU HDI.out).2 k hkd;obtain ⟨bd, od, hAd, _, hbd, hcd, _⟩ := HR.out.ints_at hkd;subst hAd;obtain ⟨bu, ou, csu, lu, rfl, hblu, hru, _, _, hcu⟩ := (Gsubs'.out.below hb2).sls_at Aff.d_size (k := k) hkt;have Gu := qQ hru;obtain ⟨A1u, c1u, d1u, rfl, rfl, g1u, g2u⟩ := Rep.aff_iff2.1 hru;have k0u := (hcu 0 _ rfl).1; rw [Nat.add_zero] at k0u;have k1u := (hcu 1 _ rfl).1;have Q1u := qQ g1u;have Q2u := qQ g2u;clear hcu hru g1u g2u;have hev := HS.out _ (List.getElem_mem hkt);have hbe := hev.ev q.length;have hl4 := hev.len4;obtain ⟨v, hv⟩ : ∃ v, v = evF a.subs[k] q := ⟨_, rfl⟩;have hvb : -40000000000000 <= v /\ v <= 40000000000000 := by rw [hv]; unfold evF; omega
     rw [<- hv] at HST;have HEV := qQ hev;have HV := qQ hv;clear hev hbe hl4 hv;go_wp2_with fail;refine (qGI (Gu.out.below bel) (HQ.out.below (qY hb2 bel)) HEV.out).mono ?_;rintro e w3 ⟨rfl, b3⟩;rw [<- HV.out];have T3 : Below wr.heap.size wr w3 := bel;have Q3 := Q2.to T3;have X3 := X2.to T3;have R3 := qQ (HR.out.below T3);have C3 := (T3.cell (p := ⟨bd, od + k, none⟩) hbd).trans hcd;have S3 := qY hb2 T3;clear T3 b3 Q2 X2 HR hcd hb2 k0u k1u;by_cases hin : 0 <= v /\ v < gi p.arrays[j].dims k
     case neg =>
      have HIB := qQ (show inB v 0 (gi p.arrays[j].dims k - 1) = false by
       by_cases h0 : 0 <= v
       ·exact qXX (by omega)
       ·exact qXZ h0)
      have HX := qQ (HF.out.trans (if_neg (by rw [HST.out, if_neg hin]; omega)));clear hin;go_wp2_with fail;refine (xX _ _ _ _).mono ?_;rintro e w' ⟨rfl, rfl⟩;rw [HIB.out];go_wp2;go_ret;exact ⟨qF HX.out.symm, S3⟩
     have HIB := qQ (show inB v 0 (gi p.arrays[j].dims k - 1) = true from uH hin.1 (by omega));have HAT2 := qQ (HST.out.trans (if_pos hin));have hsb := qTA HDI.out hkd hr0 hr1 hin.1 hin.2;clear hin;go_wp2_with fail;refine (xX _ _ _ _).mono ?_;rintro e w' ⟨rfl, rfl⟩;rw [HIB.out];go_wp2;go_roundw
     case rel => exact ⟨k + 1, r * gi p.arrays[j].dims k + v, by omega, by go_num, rfl, hsb.2.1, hsb.2.2.1, HAT2.out, Q3, X3, R3.out, S3⟩
     case measure => simp [intOf]; omega
    ·have hkk : k = a.subs.length := by omega
     subst hkk;have hatr := HA.out;rw [Nat.sub_self] at hatr;have HX := qQ (HF.out.trans (by rw [hatr, atN, if_pos hr0]));have hp36 := vU HDI.out (j := a.subs.length) (by rw [HLL.out]; exact qJ _);clear hatr;go_wp2;go_ret;exact ⟨qF HX.out.symm, hb2⟩
  ·have hjj : j = p.arrays.length := by omega
   subst hjj;have HX := qQ (show cellF p.arrays a q = -1 by rw [HI.out, Nat.sub_self]; rfl);go_wp2;go_ret;exact ⟨qF HX.out.symm, hb⟩
theorem qDH {xs : List Ar} {a : Acc} {q : List Int} {cs' : List Value} {A B : Option Addr} {n c m d : Nat} (h : Rep w (sls Ar.d xs) [.slice A n c] bs) (h' : Rep w a.d cs' bs') (hq : Rep w (ints q) [.slice B m d] bs2) (hok : xM xs = true) (hs : ∀ s ∈ a.subs, EvBd s q) (hs1 : 1 <= a.subs.length) :
  Calls Tryz.prog 174 #[.slice A n c, .agg cs'.toArray, .slice B m d] w fun e w' => e = .returned (.int .i64 (cellF xs a q)) /\ Below w.heap.size w w' := by
 obtain ⟨rfl, hn1, hn2⟩ := h.sls_len;have hn : xs.length <= 9223372036854775807 := qX hn1 hn2;clear hn1 hn2;obtain ⟨A2', c2', d2', rfl, rfl, g1', g2'⟩ := Rep.acc_iff.1 h';have Garr' := qQ g1';have Gsubs' := qQ g2';clear h' g1' g2';have hm : a.subs.length <= 9223372036854775807 := qX Gsubs'.out.sls_len.2.1 Gsubs'.out.sls_len.2.2;have HH := qQ h; clear h;have HQ := qQ hq; clear hq;have HOK := qQ hok; clear hok;have HS := qQ hs; clear hs;go_enter Tryz.func174, Tryz.ntmps174;go_wp2;go_loopw [7, 8] (fun u i wr => ∃ j : Nat, j <= xs.length /\ i = .int .i64 j /\ u = .int .i64 (uX xs j) /\ cellF xs a q = qWD xs a q (xs.length - j) j /\ Box2 wr w.heap.size (.string a.arr) (.slice A2' a.subs.length c2') /\ Below w.heap.size w wr) (fun _ i _ => xs.length - (intOf i).toNat)
 case atStart => exact ⟨0, Nat.zero_le _, rfl, rfl, rfl, ⟨by go_simp, by go_simp⟩, bel⟩
 case round =>
  obtain ⟨j, hj, rfl, rfl, hi, Qr, hb⟩ := hrel;have hlq := qW Qr.1;have HI := qQ hi; clear hi;by_cases hlt : j < xs.length
  ·have HD := qQ (HI.out.trans (qYB hlt))
   obtain ⟨hd1, hd2, hd3⟩ := qBX HOK.out hlt;have HDI := qQ hd1; clear hd1;obtain ⟨be, oe, cse, le, rfl, hble, hre, _, _, hce⟩ := (HH.out.below hb).sls_at Ar.d_size (k := j) hlt;have Ge := qQ hre;obtain ⟨A2e, c2e, d2e, rfl, rfl, g1e, g2e⟩ := Rep.ar_iff.1 hre;have k0e := (hce 0 _ rfl).1; rw [Nat.add_zero] at k0e;have k1e := (hce 1 _ rfl).1;have Q1e := qQ g1e;have Q2e := qQ g2e;clear hce hre g1e g2e;have hne : xs[j].dims.length <= 9223372036854775807 := qX Q2e.out.ints_len.2.1 Q2e.out.ints_len.2.2;by_cases hnm : xs[j].name.toList = a.arr.toList
   case neg =>
    have hqn : (xs[j].name.toList == a.arr.toList) = false := beq_eq_false_iff_ne.2 hnm;have HF := qQ (HD.out.trans (if_neg hnm)); clear hnm;have HT := qQ (qJK hlt);go_wp2_with fail;go_quiet (fail);go_wp2_with fail;refine (qNI (Ge.out.below bel) HDI.out).mono ?_;rintro e w1 ⟨rfl, b1⟩;have T1 : Below wr.heap.size wr w1 := bel;have Q1 := Qr.to T1;have S1 := qY hb T1;clear b1 T1 Qr k0e k1e;go_wp2;go_roundw
    case rel => exact ⟨j + 1, by omega, by go_num, zQ (by rw [HT.out]), HF.out, Q1, S1⟩
    case measure => simp [intOf]; omega
   have hqn : (xs[j].name.toList == a.arr.toList) = true := beq_iff_eq.2 hnm;have HF := qQ (HD.out.trans (if_pos hnm)); clear hnm;go_wp2_with fail;go_quiet (fail);go_wp2;go_loopw [9, 10] (fun u i w2 => ∃ (k : Nat) (r : Int), k <= a.subs.length /\ i = .int .i64 k /\ u = .int .i64 r /\ 0 <= r /\ r < xK xs[j].dims k /\ (a.subs.length = xs[j].dims.length ∨ k = 0) /\ (a.subs.length = xs[j].dims.length -> atF a xs[j] q = atN a.subs xs[j].dims q (a.subs.length - k) k r) /\ Box2 w2 w.heap.size (.string a.arr) (.slice A2' a.subs.length c2') /\ Below w.heap.size w w2) (fun _ i _ => a.subs.length - (intOf i).toNat)
   case atStart => exact ⟨0, 0, Nat.zero_le _, rfl, rfl, by omega, by simp [xK], .inr rfl, fun e => by rw [atF, if_pos e]; rfl, Qr, qE hb _⟩
   case round =>
    clear Qr k0e k1e;obtain ⟨k, r, hk, rfl, rfl, hr0, hr1, hk0, hat, Q2, S2⟩ := hrel;have hlq2 := qW Q2.1;have HA := qQ hat; clear hat
    obtain ⟨bf, of, csf, lf, heqf, hblf, hrf, _, _, hcf⟩ := (HH.out.below S2).sls_at Ar.d_size (k := j) hlt;obtain ⟨rfl, rfl⟩ : be = bf /\ oe = of := by simpa using heqf
    have Gf := qQ hrf;obtain ⟨A2f, c2f, d2f, rfl, rfl, g1f, g2f⟩ := Rep.ar_iff.1 hrf;have k0f := (hcf 0 _ rfl).1; rw [Nat.add_zero] at k0f;have k1f := (hcf 1 _ rfl).1;have Q1f := qQ g1f;have Q2f := qQ g2f;clear hcf hrf g1f g2f;by_cases hkt : k < a.subs.length
    ·by_cases hll : a.subs.length = xs[j].dims.length
     case neg =>
      have hql : ((a.subs.length : Int) != (xs[j].dims.length : Int)) = true := yU (by omega);have HX := qQ (HF.out.trans (if_neg (by rw [atF, if_neg hll]; omega)));clear hll hk0;go_wp2_with fail;go_quiet (fail);go_wp2;go_ret;exact ⟨qF HX.out.symm, qE S2 _⟩
     have hql : ((a.subs.length : Int) != (xs[j].dims.length : Int)) = false := wG (by omega);have hkd : k < xs[j].dims.length := by rw [<- hll]; exact hkt
     have HST := qQ ((HA.out hll).trans (qDC hkt));have HLL := qQ hll; clear hll hk0;have hdk := (qZU HDI.out).2 k hkd;obtain ⟨bd, od, hAd, _, hbd, hcd, _⟩ := Q2f.out.ints_at hkd;have HAD := qQ hAd;obtain ⟨bu, ou, csu, lu, rfl, hblu, hru, _, _, hcu⟩ := (Gsubs'.out.below S2).sls_at Aff.d_size (k := k) hkt;have Gu := qQ hru;obtain ⟨A1u, c1u, d1u, rfl, rfl, g1u, g2u⟩ := Rep.aff_iff2.1 hru;have k0u := (hcu 0 _ rfl).1; rw [Nat.add_zero] at k0u;have k1u := (hcu 1 _ rfl).1;have Q1u := qQ g1u;have Q2u := qQ g2u;clear hcu hru g1u g2u;have hev := HS.out _ (List.getElem_mem hkt);have hbe := hev.ev q.length;have hl4 := hev.len4;obtain ⟨v, hv⟩ : ∃ v, v = evF a.subs[k] q := ⟨_, rfl⟩;have hvb : -40000000000000 <= v /\ v <= 40000000000000 := by rw [hv]; unfold evF; omega
     rw [<- hv] at HST;have HEV := qQ hev;have HV := qQ hv;clear hev hbe hl4 hv hAd;go_wp2_with fail;go_quiet (fail);go_wp2_with fail;refine (qZO (Gu.out.below bel) (HQ.out.below (qY S2 bel)) HEV.out).mono ?_;rintro e w3 ⟨rfl, b3⟩;rw [<- HV.out];have T3 : Below wr.heap.size wr w3 := bel;have Q3 := Q2.to T3;have C3 := (T3.cell (p := ⟨bd, od + k, none⟩) hbd).trans hcd;have k1g := (T3.cell hblf).trans k1f;rw [HAD.out] at k1g;have S3 := qY S2 T3;clear T3 b3 Q2 hcd k0u k1u k0f k1f;by_cases hin0 : v < 0
     ·have HX := qQ (HF.out.trans (if_neg (by rw [HST.out, if_neg (by omega)]; omega)))
      go_wp2;go_ret;exact ⟨qF HX.out.symm, S3⟩
     by_cases hin1 : v < gi xs[j].dims k
     case neg =>
      have HX := qQ (HF.out.trans (if_neg (by rw [HST.out, if_neg (by omega)]; omega)));go_wp2;go_ret;exact ⟨qF HX.out.symm, S3⟩
     have HAT2 := qQ (HST.out.trans (if_pos ⟨by omega, hin1⟩));have hsb := qTA HDI.out hkd hr0 hr1 (show 0 <= v by omega) hin1;go_wp2;go_roundw
     case rel => exact ⟨k + 1, r * gi xs[j].dims k + v, by omega, by go_num, rfl, hsb.2.1, hsb.2.2.1, .inl HLL.out, fun _ => HAT2.out, Q3, S3⟩
     case measure => simp [intOf]; omega
    ·have hkk : k = a.subs.length := by omega
     subst hkk;have hll : a.subs.length = xs[j].dims.length := hk0.resolve_right (by omega);have hatr := HA.out hll;rw [Nat.sub_self] at hatr;have HX := qQ (HF.out.trans (by rw [hatr, atN, if_pos hr0]));have hp36 := vU HDI.out (j := a.subs.length) (by omega);clear hatr hll hk0;go_wp2;go_ret;exact ⟨qF HX.out.symm, S2⟩
  ·have hjj : j = xs.length := by omega
   subst hjj;have HX := qQ (show cellF xs a q = -1 by rw [HI.out, Nat.sub_self]; rfl);go_wp2;go_ret;exact ⟨qF HX.out.symm, hb⟩
end
theorem qJI {w : World} {xs : List Stm} {A : Option Addr} {n c : Nat} {bs : List Nat} {g : FuncId} {cap : Array Value} {p : Stm -> Bool} (h : Rep w (sls Stm.d xs) [.slice A n c] bs) (hg : xD Tryz.prog g)
  (hp : ∀ x cs bs W, x ∈ xs -> Below w.heap.size w W -> Rep W (Stm.d x) cs bs -> Calls Tryz.prog g (#[.agg cs.toArray] ++ cap) W fun e w' => e = .returned (.bool (p x)) /\ Below W.heap.size W w') :
  Calls Tryz.prog 182 #[.slice A n c, .func (.func g) #[] cap] w fun e w' => e = .returned (.int .i64 (idxI p xs 0)) /\ Below w.heap.size w w' := by
 obtain ⟨rfl, h2, h3⟩ := h.sls_len;have hn : xs.length <= 9223372036854775807 := qX h2 h3;clear h2 h3;have H := qQ h; clear h;have HP := qQ hp; clear hp;unfold xD at hg;go_enter Tryz.func182, Tryz.ntmps182;go_wp2;go_loopw [8] (fun i wr => ∃ j : Nat, j <= xs.length /\ i = .int .i64 j /\ idxI p xs 0 = idxI p (xs.drop j) j /\ Below w.heap.size w wr) (fun i _ => xs.length - (intOf i).toNat)
 case atStart => exact ⟨0, Nat.zero_le _, rfl, by simp, Below.refl _ _⟩
 case round =>
  obtain ⟨j, hj, rfl, hi, hb⟩ := hrel;have HI := qQ hi; clear hi;by_cases hlt : j < xs.length
  ·have hd := qQ (wN p xs j hlt)
   obtain ⟨b, o, cs, l, rfl, hbl, hr, _, _, hc⟩ := (H.out.below hb).sls_at Stm.d_size (k := j) hlt;have G := qQ hr;obtain ⟨A2, c2, A5, c5, A8, c8, A9, c9, d2, d5, d8, d9, rfl, rfl, g1, g2, g3, g4, g5, g6, g7, g8, g9⟩ := Rep.stm_iff.1 hr;have k0 := (hc 0 _ rfl).1; rw [Nat.add_zero] at k0;have k1 := (hc 1 _ rfl).1;have k2 := (hc 2 _ rfl).1;have k3 := (hc 3 _ rfl).1;have k4 := (hc 4 _ rfl).1;have k5 := (hc 5 _ rfl).1;have k6 := (hc 6 _ rfl).1;have k7 := (hc 7 _ rfl).1;have k8 := (hc 8 _ rfl).1;clear hc hr g1 g2 g3 g4 g5 g6 g7 g8 g9;go_wp2_with fail;refine (HP.out _ _ _ _ (List.getElem_mem hlt) (by exact hb) G.out).mono ?_;rintro e w1 ⟨rfl, b1⟩;have S1 := qY hb b1;by_cases hpx : p xs[j] = true
   ·have hd2 := qQ (hd.out.trans (if_pos hpx))
    have HX := qQ hpx; clear hpx;rw [HX.out];go_wp2;go_ret;exact ⟨qF (by rw [HI.out, hd2.out]), S1⟩
   ·have hd2 := qQ (hd.out.trans (if_neg hpx))
    simp only [Bool.not_eq_true] at hpx;have HX := qQ hpx; clear hpx;rw [HX.out];go_wp2;go_roundw
    case rel => exact ⟨j + 1, by omega, by go_num, by rw [HI.out, hd2.out], S1⟩
    case measure => simp [intOf]; omega
  ·have hjj : j = xs.length := by omega
   subst hjj;go_wp2;go_ret;exact ⟨qF (by rw [HI.out]; simp [idxI]), hb⟩
theorem qZS {w : World} {xs : List Stm} {A : Option Addr} {n c : Nat} {bs : List Nat} {g : FuncId} {cap : Array Value} {p : Stm -> Bool} (h : Rep w (sls Stm.d xs) [.slice A n c] bs) (hg : xD Tryz.prog g)
  (hp : ∀ x cs bs W, x ∈ xs -> Below w.heap.size w W -> Rep W (Stm.d x) cs bs -> Calls Tryz.prog g (#[.agg cs.toArray] ++ cap) W fun e w' => e = .returned (.bool (p x)) /\ Below W.heap.size W w') :
  Calls Tryz.prog 142 #[.slice A n c, .func (.func g) #[] cap] w fun e w' => e = .returned (.bool (xs.any p)) /\ Below w.heap.size w w' := by
 have hx := qQ (qQF p xs 0 (Int.le_refl _));have HH := qQ h; clear h;have HP := qQ hp; clear hp;go_enter Tryz.func142, Tryz.ntmps142;go_wp2_with fail;refine (qJI HH.out hg HP.out).mono ?_;rintro e w1 ⟨rfl, b1⟩;go_wp2;go_ret;exact ⟨qH hx.out, b1⟩
structure StB (s : Stm) (q : List Int) : Prop where
 w1 : 1 <= s.write.subs.length
 w : ∀ t ∈ s.write.subs, EvBd t q
 r : ∀ a ∈ xF s.value, 1 <= a.subs.length /\ ∀ t ∈ a.subs, EvBd t q
 n : (xF s.value).length <= 1000000
theorem jP {a : Acc} {d : Int} (h : uA a d = true) : 1 <= a.subs.length /\ ∀ t ∈ a.subs, xG t = true := by
 simp only [uA, Bool.and_eq_true] at h;have := xB h.2;exact ⟨this.1, fun t ht => (this.2.2 t ht).1⟩
theorem qVS (x : Ex) : ∀ (L : Nat) (d : Int), zS x d L = true -> ∀ a ∈ xF x, uA a d = true :=
 Ex.ind (P := fun x => ∀ (L : Nat) (d : Int), zS x d L = true -> ∀ a ∈ xF x, uA a d = true) (fun x hx L d h a ha => by
  rw [uC] at h;simp only [Bool.and_eq_true, decide_eq_true_iff, List.all_eq_true] at h;rw [qZR] at ha;by_cases hk : x.kind = 3
  ·rw [if_pos hk, List.mem_singleton] at ha
   have ho := h.2.2.1;rw [ha];simp [ownF, hk] at ho;exact ho.2.2
  ·rw [if_neg hk] at ha
   have : ∀ ys : List Ex, (∀ y ∈ ys, y ∈ x.kids) -> a ∈ xU ys -> uA a d = true := by
    intro ys
    induction ys with
    | nil => intro _ h; simp [xU] at h
    | cons y ys ih =>
     intro hy h1;rw [xU] at h1;rcases List.mem_append.1 h1 with h1 | h1
     ·exact hx y (hy y List.mem_cons_self) _ d (h.2.2.2 y (hy y List.mem_cons_self)) a h1
     ·exact ih (fun z hz => hy z (List.mem_cons_of_mem _ hz)) h1
   exact this x.kids (fun _ h => h) ha) x
theorem qTI (x : Ex) : ∀ L : Nat, (∃ d, zS x d L = true) -> (xF x).length <= uT x L :=
 Ex.ind (P := fun x => ∀ L : Nat, (∃ d, zS x d L = true) -> (xF x).length <= uT x L) (fun x hx L ⟨d, h⟩ => by
  have h0 := qWH x L;rw [qZR];by_cases hk : x.kind = 3
  ·rw [if_pos hk]; simpa using h0
  ·rw [if_neg hk]
   rw [uC] at h;simp only [Bool.and_eq_true, decide_eq_true_iff, List.all_eq_true] at h;obtain ⟨L, rfl⟩ : ∃ M, L = M + 1 := ⟨L - 1, by omega⟩;rw [yT];simp only [Nat.add_sub_cancel] at h;have : ∀ ys : List Ex, (∀ y ∈ ys, y ∈ x.kids) -> (xU ys).length <= cntL (fun y => uT y L) ys := by
    intro ys
    induction ys with
    | nil => intro _; simp [xU, cntL]
    | cons y ys ih =>
     intro hy;have h1 := hx y (hy y List.mem_cons_self) L ⟨d, h.2.2.2 y (hy y List.mem_cons_self)⟩;have h2 := ih fun z hz => hy z (List.mem_cons_of_mem _ hz);simp only [xU, List.length_append, cntL]; omega
   have := this x.kids fun _ h => h;omega) x
theorem xR {s : Stm} {d : Int} (h : zV s d = true) : uA s.write d = true /\ zS s.value d 5 = true /\ uT s.value 5 <= 12 := by
 simp only [zV, Bool.and_eq_true, decide_eq_true_iff] at h;exact ⟨h.2.1, h.2.2.1, h.2.2.2⟩
theorem StB.of {s : Stm} {d : Int} {q : List Int} (h : zV s d = true) (hq : PtS q) : StB s q := by
 obtain ⟨h1, h2, h3⟩ := xR h;have h4 := jP h1;refine ⟨h4.1, fun t ht => hq t (h4.2 t ht), fun a ha => ?_, ?_⟩
 ·have h5 := jP (qVS s.value 5 d h2 a ha)
  exact ⟨h5.1, fun t ht => hq t (h5.2 t ht)⟩
 ·have := qTI s.value 5 ⟨d, h2⟩; omega
def vW (xs : List Ar) (q : List Int) (a : Acc) : Bool := decide (cellF xs a q < 0)
section
variable {w : World} {bs bs1 bs2 : List Nat}
theorem qTB {p : Pgm} {a : Acc} {q : List Int} {cs : List Value} {A1 A2 B : Option Addr} {c1 c2 m d g1 g2 : Nat} (h : Rep w a.d cs bs) (hP : Box2 w g1 (.slice A1 p.arrays.length c1) (.slice A2 p.parts.length c2)) (hT : Box1 w g2 (.slice B m d))
  (hp : Rep w p.d [.slice A1 p.arrays.length c1, .slice A2 p.parts.length c2] bs1) (hq : Rep w (ints q) [.slice B m d] bs2) (hok : xM p.arrays = true) (hs : ∀ t ∈ a.subs, EvBd t q) :
  Calls Tryz.prog 187 (#[.agg cs.toArray] ++ #[.pointer (some ⟨g1, 0, none⟩), .pointer (some ⟨g2, 0, none⟩)]) w fun e w' => e = .returned (.bool (vW p.arrays q a)) /\ Below w.heap.size w w' := by
 show Calls Tryz.prog 187 #[.agg cs.toArray, .pointer (some ⟨g1, 0, none⟩), .pointer (some ⟨g2, 0, none⟩)] w _;have HH := qQ h;obtain ⟨A2', c2', d2', rfl, rfl, g1', g2'⟩ := Rep.acc_iff.1 h;have Garr' := qQ g1';have Gsubs' := qQ g2';clear h g1' g2';have HP := qQ hp; clear hp;have HQ := qQ hq; clear hq;have HS := qQ hs; clear hs;have HOK := qQ hok; clear hok;have l1 := qW hP.1;have l2 := qW hT;obtain ⟨hP1, hP2⟩ := hP;go_enter Tryz.func187, Tryz.ntmps187;go_wp2_with fail;refine (qDN (HP.out.below bel) (HH.out.below bel) (HQ.out.below bel) HOK.out HS.out).mono ?_;rintro e w1 ⟨rfl, b1⟩;go_wp2;go_ret;exact ⟨qH rfl, bel⟩
theorem qTR : xD Tryz.prog 187 := fun args W => by go_simp
theorem qMI {p : Pgm} {s : Stm} {q : List Int} {cs cs' : List Value} {B : Option Addr} {m d : Nat} (h : Rep w p.d cs bs) (h' : Rep w s.d cs' bs1) (hq : Rep w (ints q) [.slice B m d] bs2) (hok : xM p.arrays = true) (hst : StB s q) :
  Calls Tryz.prog 146 #[.agg cs.toArray, .agg cs'.toArray, .slice B m d] w fun e w' => e = .returned (.bool (wB p.arrays q s)) /\ Below w.heap.size w w' := by
 have HX := qQ (show wB p.arrays q s = (decide (0 <= cellF p.arrays s.write q) && !(xF s.value).any (vW p.arrays q)) from rfl);have HP := qQ h;obtain ⟨A1, c1, A2, c2, d1, d2, rfl, rfl, g1, g2⟩ := Rep.pgm_iff.1 h;have Garrays := qQ g1;have Gparts := qQ g2;clear h g1 g2;obtain ⟨A2', c2', A5', c5', A8', c8', A9', c9', d2', d5', d8', d9', rfl, rfl, g1', g2', g3', g4', g5', g6', g7', g8', g9'⟩ := Rep.stm_iff.1 h';have Gwrite' := qQ ((Rep.acc_iff (x := s.write)).2 ⟨_, _, _, rfl, rfl, g1', g2'⟩);have Gvalue' := qQ ((Rep.ex_iff (x := s.value)).2 ⟨_, _, _, _, _, _, _, _, _, rfl, rfl, g3', g4', g5', g6', g7', g8', g9'⟩);clear h' g1' g2' g3' g4' g5' g6' g7' g8' g9';have HQ := qQ hq; clear hq;have HOK := qQ hok; clear hok;have HST := qQ hst; clear hst;go_enter Tryz.func146, Tryz.ntmps146;go_wp2_with fail;refine (qDN (HP.out.below bel) (Gwrite'.out.below bel) (HQ.out.below bel) HOK.out HST.out.w).mono ?_;rintro e w1 ⟨rfl, b1⟩;have P1 : Box2 w1 w.heap.size (.slice A1 p.arrays.length c1) (.slice A2 p.parts.length c2) := by
  refine ⟨?_, ?_⟩ <;> (rw [b1.cell (by simp [World.setCell]; try omega)]; go_simp)
 have M1 : Box9 w1 (w.heap.size+1) (.string s.write.arr) (.slice A2' s.write.subs.length c2') (.int .i64 s.value.kind) (.int .i64 s.value.num) (.slice A5' s.value.index.coefs.length c5') (.int .i64 s.value.index.const) (.string s.value.read.arr) (.slice A8' s.value.read.subs.length c8') (.slice A9' s.value.kids.length c9') := by
  refine ⟨?_, ?_, ?_, ?_, ?_, ?_, ?_, ?_, ?_⟩ <;> (rw [b1.cell (by simp [World.setCell]; try omega)]; go_simp)
 have T1 : Box1 w1 (w.heap.size+2) (.slice B m d) := by
  show w1.cell? _ = _; rw [b1.cell (by simp [World.setCell]; try omega)]; go_simp
 have S1 : Below w.heap.size w w1 := bel;clear b1;by_cases hp_ : 0 <= cellF p.arrays s.write q
 case neg =>
  have HF_ := qQ (HX.out.trans (by rw [decide_eq_false hp_, Bool.false_and]));go_wp2;go_ret;exact ⟨qH HF_.out.symm, bel⟩
 have HX1 := qQ (HX.out.trans (by rw [decide_eq_true hp_, Bool.true_and])); have hdHX1 := hp_; clear hp_;go_wp2_with fail;refine (qTO s.value _ _ _ HST.out.n (Gvalue'.out.below bel)).mono ?_;rintro e w2 ⟨A9, c9, bs9, rfl, r2, hs2, hy2, b2⟩;have s2 : Below w1.heap.size w1 w2 := bel;have P2 := P1.to s2; clear P1;have M2 := M1.to s2; clear M1;have T2 := T1.to s2; clear T1;have S2 : Below w.heap.size w w2 := qY S1 s2;clear s2;clear b2;have R2 := qQ r2; clear r2 hs2 hy2;have HP2 := qQ (HP.out.below S2);have HQ2 := qQ (HQ.out.below S2);go_wp2_with fail;refine (wO (p := vW p.arrays q) R2.out qTR (fun x cs bs W hm hb r => qTB r (P2.to hb) (T2.to hb) (HP2.out.below hb) (HQ2.out.below hb) HOK.out (HST.out.r x hm).2)).mono ?_;rintro e w3 ⟨rfl, b3⟩;have s3 : Below w2.heap.size w2 w3 := bel;have P3 := P2.to s3; clear P2;have M3 := M2.to s3; clear M2;have T3 := T2.to s3; clear T2;have S3 : Below w.heap.size w w3 := qY S2 s3;clear s3;clear b3;go_wp2;go_ret;exact ⟨qH HX1.out.symm, bel⟩
end
def accZero : Acc := ⟨⟨#[]⟩, []⟩
def uW (F : Aff -> Aff) (x : Acc) : Acc := ⟨x.arr, x.subs.map F⟩
mutual
def zD (F : Aff -> Aff) : Ex -> Ex
 | ⟨k, n, i, r, ks⟩ => ⟨k, n, if k = 2 then F i else affZero, if k = 3 then uW F r else accZero, qDW F ks⟩
def qDW (F : Aff -> Aff) : List Ex -> List Ex
 | [] => []
 | x :: xs => zD F x :: qDW F xs
end
theorem qHO (F : Aff -> Aff) : (xs : List Ex) -> qDW F xs = xs.map (zD F)
 | [] => rfl
 | x :: xs => by simp only [qDW, List.map_cons, qHO F xs]
theorem qDY (F : Aff -> Aff) (x : Ex) : zD F x = ⟨x.kind, x.num, if x.kind = 2 then F x.index else affZero, if x.kind = 3 then uW F x.read else accZero, x.kids.map (zD F)⟩ := by
 cases x; simp only [zD, qHO]
def qDV (F : Aff -> Aff) (s : Stm) : Stm := ⟨uW F s.write, zD F s.value⟩
-- p holds of the affine expressions that count
mutual
def qJQ (p : Aff -> Bool) : Ex -> Bool
 | ⟨k, _, i, r, ks⟩ => (if k = 2 then p i else true) && ((if k = 3 then r.subs.all p && decide (r.subs.length <= 1000000) else true) && (decide (ks.length <= 1000000) && qDS p ks))
def qDS (p : Aff -> Bool) : List Ex -> Bool
 | [] => true
 | x :: xs => qJQ p x && qDS p xs
end
theorem qGE (p : Aff -> Bool) : (xs : List Ex) -> qDS p xs = xs.all (qJQ p)
 | [] => rfl
 | x :: xs => by simp only [qDS, List.all_cons, qGE p xs]
theorem qDT (p : Aff -> Bool) (x : Ex) : qJQ p x = ((if x.kind = 2 then p x.index else true) && ((if x.kind = 3 then x.read.subs.all p && decide (x.read.subs.length <= 1000000) else true) && (decide (x.kids.length <= 1000000) && x.kids.all (qJQ p)))) := by
 cases x; simp only [qJQ, qGE]
theorem qQV {a : Aff} (h : uU a = true) : a = affZero := by
 simp only [uU, Bool.and_eq_true, decide_eq_true_iff] at h;obtain ⟨c, k⟩ := a;simp only at h;rw [List.length_eq_zero_iff.1 h.1, h.2]; rfl
theorem qQW {a : Acc} (h : uB a = true) : a = accZero := by
 simp only [uB, Bool.and_eq_true, decide_eq_true_iff] at h;obtain ⟨s, l⟩ := a;simp only at h;rw [List.length_eq_zero_iff.1 h.2];have : s = ⟨#[]⟩ := by
  apply ByteArray.ext;have := h.1;rw [Lib.toList_data] at this;exact Array.toList_eq_nil_iff.1 this
 rw [this]; rfl
theorem qHD (x : Ex) : ∀ (L : Nat) (d : Int), zS x d L = true -> qJQ xG x = true /\ zD id x = x :=
 Ex.ind (P := fun x => ∀ (L : Nat) (d : Int), zS x d L = true -> qJQ xG x = true /\ zD id x = x) (fun x hx L d h => by
  rw [uC] at h;simp only [Bool.and_eq_true, decide_eq_true_iff, List.all_eq_true] at h;obtain ⟨_, hkn, ho, hk⟩ := h;have hkl : decide (x.kids.length <= 1000000) = true := by
   have : yR x.kind <= 2 := by unfold yR; split <;> (try split) <;> omega
   exact decide_eq_true (by omega)
  have h1 : x.kids.all (qJQ xG) = true := List.all_eq_true.2 fun y hy => (hx y hy _ d (hk y hy)).1;have h2 : x.kids.map (zD id) = x.kids := by
   conv => rhs; rw [<- List.map_id x.kids]
   exact List.map_congr_left fun y hy => (hx y hy _ d (hk y hy)).2
  rw [qDT, qDY, h1, h2, hkl, Bool.and_true, Bool.and_true];unfold ownF at ho;obtain ⟨k, n, i, r, ks⟩ := x;simp only at ho ⊢;by_cases e2 : k = 2
  ·subst e2
   rw [if_pos rfl] at ho;simp only [Bool.and_eq_true] at ho;rw [if_pos rfl, if_neg (by omega), if_pos rfl, if_neg (by omega), ho.2.2.1, qQW ho.2.1];exact ⟨rfl, rfl⟩
  ·by_cases e3 : k = 3
   ·subst e3
    rw [if_neg (by omega), if_pos rfl] at ho;simp only [Bool.and_eq_true] at ho;have hs : r.subs.all xG = true := List.all_eq_true.2 (jP ho.2.2).2;have hl : decide (r.subs.length <= 1000000) = true := by
     have h5 := ho.2.2;simp only [uA, Bool.and_eq_true] at h5;have := (xB h5.2).2.1;exact decide_eq_true (by omega)
    rw [if_neg (by omega), if_pos rfl, if_neg (by omega), if_pos rfl, hs, hl, qQV ho.2.1];refine ⟨rfl, ?_⟩;unfold uW; rw [List.map_id]
   ·rw [if_neg e2, if_neg e3] at ho
    have hz : uU i = true /\ uB r = true := by
     by_cases e1 : k = 1
     ·rw [if_pos e1] at ho; simp only [Bool.and_eq_true] at ho; exact ho.2
     ·rw [if_neg e1] at ho; simp only [Bool.and_eq_true] at ho; exact ho.2
    rw [if_neg e2, if_neg e3, if_neg e2, if_neg e3, qQV hz.1, qQW hz.2];exact ⟨rfl, rfl⟩) x
theorem qPM {s : Stm} {d : Int} (h : zV s d = true) : qDV id s = s := by
 obtain ⟨h1, h2, h3⟩ := xR h;unfold qDV uW;rw [List.map_id, (qHD s.value 5 d h2).2]
def inAt (xs : List Lp) (p : List Int) (j : Nat) : Bool := decide (loF (nthL xs j) (p.take j) <= gi p j) && decide (gi p j < hiF (nthL xs j) (p.take j))
def qLV (xs : List Lp) (p : List Int) : Nat -> Nat -> Bool
 | 0, _ => true
 | k + 1, j => inAt xs p j && qLV xs p k (j + 1)
end Go.Proofs.YtgogjbnneoadkaaGreat
