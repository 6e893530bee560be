/- A transformation's beginning: begun with no loop asked for. -/
import Derived.Test.YtgogjbnneoadkaaGreatZfSqAffine
import Derived.Test.YtgogjbnneoadkaaGreatZfRange
import Derived.Test.YtgogjbnneoadkaaGreatZfSame
import Derived.Test.YtgogjbnneoadkaaGreatZfCore
import Derived.Test.YtgogjbnneoadkaaGreatZfActs
import Derived.Test.YtgogjbnneoadkaaGreatZfDeps1
import Derived.Test.YtgogjbnneoadkaaGreatZfFin
set_option linter.all false
set_option maxHeartbeats 4000000
set_option maxRecDepth 100000
namespace Go.Proofs.YtgogjbnneoadkaaGreat
open Go.ChangeShapes Go.WideShapes Go.ChangeAt Go.RowKit Go.Deep
def yG (a b : List Aff) : Bool := yC xH a b
def yH (a b : Lp) : Bool := yG a.lo b.lo && yG a.hi b.hi
def uM (a b : List Lp) : Bool := yC yH a b
section
variable {w : World} {A B : Option Addr} {n m c d : Nat} {bs bs' : List Nat}
theorem qJF {x y : Aff} {cs cs' : List Value} (h : Rep w x.d cs bs) (h' : Rep w y.d cs' bs') :
  Calls Tryz.prog 151 #[.agg cs.toArray, .agg cs'.toArray] w fun e w' => e = .returned (.bool (xH x y)) /\ Below w.heap.size w w' := by
 obtain ⟨A, n, c, rfl, _⟩ := Rep.aff_iff.1 h;obtain ⟨A', n', c', rfl, _⟩ := Rep.aff_iff.1 h';exact qJD h h'
theorem qJC {x y : Aff} {cs cs' : List Value} (h : Rep w x.d cs bs) (h' : Rep w y.d cs' bs') :
  Calls Tryz.prog 107 #[.agg cs.toArray, .agg cs'.toArray] w fun e w' => e = .returned (.bool (xH x y)) /\ Below w.heap.size w w' := by
 obtain ⟨A, n, c, rfl, _⟩ := Rep.aff_iff.1 h;obtain ⟨A', n', c', rfl, _⟩ := Rep.aff_iff.1 h';exact qJA h h'
theorem yV {x y : Aff} {cs cs' : List Value} (h : Rep w x.d cs bs) (h' : Rep w y.d cs' bs') :
  Calls Tryz.prog 107 (#[.agg cs.toArray, .agg cs'.toArray] ++ #[]) w fun e w' => e = .returned (.bool (xH x y)) /\ Below w.heap.size w w' := qJC h h'
theorem yW : xD Tryz.prog 107 := fun args W => by go_simp
theorem wT {xs ys : List Aff} (h : Rep w (sls Aff.d xs) [.slice A n c] bs) (h' : Rep w (sls Aff.d ys) [.slice B m d] bs') :
  Calls Tryz.prog 103 #[.slice A n c, .slice B m d] w fun e w' => e = .returned (.bool (yG xs ys)) /\ Below w.heap.size w w' := by
 unfold yG;obtain ⟨rfl, h1, h2⟩ := h.sls_len;obtain ⟨rfl, h3, h4⟩ := h'.sls_len;have hn : xs.length <= 9223372036854775807 := qX h1 h2;have hm : ys.length <= 9223372036854775807 := qX h3 h4;clear h1 h2 h3 h4;have H := qQ h; clear h;have H' := qQ h'; clear h';by_cases hl : xs.length = ys.length
 ·have hl1 : ((xs.length : Int) != (ys.length : Int)) = false := by simp [hl]
  have HL := qQ hl; clear hl;go_enter Tryz.func103, Tryz.ntmps103;go_wp2;go_loopw [5] (fun i wr => ∃ j : Nat, j <= xs.length /\ i = .int .i64 j /\ yC xH xs ys = yC xH (xs.drop j) (ys.drop j) /\ Below w.heap.size w wr) (fun i _ => xs.length - (intOf i).toNat)
  case atStart => exact ⟨0, Nat.zero_le _, rfl, by simp, Below.refl _ _⟩
  case round =>
   obtain ⟨j, hj, rfl, hi, hb⟩ := hrel;have HI := qQ hi; clear hi;by_cases hlt : j < xs.length
   ·have hlt2 : j < ys.length := by rw [<- HL.out]; exact hlt
    have hd := qQ (qQT xH xs ys j hlt hlt2);obtain ⟨b, o, cs, l, rfl, hbl, hr, _, _, hc⟩ := (H.out.below hb).sls_at Aff.d_size (k := j) hlt;have G := qQ hr;obtain ⟨A1, c1, d1, rfl, rfl, g1, g2⟩ := Rep.aff_iff2.1 hr;have k0 := (hc 0 _ rfl).1; rw [Nat.add_zero] at k0;have k1 := (hc 1 _ rfl).1;have Q1 := qQ g1;have Q2 := qQ g2;clear hc hr g1 g2;obtain ⟨b', o', cs', l', rfl, hbl', hr', _, _, hc'⟩ := (H'.out.below hb).sls_at Aff.d_size (k := j) hlt2;have G' := qQ hr';obtain ⟨A1', c1', d1', rfl, rfl, g1', g2'⟩ := Rep.aff_iff2.1 hr';have k0' := (hc' 0 _ rfl).1; rw [Nat.add_zero] at k0';have k1' := (hc' 1 _ rfl).1;have Q1' := qQ g1';have Q2' := qQ g2';clear hc' hr' g1' g2';have hja : (j : Int) < (ys.length : Int) := by omega
    go_wp2_with fail;go_region_held3 (fun w' => (w'.cell? ⟨b, o + j * 2, none⟩ = some (.slice A1 xs[j].coefs.length c1) /\ w'.cell? ⟨b, o + j * 2 + 1, none⟩ = some (.int .i64 xs[j].const)) /\ (w'.cell? ⟨b', o' + j * 2, none⟩ = some (.slice A1' ys[j].coefs.length c1') /\ w'.cell? ⟨b', o' + j * 2 + 1, none⟩ = some (.int .i64 ys[j].const))) (first | exact ⟨⟨k0, k1⟩, ⟨k0', k1'⟩⟩ | (refine ⟨⟨?_, ?_⟩, ⟨?_, ?_⟩⟩ <;> (first | (rw [b1.cell hbl]; assumption) | (rw [b1.cell hbl']; assumption))) | skip)
     (first | (go_at_call 151; refine (qJF (G.out.drewN 1) (G'.out.drewN 1)).mono ?_; rintro e w1 ⟨rfl, b1⟩; replace b1 := qL b1))
    have S1 := qY hb b1;clear b1
    cases hp : xH xs[j] ys[j] with
    | false =>
     have HX := qQ (hd.out.trans (by rw [hp, Bool.false_and])); clear hp;go_wp2;go_ret;exact ⟨qH (by rw [HI.out, HX.out]), S1⟩
    | true =>
     have HX := qQ (hd.out.trans (by rw [hp, Bool.true_and])); clear hp;go_wp2;go_roundw
     case rel => exact ⟨j + 1, by omega, by go_num, by rw [HI.out, HX.out], S1⟩
     case measure => simp [intOf]; omega
   ·have hjj : j = xs.length := by omega
    subst hjj;go_wp2;go_ret;exact ⟨qH (by rw [HI.out, List.drop_length, HL.out, List.drop_length]; rfl), hb⟩
 ·have hl1 : ((xs.length : Int) != (ys.length : Int)) = true := by simp; omega
  have HR := qQ (qXK xH xs ys hl); clear hl;go_enter Tryz.func103, Tryz.ntmps103;go_wp2;go_ret;exact ⟨qH HR.out.symm, bel⟩
theorem qQR {xs ys : List Lp} (h : Rep w (sls Lp.d xs) [.slice A n c] bs) (h' : Rep w (sls Lp.d ys) [.slice B m d] bs') :
  Calls Tryz.prog 55 #[.slice A n c, .slice B m d] w fun e w' => e = .returned (.bool (uM xs ys)) /\ Below w.heap.size w w' := by
 unfold uM;obtain ⟨rfl, h1, h2⟩ := h.sls_len;obtain ⟨rfl, h3, h4⟩ := h'.sls_len;have hn : xs.length <= 9223372036854775807 := qX h1 h2;have hm : ys.length <= 9223372036854775807 := qX h3 h4;clear h1 h2 h3 h4;have H := qQ h; clear h;have H' := qQ h'; clear h';by_cases hl : xs.length = ys.length
 ·have hl1 : ((xs.length : Int) != (ys.length : Int)) = false := by simp [hl]
  have HL := qQ hl; clear hl;go_enter Tryz.func55, Tryz.ntmps55;go_wp2;go_loopw [5] (fun i wr => ∃ j : Nat, j <= xs.length /\ i = .int .i64 j /\ yC yH xs ys = yC yH (xs.drop j) (ys.drop j) /\ Below w.heap.size w wr) (fun i _ => xs.length - (intOf i).toNat)
  case atStart => exact ⟨0, Nat.zero_le _, rfl, by simp, Below.refl _ _⟩
  case round =>
   obtain ⟨j, hj, rfl, hi, hb⟩ := hrel;have HI := qQ hi; clear hi;by_cases hlt : j < xs.length
   ·have hlt2 : j < ys.length := by rw [<- HL.out]; exact hlt
    have hd := qQ (qQT yH xs ys j hlt hlt2);obtain ⟨b, o, cs, l, rfl, hbl, hr, _, _, hc⟩ := (H.out.below hb).sls_at Lp.d_size (k := j) hlt;have G := qQ hr;obtain ⟨A1, c1, A2, c2, d1, d2, rfl, rfl, g1, g2⟩ := Rep.lp_iff.1 hr;have k0 := (hc 0 _ rfl).1; rw [Nat.add_zero] at k0;have k1 := (hc 1 _ rfl).1;have Q1 := qQ g1;have Q2 := qQ g2;clear hc hr g1 g2;obtain ⟨b', o', cs', l', rfl, hbl', hr', _, _, hc'⟩ := (H'.out.below hb).sls_at Lp.d_size (k := j) hlt2;have G' := qQ hr';obtain ⟨A1', c1', A2', c2', d1', d2', rfl, rfl, g1', g2'⟩ := Rep.lp_iff.1 hr';have k0' := (hc' 0 _ rfl).1; rw [Nat.add_zero] at k0';have k1' := (hc' 1 _ rfl).1;have Q1' := qQ g1';have Q2' := qQ g2';clear hc' hr' g1' g2';have hja : (j : Int) < (ys.length : Int) := by omega
    cases h1 : yG xs[j].lo ys[j].lo with
    | false =>
     have HX := qQ (show yC yH (xs.drop j) (ys.drop j) = false from hd.out.trans (by simp only [yH, h1, Bool.false_and]));have H1 := qQ h1; clear h1;go_wp2_with fail;refine wp_region_noPanic ?_;refine wp_region_held_drew (S := fun w' => (w'.cell? ⟨b, o + j * 2, none⟩ = some (.slice A1 xs[j].lo.length c1) /\ w'.cell? ⟨b, o + j * 2 + 1, none⟩ = some (.slice A2 xs[j].hi.length c2)) /\ (w'.cell? ⟨b', o' + j * 2, none⟩ = some (.slice A1' ys[j].lo.length c1') /\ w'.cell? ⟨b', o' + j * 2 + 1, none⟩ = some (.slice A2' ys[j].hi.length c2'))) (by kernel_rfl) (⟨⟨k0, k1⟩, ⟨k0', k1'⟩⟩) (fun hHeld => ?_);refine goR 0 hHeld ?_;refine goR 1 hHeld ?_;refine goR 2 hHeld ?_;refine goR 3 hHeld ?_;refine goR 4 hHeld ?_;refine goR 5 hHeld ?_;refine goR 6 hHeld ?_;refine goR 7 hHeld ?_;refine goR 8 hHeld ?_;refine goR 9 hHeld ?_;refine zF (i := 10) rfl (by kernel_rfl) (qK rfl) (fun K hK => ?_);go_simp
     (refine (wT (Q1.out.drewN 1) (Q1'.out.drewN 1)).mono ?_; rintro e w1 ⟨he, b1⟩; rw [H1.out] at he; subst he; replace b1 := qL b1)
     go_wp2_with fail;refine hK.out _ _ (by refine ⟨⟨?_, ?_⟩, ⟨?_, ?_⟩⟩ <;> (first | (rw [b1.cell hbl]; assumption) | (rw [b1.cell hbl']; assumption))) (fun hHeld => ?_);clear hK K
     try simp only [Act.put, aq0, aq1, aq2]
     refine goR 11 hHeld ?_;refine goR 12 hHeld ?_;refine goS 13 hHeld ?_;refine goS 14 hHeld ?_;refine goS 15 hHeld ?_;refine goS 16 hHeld ?_;refine goS 17 hHeld ?_;refine goS 18 hHeld ?_;refine goS 19 hHeld ?_;refine goS 20 hHeld ?_;refine goS 21 hHeld ?_;refine goS 22 hHeld ?_;refine goS 23 hHeld ?_;refine goS 24 hHeld ?_;refine goR 25 hHeld ?_;refine wpAnyH_done (by kernel_rfl) ?_ _;refine NoPanic.normal ?_;have S1 := qY hb b1;go_wp2;go_ret;exact ⟨qH (by rw [HI.out, HX.out]), S1⟩
    | true =>
     have HX := qQ (show yC yH (xs.drop j) (ys.drop j) = (yG xs[j].hi ys[j].hi && yC yH (xs.drop (j + 1)) (ys.drop (j + 1))) from hd.out.trans (by simp only [yH, h1, Bool.true_and]));have H1 := qQ h1; clear h1;go_wp2_with fail;refine wp_region_noPanic ?_;refine wp_region_held_drew (S := fun w' => (w'.cell? ⟨b, o + j * 2, none⟩ = some (.slice A1 xs[j].lo.length c1) /\ w'.cell? ⟨b, o + j * 2 + 1, none⟩ = some (.slice A2 xs[j].hi.length c2)) /\ (w'.cell? ⟨b', o' + j * 2, none⟩ = some (.slice A1' ys[j].lo.length c1') /\ w'.cell? ⟨b', o' + j * 2 + 1, none⟩ = some (.slice A2' ys[j].hi.length c2'))) (by kernel_rfl) (⟨⟨k0, k1⟩, ⟨k0', k1'⟩⟩) (fun hHeld => ?_);refine goR 0 hHeld ?_;refine goR 1 hHeld ?_;refine goR 2 hHeld ?_;refine goR 3 hHeld ?_;refine goR 4 hHeld ?_;refine goR 5 hHeld ?_;refine goR 6 hHeld ?_;refine goR 7 hHeld ?_;refine goR 8 hHeld ?_;refine goR 9 hHeld ?_;refine zF (i := 10) rfl (by kernel_rfl) (qK rfl) (fun K hK => ?_);go_simp
     (refine (wT (Q1.out.drewN 1) (Q1'.out.drewN 1)).mono ?_; rintro e w1 ⟨he, b1⟩; rw [H1.out] at he; subst he; replace b1 := qL b1)
     go_wp2_with fail;refine hK.out _ _ (by refine ⟨⟨?_, ?_⟩, ⟨?_, ?_⟩⟩ <;> (first | (rw [b1.cell hbl]; assumption) | (rw [b1.cell hbl']; assumption))) (fun hHeld => ?_);clear hK K
     try simp only [Act.put, aq0, aq1, aq2]
     refine goR 11 hHeld ?_;refine goR 12 hHeld ?_;refine goG 13 hHeld ?_;refine goG 14 hHeld ?_;refine goG 15 hHeld ?_;refine goG 16 hHeld ?_;refine goG 17 hHeld ?_;refine goG 18 hHeld ?_;refine goG 19 hHeld ?_;refine goG 20 hHeld ?_;refine goG 21 hHeld ?_;refine goG 22 hHeld ?_;refine zF (i := 23) rfl (by kernel_rfl) (by kernel_rfl) (fun K hK => ?_);go_simp
     (refine (wT (Q2.out.below b1) (Q2'.out.below b1)).mono ?_; rintro e w2 ⟨rfl, b2⟩)
     go_wp2_with fail;refine hK.out _ _ (by refine ⟨⟨?_, ?_⟩, ⟨?_, ?_⟩⟩ <;> (first | (rw [b2.cell (qZ hbl b1.size), b1.cell hbl]; assumption) | (rw [b2.cell (qZ hbl' b1.size), b1.cell hbl']; assumption))) (fun hHeld => ?_);clear hK K
     try simp only [Act.put, aq0, aq1, aq2]
     refine goG 24 hHeld ?_;refine goR 25 hHeld ?_;refine wpAnyH_done (by kernel_rfl) ?_ _;refine NoPanic.normal ?_;have S1 := qY (qY hb b1) b2;clear b1 b2
     cases h2 : yG xs[j].hi ys[j].hi with
     | false =>
      have HY := qQ (HX.out.trans (by rw [h2, Bool.false_and])); clear h2;go_wp2;go_ret;exact ⟨qH (by rw [HI.out, HY.out]), S1⟩
     | true =>
      have HY := qQ (HX.out.trans (by rw [h2, Bool.true_and])); clear h2;go_wp2;go_roundw
      case rel => exact ⟨j + 1, by omega, by go_num, by rw [HI.out, HY.out], S1⟩
      case measure => simp [intOf]; omega
   ·have hjj : j = xs.length := by omega
    subst hjj;go_wp2;go_ret;exact ⟨qH (by rw [HI.out, List.drop_length, HL.out, List.drop_length]; rfl), hb⟩
 ·have hl1 : ((xs.length : Int) != (ys.length : Int)) = true := by simp; omega
  have HR := qQ (qXK yH xs ys hl); clear hl;go_enter Tryz.func55, Tryz.ntmps55;go_wp2;go_ret;exact ⟨qH HR.out.symm, bel⟩
theorem qFT {x y : Lp} {cs cs' : List Value} (h : Rep w x.d cs bs) (h' : Rep w y.d cs' bs') :
  Calls Tryz.prog 105 (#[.agg cs.toArray, .agg cs'.toArray] ++ #[]) w fun e w' => e = .returned (.bool (yH x y)) /\ Below w.heap.size w w' := by
 show Calls Tryz.prog 105 #[.agg cs.toArray, .agg cs'.toArray] w _;obtain ⟨A1, c1, A2, c2, d1, d2, rfl, rfl, g1, g2⟩ := Rep.lp_iff.1 h;obtain ⟨A1', c1', A2', c2', d1', d2', rfl, rfl, g1', g2'⟩ := Rep.lp_iff.1 h';have Q1 := qQ g1; have Q2 := qQ g2; have Q1' := qQ g1'; have Q2' := qQ g2';clear h h' g1 g2 g1' g2'
 cases h1 : yG x.lo y.lo with
 | false =>
  have HX := qQ (show yH x y = false by simp [yH, h1]);have H1 := qQ h1; clear h1;go_enter Tryz.func105, Tryz.ntmps105;go_wp2_with fail;refine (vM (p := xH) (Q1.out.below bel) (Q1'.out.below bel) yW fun x y cs bs cs' bs' W _ _ _ r r' => yV r r').mono ?_;rintro e w1 ⟨he, b1⟩;rw [show yC xH x.lo y.lo = false from H1.out] at he;subst he;go_wp2;go_ret;exact ⟨qH HX.out.symm, bel⟩
 | true =>
  have HX := qQ (show yH x y = yG x.hi y.hi by simp [yH, h1]);have H1 := qQ h1; clear h1;go_enter Tryz.func105, Tryz.ntmps105;go_wp2_with fail;refine (vM (p := xH) (Q1.out.below bel) (Q1'.out.below bel) yW fun x y cs bs cs' bs' W _ _ _ r r' => yV r r').mono ?_;rintro e w1 ⟨he, b1⟩;rw [show yC xH x.lo y.lo = true from H1.out] at he;subst he;have P1 : Box2 w1 w.heap.size (.slice A1 x.lo.length c1) (.slice A2 x.hi.length c2) := by
   refine ⟨?_, ?_⟩ <;> (rw [b1.cell (by simp; try omega)]; go_simp)
  have P2 : Box2 w1 (w.heap.size + 1) (.slice A1' y.lo.length c1') (.slice A2' y.hi.length c2') := by
   refine ⟨?_, ?_⟩ <;> (rw [b1.cell (by simp; try omega)]; go_simp)
  have S1 : Below w.heap.size w w1 := bel;clear b1;go_wp2_with fail;refine (vM (p := xH) (Q2.out.below S1) (Q2'.out.below S1) yW fun x y cs bs cs' bs' W _ _ _ r r' => yV r r').mono ?_;rintro e w2 ⟨rfl, b2⟩;go_wp2;go_ret;exact ⟨qH HX.out.symm, bel⟩
theorem qFS : xD Tryz.prog 105 := fun args W => by go_simp
theorem qQI {xs ys : List Lp} (h : Rep w (sls Lp.d xs) [.slice A n c] bs) (h' : Rep w (sls Lp.d ys) [.slice B m d] bs') :
  Calls Tryz.prog 57 #[.slice A n c, .slice B m d] w fun e w' => e = .returned (.bool (uM xs ys)) /\ Below w.heap.size w w' := by
 have H := qQ h; clear h;have H' := qQ h'; clear h';go_enter Tryz.func57, Tryz.ntmps57;go_wp2_with fail;refine (qJO (p := yH) H.out H'.out qFS fun x y cs bs cs' bs' W _ _ _ r r' => qFT r r').mono ?_;rintro e w1 ⟨rfl, b1⟩;go_wp2;go_ret;exact ⟨rfl, b1⟩
end
def hitU (k : Int) (a b : In) : Bool := decide (a.part = k) && (decide (b.part = k + 1) && uE b.point a.point)
def wR (p : Pgm) (k : Int) (d : Dp) : Bool := hitU k (qND (qM p) d.from_) (qND (qM p) d.to_)
def badU (p : Pgm) (k : Int) : Bool := (qKA (zJ p)).any (wR p k)
def qKB (p : Pgm) (k : Nat) : Pgm := wH p k 2 [⟨(prtF p k).nest, (prtF p k).body ++ (prtF p ((k : Int) + 1)).body⟩]
def qQM (p : Pgm) (k : Int) : Bool := zK p && (inB k 0 ((p.parts.length : Int) - 2) && uM (prtF p k).nest (prtF p (k + 1)).nest)
def zT (p : Pgm) (k : Int) : Pgm × Bool :=
 if qQM p k = true then (if badU p k = true then (⟨[], []⟩, false) else finF (qKB p k.toNat)) else (⟨[], []⟩, false)
theorem qKR {p : Pgm} {k : Int} (h : qQM p k = false) : zT p k = (⟨[], []⟩, false) := by
 unfold zT; rw [h]; rfl
theorem qDF {p : Pgm} {k : Int} (h : badU p k = true) : zT p k = (⟨[], []⟩, false) := by
 unfold zT; rw [h]; split <;> rfl
theorem qRO {p : Pgm} {k : Nat} (h : qQM p k = true) (hb : badU p k = false) : zT p (k : Int) = finF (qKB p k) := by
 unfold zT; rw [if_pos h, hb, Int.toNat_natCast]; rfl
theorem wD {p : Pgm} {k : Nat} (h : k + 1 < p.parts.length) : prtF p ((k : Int) + 1) = p.parts[k + 1] := by
 rw [show ((k : Int) + 1) = ((k + 1 : Nat) : Int) from rfl, jC h]
theorem qKC {p : Pgm} {k : Int} (h : qQM p k = true) : zK p = true /\ ∃ q : Nat, k = (q : Int) /\ ∃ hq : q + 1 < p.parts.length, uM p.parts[q].nest p.parts[q + 1].nest = true := by
 simp only [qQM, Bool.and_eq_true] at h;obtain ⟨h1, h2, h3⟩ := h;have h2 := uZ.1 h2;obtain ⟨q, rfl⟩ := Int.eq_ofNat_of_zero_le h2.1;have hq : q + 1 < p.parts.length := by omega
 rw [jC (show q < p.parts.length by omega), wD hq] at h3;exact ⟨h1, q, rfl, hq, h3⟩
theorem qLH {p : Pgm} {k : Nat} (hv : zK p = true) (hk : k + 1 < p.parts.length) (hn : uM p.parts[k].nest p.parts[k + 1].nest = true) : qQM p (k : Int) = true := by
 rw [qQM, hv, uH (by omega) (by omega), jC (show k < p.parts.length by omega), wD hk, hn]; rfl
def All3 {α β γ : Type} (R : α -> β -> γ -> Prop) : List α -> List β -> List γ -> Prop
 | [], [], [] => True
 | a :: us, b :: bs, c :: cs => R a b c /\ All3 R us bs cs
 | _, _, _ => False
abbrev Lies (α : Type) := World -> Value -> α -> List Nat -> Prop
def LI (B : Nat) (e : TypeId) : Lies (List Int) := fun w v xs bs => w.ownsRow B e 1 v xs.length (xs.map (Value.int .i64 ·)) /\ (∀ x ∈ xs, I64 x) /\ bs = ownL v
def LL {α : Type} (B : Nat) (e : TypeId) (T : Lies α) : Lies (List α) := fun w v xs bs => ∃ vs bss, w.ownsRow B e 1 v xs.length vs /\ All3 (T w) vs xs bss /\ bs = ownL v ++ bss.flatten
section
variable {α : Type} {P : Program} {w w' : World} {B : Nat} {e : TypeId} {T : Lies α} {v : Value} {xs : List α} {x : α} {bs : List Nat}
theorem qPY {size n : Nat} {es : List Value} (h : w.ownsRow B e size v n es) (hs : ∀ y ∈ ownL v, w'.heap[y]? = w.heap[y]?) : w'.ownsRow B e size v n es := jU h fun g hg => hs g (qU.2 hg)
end
abbrev T1 (B : Nat) : Lies (List (List Int)) := LL B 39 (LI B 3)
abbrev T2 (B : Nat) : Lies (List (List (List Int))) := LL B 91 (T1 B)
theorem qDG {w : World} {p : Pgm} {cs : List Value} {bs : List Nat} {k : Int} (h : Rep w p.d cs bs) :
  Calls Tryz.prog 80 #[.agg cs.toArray, .int .i64 k] w fun e w' => e = .returned (.bool (inB k 0 ((p.parts.length : Int) - 1))) /\ Below w.heap.size w w' := by
 obtain ⟨A1, c1, A2, c2, d1, d2, rfl, rfl, g1, g2⟩ := Rep.pgm_iff.1 h;have Garrays := qQ g1;have Gparts := qQ g2;clear h g1 g2;have hn : p.parts.length <= 9223372036854775807 := qX Gparts.out.sls_len.2.1 Gparts.out.sls_len.2.2;go_enter Tryz.func80, Tryz.ntmps80;go_wp2_with fail;refine (xX _ _ _ _).mono ?_;rintro e w' ⟨rfl, rfl⟩;go_wp2;go_ret;exact ⟨rfl, bel⟩
def qAU (w : World) (p : Pgm) (k : Nat) (e : Ending) (w' : World) : Prop := ∃ (A1 : Option Addr) (c1 g c2 : Nat) (d1 : List Nat) (B : Nat), e = .returned (.tuple #[.agg #[.slice A1 p.arrays.length c1, .slice (some ⟨g, 0, none⟩) p.parts.length c2], .pointer (some ⟨g, k * 2, none⟩), .bool true]) /\ Rep w' (sls Ar.d p.arrays) [.slice A1 p.arrays.length c1] d1 /\ (∀ y ∈ d1, w.heap.size <= y /\ y < B) /\ yA PrtO w' B 54 2 (.slice (some ⟨g, 0, none⟩) p.parts.length c2) p.parts /\ w.heap.size <= B /\ Below w.heap.size w w'
theorem qCV {w : World} {p : Pgm} {k : Int} {cs : List Value} {bs : List Nat} (h : Rep w p.d cs bs) (hk : (zK p && inB k 0 ((p.parts.length : Int) - 1)) = false) :
  Calls Tryz.prog 36 #[.agg cs.toArray, .int .i64 k, .int .i64 (-1)] w fun e w' => e = .returned (.tuple #[.agg #[.slice none 0 0, .slice none 0 0], .pointer none, .bool false]) /\ Below w.heap.size w w' := by
 have HH := qQ h;obtain ⟨A1, c1, A2, c2, d1, d2, rfl, rfl, g1, g2⟩ := Rep.pgm_iff.1 h;clear g1 g2 h
 cases hv : zK p with
 | false =>
  have HV := qQ hv; clear hv hk;go_enter Tryz.func36, Tryz.ntmps36;go_wp2_with fail;refine (xL (HH.out.below bel)).mono ?_;rintro e w1 ⟨rfl, b1⟩;rw [HV.out];have X1 : BoxW w1 (w.heap.size + 1) (.slice none 0 0) (.slice none 0 0) := BoxW.to ⟨⟨by go_simp, by go_simp⟩, by go_simp, by go_simp⟩ b1;have S1 : Below w.heap.size w w1 := bel;clear b1;obtain ⟨⟨m1, m2⟩, m3, m4⟩ := X1;have lt1 := qW m1;go_wp2;exact bodyPost_ret (v := .tuple #[.agg #[.slice none 0 0, .slice none 0 0], .pointer none, .bool false]) (by simp [results, Tryz.results36, go_sem, m1, m2]) rfl ⟨rfl, (S1.setCell (by simp) _).setCell (by simp) _⟩
 | true =>
  rw [hv, Bool.true_and] at hk;have HV := qQ hv; have HK := qQ hk; clear hv hk;go_enter Tryz.func36, Tryz.ntmps36;go_wp2_with fail;refine (xL (HH.out.below bel)).mono ?_;rintro e w1 ⟨rfl, b1⟩;rw [HV.out];have X0 : BoxW w1 w.heap.size (.slice A1 p.arrays.length c1) (.slice A2 p.parts.length c2) := BoxW.to ⟨⟨by go_simp, by go_simp⟩, by go_simp, by go_simp⟩ b1;have X1 : BoxW w1 (w.heap.size + 1) (.slice none 0 0) (.slice none 0 0) := BoxW.to ⟨⟨by go_simp, by go_simp⟩, by go_simp, by go_simp⟩ b1;have S1 : Below w.heap.size w w1 := bel;clear b1;have HX1 := qQ X1; clear X1;obtain ⟨⟨p1, p2⟩, _, _⟩ := X0;have lt0 := qW p1;go_wp2_with fail;refine (qDG (HH.out.below S1)).mono ?_;rintro e w2 ⟨rfl, b2⟩;rw [HK.out];have S2 : Below w.heap.size w w2 := qY S1 b2;obtain ⟨⟨m1, m2⟩, m3, m4⟩ := HX1.out.to b2;have lt1 := qW m1;clear b2;go_wp2;exact bodyPost_ret (v := .tuple #[.agg #[.slice none 0 0, .slice none 0 0], .pointer none, .bool false]) (by simp [results, Tryz.results36, go_sem, m1, m2]) rfl ⟨rfl, (S2.setCell (by simp) _).setCell (by simp) _⟩
theorem qFH {w : World} {p : Pgm} {k : Nat} {cs : List Value} {bs : List Nat} (h : Rep w p.d cs bs) (hv : zK p = true) (hk : k < p.parts.length) :
  Calls Tryz.prog 36 #[.agg cs.toArray, .int .i64 (k : Int), .int .i64 (-1)] w (qAU w p k) := by
 have HH := qQ h;obtain ⟨A1, c1, A2, c2, d1, d2, rfl, rfl, g1, g2⟩ := Rep.pgm_iff.1 h;clear g1 g2 h;have HK := qQ (show inB (k : Int) 0 ((p.parts.length : Int) - 1) = true from uH (by omega) (by omega));have HS := qQ (wS hv);have hpn : p.parts.length <= 1000000 := HS.out.2.2.1;have HV := qQ hv; clear hv;go_enter Tryz.func36, Tryz.ntmps36;go_wp2_with fail;refine (xL (HH.out.below bel)).mono ?_;rintro e w1 ⟨rfl, b1⟩;rw [HV.out];have X0 : BoxW w1 w.heap.size (.slice A1 p.arrays.length c1) (.slice A2 p.parts.length c2) := BoxW.to ⟨⟨by go_simp, by go_simp⟩, by go_simp, by go_simp⟩ b1;have X1 : BoxW w1 (w.heap.size + 1) (.slice none 0 0) (.slice none 0 0) := BoxW.to ⟨⟨by go_simp, by go_simp⟩, by go_simp, by go_simp⟩ b1;have S1 : Below w.heap.size w w1 := bel;clear b1;have HX1 := qQ X1; clear X1;have HX0 := qQ X0;obtain ⟨⟨p1, p2⟩, _, _⟩ := X0;have lt0 := qW p1;go_wp2_with fail;refine (qDG (HH.out.below S1)).mono ?_;rintro e w2 ⟨rfl, b2⟩;rw [HK.out];have S2 : Below w.heap.size w w2 := qY S1 b2;have HY1 := qQ (HX1.out.to b2); clear HX1;clear p1 p2 lt0;obtain ⟨⟨p1, p2⟩, _, _⟩ := HX0.out.to b2;have lt0 := qW p1;clear b2 HX0;go_wp2_with fail;refine (qCM (HH.out.below S2) HS.out).mono ?_;rintro e w3 ⟨A1r, c1r, d1, vv, BB, rfl, r3, nd3, hd3, hG3, hBB, b3⟩;obtain ⟨bb, c2r, rfl⟩ : ∃ bb c2r, vv = .slice (some ⟨bb, 0, none⟩) p.parts.length c2r := by
  obtain ⟨es, cb, h1, _⟩ := hG3;rcases h1.2 with ⟨_, h0⟩ | ⟨g, cap, cur, h0, _⟩
  ·omega
  ·exact ⟨g, cap, h0⟩
 obtain ⟨⟨m1, m2⟩, m3, m4⟩ := HY1.out.to b3;have z1 : w.heap.size + 2 <= w2.heap.size := qW HY1.out.1.1;have lt1 := qW m1;have S3 : Below w.heap.size w w3 := qY S2 b3;have hnb : w.heap.size + 1 ∉ d1 := fun hm => by have := (hd3 _ hm).1; omega
 have HY3 := qQ (HY1.out.to b3);clear m1 m2 m3 m4;have R3 := qQ r3;obtain ⟨w4, hw4⟩ : ∃ w4, w4 = w3.alloc (.cells #[.slice A1r p.arrays.length c1r, .slice (some ⟨bb, 0, none⟩) p.parts.length c2r] 30) := ⟨_, rfl⟩;have b4 : Below w3.heap.size w3 w4 := by rw [hw4]; exact (Below.refl _ _).alloc (qJ _) _
 have Q3 : Box2 w4 w3.heap.size (.slice A1r p.arrays.length c1r) (.slice (some ⟨bb, 0, none⟩) p.parts.length c2r) := by rw [hw4]; exact Box2.new w3 _ _ _
 have Q1 := HY3.out.to b4;have R4 := qQ (R3.out.below b4);have G4 := qQ (hG3.below PrtO.ek b4);have HB := qQ (qV hd3 hBB);have S4 : Below w.heap.size w w4 := qY S3 b4;clear hG3 hd3 hBB nd3;clear r3 b3 R3 HY3 b4;go_wp2_with fail;rw [<- hw4];clear hw4;obtain ⟨⟨m1, m2⟩, m3, m4⟩ := Q1;have lt1 := qW m1;obtain ⟨g, hg⟩ : ∃ g, g = w3.heap.size := ⟨_, rfl⟩;have hne : w.heap.size + 1 ≠ g := by have := qW HY1.out.1.1; have := S3.size; omega
 have hne2 : ¬ g = w.heap.size + 1 := fun h => hne h.symm;rw [<- hg] at Q3 ⊢;clear hg;refine wp_region_noPanic ?_;refine wp_region_held_drew (S := fun w' => Box2 w' g (.slice A1r p.arrays.length c1r) (.slice (some ⟨bb, 0, none⟩) p.parts.length c2r)) (by kernel_rfl) (Q3) (fun hHeld => ?_);refine goR 0 hHeld ?_;refine goR 1 hHeld ?_;refine goR 2 hHeld ?_;refine goR 3 hHeld ?_;refine goR 4 hHeld ?_;refine zF (i := 5) rfl (by kernel_rfl) (qK rfl) (fun K hK => ?_)
 (unfold Oper.wp; go_simp)
 refine hK.out _ _ ((Box2.set (Box2.set hHeld (by simp; omega) _) (by simp; omega) _)) (fun hHeld => ?_);clear hK K
 try simp only [Act.put, aq0, aq1, aq2]
 refine goR 6 hHeld ?_;refine goR 7 hHeld ?_;refine wpAnyH_done (by kernel_rfl) ?_ _;refine NoPanic.normal ?_;go_wp2;exact bodyPost_ret (v := .tuple #[.agg #[.slice A1r p.arrays.length c1r, .slice (some ⟨bb, 0, none⟩) p.parts.length c2r], .pointer (some ⟨bb, k * 2, none⟩), .bool true]) (by simp [results, Tryz.results36, go_sem, m1, m2]) rfl ⟨A1r, c1r, bb, c2r, d1, BB, rfl, Rep.drewN (Rep.keep _ R4.out (((qD.refl _ _).setCell hnb _).setCell hnb _)) 1, fun y hy => ⟨by have := (HB.out.1 y hy).1; omega, (HB.out.1 y hy).2⟩, ((G4.out.set_low PrtO.ek (p := ⟨w.heap.size + 1, 0, none⟩) (by have := HB.out.2; simp; omega) _).set_low PrtO.ek (p := ⟨w.heap.size + 1, 1, none⟩) (by have := HB.out.2; simp; omega) _).kept PrtO.ek (qJ _) (fun _ _ _ => rfl), by have := HB.out.2; omega, ((S4.setCell (by simp) _).setCell (by simp) _).drew⟩
end Go.Proofs.YtgogjbnneoadkaaGreat
