/- Programs in plain Lean: which are valid, their instances, what the instances touch. -/
import Derived.Test.YtgogjbnneoadkaaGreatZfTyArray
import Derived.Test.YtgogjbnneoadkaaGreatZfTyPart
import Derived.Test.YtgogjbnneoadkaaGreatZfCopy
import Derived.Test.YtgogjbnneoadkaaGreatZfBasic
import Derived.Test.YtgogjbnneoadkaaGreatZfReads
set_option linter.all false
set_option maxHeartbeats 4000000
set_option maxRecDepth 100000
namespace Go.Proofs.YtgogjbnneoadkaaGreat
open Go.ChangeShapes Go.WideShapes Go.ChangeAt Go.RowKit Go.Deep
structure Pgm where
 arrays : List Ar
 parts : List Prt
def Pgm.d (x : Pgm) : D := .st [sls Ar.d x.arrays, sls Prt.d x.parts]
theorem Rep.pgm_iff {w : World} {x : Pgm} {cs : List Value} {bs : List Nat} : Rep w x.d cs bs ↔ ∃ (A1 : Option Addr) (c1 : Nat) (A2 : Option Addr) (c2 : Nat) (d1 : List Nat) (d2 : List Nat), cs = [.slice A1 x.arrays.length c1, .slice A2 x.parts.length c2] /\ bs = d1 ++ d2 /\ Rep w (sls Ar.d x.arrays) [.slice A1 x.arrays.length c1] d1 /\ Rep w (sls Prt.d x.parts) [.slice A2 x.parts.length c2] d2 := by
 constructor
 ·intro h
  replace h : Reps w [sls Ar.d x.arrays, sls Prt.d x.parts] cs bs := h;obtain ⟨_, _, _, _, rfl, rfl, g1, h⟩ := h;obtain ⟨_, _, _, _, rfl, rfl, g2, h⟩ := h;obtain ⟨rfl, rfl⟩ := h;obtain ⟨B1, e1, rfl, _⟩ := g1.sls_form;obtain ⟨B2, e2, rfl, _⟩ := g2.sls_form;exact ⟨_, _, _, _, _, _, rfl, by simp, g1, g2⟩
 ·rintro ⟨A1, c1, A2, c2, d1, d2, rfl, rfl, g1, g2⟩
  have h : Reps w [sls Ar.d x.arrays, sls Prt.d x.parts] _ _ := ⟨_, _, _, _, rfl, rfl, g1, ⟨_, _, _, _, rfl, rfl, g2, ⟨rfl, rfl⟩⟩⟩;simpa using (show Rep w x.d _ _ from h)
theorem jO {w : World} {x : Pgm} {cs cs' : List Value} {bs bs' : List Nat} (h : Rep w x.d cs bs) (h' : Rep w x.d cs' bs') :
  Calls Tryz.prog 12 #[.agg cs.toArray, .agg cs'.toArray] w fun e w' => e = .returned (.bool true) /\ Below w.heap.size w w' := by
 have H := qQ h;have H' := qQ h';obtain ⟨A1, c1, A2, c2, d1, d2, rfl, rfl, g1, g2⟩ := Rep.pgm_iff.1 h;obtain ⟨A1', c1', A2', c2', d1', d2', rfl, rfl, g1', g2'⟩ := Rep.pgm_iff.1 h';have G1 := qQ g1;have G1' := qQ g1';have G2 := qQ g2;have G2' := qQ g2';clear h h' H H' g1 g1' g2 g2';go_enter Tryz.func12, Tryz.ntmps12;go_wp2_with fail;refine (qSI (G1.out.below bel) (G1'.out.below bel)).mono ?_;rintro e w1 ⟨rfl, b1⟩;have P1 : Box2 w1 w.heap.size (.slice A1 x.arrays.length c1) (.slice A2 x.parts.length c2) := by
  refine ⟨?_, ?_⟩ <;> (rw [b1.cell (by simp; try omega)]; go_simp)
 have Q1 : Box2 w1 (w.heap.size + 1) (.slice A1' x.arrays.length c1') (.slice A2' x.parts.length c2') := by
  refine ⟨?_, ?_⟩ <;> (rw [b1.cell (by simp; try omega)]; go_simp)
 have S1 : Below w.heap.size w w1 := bel;clear b1;go_wp2_with fail;refine (qLS (G2.out.below bel) (G2'.out.below bel)).mono ?_;rintro e w2 ⟨rfl, b2⟩;have P2 := P1.to b2; clear P1;have Q2 := Q1.to b2; clear Q1;have S2 := qY S1 b2;clear b2;go_wp2;go_ret;exact ⟨rfl, bel⟩
theorem qKZ (x : Pgm) : szD x.d = szD (sls Ar.d x.arrays) + szD (sls Prt.d x.parts) := by
 have h : szD x.d = szDs [sls Ar.d x.arrays, sls Prt.d x.parts] := by simp only [Pgm.d, szD]
 rw [h]; simp only [szDs, szD, yI]; omega
theorem qUL {w : World} {x : Pgm} {cs : List Value} {bs : List Nat} {left : Int} (h : Rep w x.d cs bs) (h0 : 0 <= left) (h1 : left <= 1048576) :
  Calls Tryz.prog 8 #[.agg cs.toArray, .int .i64 left] w fun e w' => e = .returned (.int .i64 (szR left (szD x.d))) /\ Below w.heap.size w w' := by
 obtain ⟨A1, c1, A2, c2, d1, d2, rfl, rfl, g1, g2⟩ := Rep.pgm_iff.1 h;rw [qKZ x];have G1 := qQ g1;have G2 := qQ g2;clear h g1 g2;by_cases hs0 : (left : Int) - ((szD (sls Ar.d x.arrays) : Nat) : Int) < 0
 ·have HR := qQ (show szR left (szD (sls Ar.d x.arrays) + szD (sls Prt.d x.parts)) = -1 from qA (by omega))
  have HS0 := qQ (qA hs0);go_enter Tryz.func8, Tryz.ntmps8;go_wp2_with fail;refine (qXM (G1.out.below bel) (by omega) (by omega)).mono ?_;rintro e w1 ⟨rfl, b1⟩;rw [HS0.out];have P1 : Box2 w1 w.heap.size (.slice A1 x.arrays.length c1) (.slice A2 x.parts.length c2) := by
   refine ⟨?_, ?_⟩ <;> (rw [b1.cell (by simp; try omega)]; go_simp)
  have S1 : Below w.heap.size w w1 := bel;clear b1;go_wp2;go_ret;exact ⟨qF HR.out.symm, bel⟩
 ·have HS0 := qQ (zY (left := left) (tot := szD (sls Ar.d x.arrays)) (by omega))
  have hp0 : 0 <= left - ((szD (sls Ar.d x.arrays) : Nat) : Int) := by omega
  clear hs0;by_cases hs1 : (left - ((szD (sls Ar.d x.arrays) : Nat) : Int) : Int) - ((szD (sls Prt.d x.parts) : Nat) : Int) < 0
  ·have HR := qQ (show szR left (szD (sls Ar.d x.arrays) + szD (sls Prt.d x.parts)) = -1 from qA (by omega))
   have HS1 := qQ (qA hs1);go_enter Tryz.func8, Tryz.ntmps8;go_wp2_with fail;refine (qXM (G1.out.below bel) (by omega) (by omega)).mono ?_;rintro e w1 ⟨rfl, b1⟩;rw [HS0.out];have P1 : Box2 w1 w.heap.size (.slice A1 x.arrays.length c1) (.slice A2 x.parts.length c2) := by
    refine ⟨?_, ?_⟩ <;> (rw [b1.cell (by simp; try omega)]; go_simp)
   have S1 : Below w.heap.size w w1 := bel;clear b1;go_wp2_with fail;refine (qHH (G2.out.below bel) (by omega) (by omega)).mono ?_;rintro e w2 ⟨rfl, b2⟩;rw [HS1.out];have P2 := P1.to b2; clear P1;have S2 := qY S1 b2;clear b2;go_wp2;go_ret;exact ⟨qF HR.out.symm, bel⟩
  ·have HS1 := qQ (zY (left := left - ((szD (sls Ar.d x.arrays) : Nat) : Int)) (tot := szD (sls Prt.d x.parts)) (by omega))
   have hp1 : 0 <= left - ((szD (sls Ar.d x.arrays) : Nat) : Int) - ((szD (sls Prt.d x.parts) : Nat) : Int) := by omega
   clear hs1;have HR := qQ (show szR left (szD (sls Ar.d x.arrays) + szD (sls Prt.d x.parts)) = left - ((szD (sls Ar.d x.arrays) : Nat) : Int) - ((szD (sls Prt.d x.parts) : Nat) : Int) by rw [zY (by omega)] <;> omega);go_enter Tryz.func8, Tryz.ntmps8;go_wp2_with fail;refine (qXM (G1.out.below bel) (by omega) (by omega)).mono ?_;rintro e w1 ⟨rfl, b1⟩;rw [HS0.out];have P1 : Box2 w1 w.heap.size (.slice A1 x.arrays.length c1) (.slice A2 x.parts.length c2) := by
    refine ⟨?_, ?_⟩ <;> (rw [b1.cell (by simp; try omega)]; go_simp)
   have S1 : Below w.heap.size w w1 := bel;clear b1;go_wp2_with fail;refine (qHH (G2.out.below bel) (by omega) (by omega)).mono ?_;rintro e w2 ⟨rfl, b2⟩;rw [HS1.out];have P2 := P1.to b2; clear P1;have S2 := qY S1 b2;clear b2;go_wp2;go_ret;exact ⟨qF HR.out.symm, bel⟩
theorem qUP {w : World} {x : Pgm} {cs : List Value} {bs : List Nat} (h : Rep w x.d cs bs) (hz : szD x.d <= 10000000) :
  Calls Tryz.prog 10 #[.agg cs.toArray] w (vO w x.d) := by
 rw [qKZ] at hz;obtain ⟨A1, c1, A2, c2, d1, d2, rfl, rfl, g1, g2⟩ := Rep.pgm_iff.1 h;have G1 := qQ g1;have Z1 := qQ (show szD (sls Ar.d x.arrays) <= 10000000 by omega);have G2 := qQ g2;have Z2 := qQ (show szD (sls Prt.d x.parts) <= 10000000 by omega);clear h hz g1 g2;go_enter Tryz.func10, Tryz.ntmps10;go_wp2_with fail;refine (qSK (G1.out.below bel) Z1.out).mono ?_;rintro e w1 ⟨Ar1, nr1, cr1, bs1, rfl, r1, nd1, hy1, b1⟩;obtain ⟨hn1, _, _⟩ := r1.sls_len;subst hn1;have hb1 : ∀ y ∈ bs1, w.heap.size + 3 <= y := fun y hy => by have := hy1 y hy; (try simp [World.setCell] at this); omega
 have PA1 : w1.cell? ⟨w.heap.size, 0, none⟩ = some (.slice A1 x.arrays.length c1) /\ w1.cell? ⟨w.heap.size, 1, none⟩ = some (.slice A2 x.parts.length c2) := by
  refine ⟨?_, ?_⟩ <;> (rw [b1.cell (by simp [World.setCell]; try (omega))]; go_simp)
 have PR1 : w1.cell? ⟨w.heap.size + 1, 0, none⟩ = some (.slice none 0 0) /\ w1.cell? ⟨w.heap.size + 1, 1, none⟩ = some (.slice none 0 0) := by
  refine ⟨?_, ?_⟩ <;> (rw [b1.cell (by simp [World.setCell]; try (omega))]; go_simp)
 have PO1 : w1.cell? ⟨w.heap.size + 2, 0, none⟩ = some (.slice none 0 0) /\ w1.cell? ⟨w.heap.size + 2, 1, none⟩ = some (.slice none 0 0) := by
  refine ⟨?_, ?_⟩ <;> (rw [b1.cell (by simp [World.setCell]; try (omega))]; go_simp)
 have F1 : w1.frozen? ⟨w.heap.size + 1, 0, none⟩ = false /\ w1.frozen? ⟨w.heap.size + 1, 1, none⟩ = false /\ w1.frozen? ⟨w.heap.size + 2, 0, none⟩ = false /\ w1.frozen? ⟨w.heap.size + 2, 1, none⟩ = false := by
  refine ⟨?_, ?_, ?_, ?_⟩ <;> (rw [b1.frozen (by simp [World.setCell]; try (omega))]; go_simp)
 have S1 : Below w.heap.size w w1 := bel;have ZS1 := qQ (show w.heap.size + 3 <= w1.heap.size by have := b1.size; (try simp [World.setCell] at this); omega);have RR1_1 := qQ r1; have HB1 := qQ hb1; have ND1 := qQ nd1; have LT1 := qQ (Rep.lt _ r1);clear r1 hb1 nd1 hy1 b1;go_wp2_with fail;refine (qTS (G2.out.below (by first | with_reducible exact S1 | exact S1.setCell (by simp; try omega) _ | exact (S1.setCell (by simp; try omega) _).setCell (by simp; try omega) _ | exact ((S1.setCell (by simp; try omega) _).setCell (by simp; try omega) _).setCell (by simp; try omega) _)) Z2.out).mono ?_;rintro e w2 ⟨Ar2, nr2, cr2, bs2, rfl, r2, nd2, hy2, b2⟩;obtain ⟨hn2, _, _⟩ := r2.sls_len;subst hn2;have hb2 : ∀ y ∈ bs2, w.heap.size + 3 <= y := fun y hy => by have := hy2 y hy; (try simp [World.setCell] at this); have := ZS1.out; omega
 have hc2 : ∀ y ∈ bs2, w1.heap.size <= y := fun y hy => by have := hy2 y hy; (try simp [World.setCell] at this); omega
 have PA2 : w2.cell? ⟨w.heap.size, 0, none⟩ = some (.slice A1 x.arrays.length c1) /\ w2.cell? ⟨w.heap.size, 1, none⟩ = some (.slice A2 x.parts.length c2) := by
  refine ⟨?_, ?_⟩ <;> (rw [b2.cell (by simp [World.setCell]; try (have := ZS1.out; omega))]; go_simp)
 have PR2 : w2.cell? ⟨w.heap.size + 1, 0, none⟩ = some (.slice none 0 0) /\ w2.cell? ⟨w.heap.size + 1, 1, none⟩ = some (.slice none 0 0) := by
  refine ⟨?_, ?_⟩ <;> (rw [b2.cell (by simp [World.setCell]; try (have := ZS1.out; omega))]; go_simp)
 have PO2 : w2.cell? ⟨w.heap.size + 2, 0, none⟩ = some (.slice Ar1 x.arrays.length cr1) /\ w2.cell? ⟨w.heap.size + 2, 1, none⟩ = some (.slice none 0 0) := by
  refine ⟨?_, ?_⟩ <;> (rw [b2.cell (by simp [World.setCell]; try (have := ZS1.out; omega))]; go_simp)
 have F2 : w2.frozen? ⟨w.heap.size + 1, 0, none⟩ = false /\ w2.frozen? ⟨w.heap.size + 1, 1, none⟩ = false /\ w2.frozen? ⟨w.heap.size + 2, 0, none⟩ = false /\ w2.frozen? ⟨w.heap.size + 2, 1, none⟩ = false := by
  refine ⟨?_, ?_, ?_, ?_⟩ <;> (rw [b2.frozen (by simp [World.setCell]; try (have := ZS1.out; omega))]; go_simp)
 have RR1_2 := qQ (show Rep w2 (sls Ar.d x.arrays) [.slice Ar1 x.arrays.length cr1] bs1 from Rep.below (Rep.keep _ RR1_1.out (by repeat (first | with_reducible exact qD.refl _ _ | refine qD.setCell ?_ (fun hm => by have := HB1.out _ hm; dsimp only at this; omega) _))) b2); clear RR1_1;have S2 : Below w.heap.size w w2 := by
  refine qY (a := _) ?_ b2;exact (by first | with_reducible exact S1 | exact S1.setCell (by simp; try omega) _ | exact (S1.setCell (by simp; try omega) _).setCell (by simp; try omega) _ | exact ((S1.setCell (by simp; try omega) _).setCell (by simp; try omega) _).setCell (by simp; try omega) _)
 have ZS2 := qQ (show w.heap.size + 3 <= w2.heap.size by have := b2.size; (try simp [World.setCell] at this); have := ZS1.out; omega);have ZT2 := qQ (show w1.heap.size <= w2.heap.size by have := b2.size; (try simp [World.setCell] at this); omega);have RR2_2 := qQ r2; have HB2 := qQ hb2; have ND2 := qQ nd2; have LT2 := qQ (Rep.lt _ r2); have HC2 := qQ hc2;clear r2 hb2 nd2 hy2 b2 hc2 PA1 PR1 PO1 F1;have RALL := qQ (show Rep w2 x.d [.slice Ar1 x.arrays.length cr1, .slice Ar2 x.parts.length cr2] (bs1 ++ bs2) from (show ∀ W, Reps W [sls Ar.d x.arrays, sls Prt.d x.parts] ([.slice Ar1 x.arrays.length cr1] ++ ([.slice Ar2 x.parts.length cr2] ++ ([]))) (bs1 ++ (bs2 ++ ([]))) -> Rep W x.d [.slice Ar1 x.arrays.length cr1, .slice Ar2 x.parts.length cr2] (bs1 ++ bs2) from fun W hq => by simpa [List.append_assoc] using (show Rep W x.d _ _ from hq)) _ ⟨_, _, _, _, rfl, rfl, RR1_2.out, ⟨_, _, _, _, rfl, rfl, RR2_2.out, ⟨rfl, rfl⟩⟩⟩);have NDALL := qQ (show (bs1 ++ bs2 : List Nat).Nodup from List.nodup_append.2 ⟨ND1.out, ND2.out, fun y h1 z h2 e => by
   subst e;have h3 := HC2.out y h2
   (have := LT1.out y h1; omega)⟩)
 have HBALL := qQ (show ∀ y ∈ (bs1 ++ bs2 : List Nat), w.heap.size + 3 <= y from (fun y hy => by
  simp only [List.mem_append] at hy;rcases hy with hy | hy
  ·exact HB1.out y hy
  ·exact HB2.out y hy))
 clear RR1_2 HB1 ND1 LT1 RR2_2 HB2 ND2 LT2 HC2 ZT2;go_wp2;refine bodyPost_ret (v := .agg #[.slice Ar1 x.arrays.length cr1, .slice Ar2 x.parts.length cr2]) (by simp [results, Tryz.results10, go_sem, PR2, PO2]) rfl ⟨[.slice Ar1 x.arrays.length cr1, .slice Ar2 x.parts.length cr2], bs1 ++ bs2, rfl, ?_, NDALL.out, fun y hy => by have := HBALL.out y hy; omega, ?_⟩
 ·exact Rep.keep _ RALL.out (by repeat (first | with_reducible exact qD.refl _ _ | refine qD.setCell ?_ (fun hm => by have := HBALL.out _ hm; dsimp only at this; omega) _))
 ·exact (by repeat (first | with_reducible exact S2 | refine Below.setCell ?_ (by simp; try omega) _))
def qHX (w : World) (x : Pgm) (e : Ending) (w' : World) : Prop := ∃ (A1 : Option Addr) (c1 : Nat) (A2 : Option Addr) (c2 : Nat) (bs : List Nat), e = .returned (.agg #[.slice A1 x.arrays.length c1, .slice A2 x.parts.length c2]) /\ Rep w' x.d [.slice A1 x.arrays.length c1, .slice A2 x.parts.length c2] bs /\ bs.Nodup /\ (∀ b ∈ bs, w.heap.size <= b) /\ Below w.heap.size w w'
theorem qHX.of {w w' : World} {x : Pgm} {e : Ending} (h : vO w x.d e w') : qHX w x e w' := by
 obtain ⟨cs, bs, rfl, r, h1, h2, h3⟩ := h;have r2 := r;obtain ⟨A1, c1, A2, c2, d1, d2, rfl, _⟩ := Rep.pgm_iff.1 r2;exact ⟨_, _, _, _, _, rfl, r, h1, h2, h3⟩
theorem jN {w : World} {x : Pgm} {cs : List Value} {bs : List Nat} (h : Rep w x.d cs bs) (hn : szD x.d <= 1048576) : Calls Tryz.prog 10 #[.agg cs.toArray] w (qHX w x) := (qUP h (by omega)).mono fun _ _ h => qHX.of h
theorem qVG {w : World} {x : Pgm} {cs : List Value} {bs : List Nat} {left : Int} (h : Rep w x.d cs bs) (h0 : 0 <= left) (h1 : left <= 1048576) : Calls Tryz.prog 8 #[.agg cs.toArray, .int .i64 left] w fun e w' => e = .returned (.int .i64 (szR left (szD x.d))) /\ Below w.heap.size w w' := qUL h h0 h1
theorem qJB {w : World} {xs : List Lp} {A : Option Addr} {n c : Nat} {bs : List Nat} (h : Rep w (sls Lp.d xs) [.slice A n c] bs) :
  Calls Tryz.prog 141 #[.slice A n c] w (vP w (qN xs)) := by
 have HLT := qQ (Rep.lt _ h);obtain ⟨rfl, _, _⟩ := h.sls_len;have H := qQ h; clear h
 cases hv : qB xs with
 | false =>
  rw [qXD hv];have HV := qQ hv; clear hv;go_enter Tryz.func141, Tryz.ntmps141;go_wp2_with fail;refine (wL H.out).mono ?_;rintro e w1 ⟨rfl, b1⟩;rw [HV.out];go_wp2;go_ret2;exact vP.of_grow (e := 39) (r := ([], false)) (Grow.nil _ _ _ _) b1
 | true =>
 have hok := qKH hv;have HV := qQ hv; clear hv;have HOK := qQ hok.2;have h4 := hok.1; clear hok;go_enter Tryz.func141, Tryz.ntmps141;go_wp2_with fail;refine (wL H.out).mono ?_;rintro e w1 ⟨rfl, b1⟩;rw [HV.out];go_wp2_with fail;go_at_call 181;refine (qRA xs xs [] [] _ A none xs.length c 0 0 bs [] (w1.heap.size + 1) w1.heap.size 0 (.slice none 0 0) [] rfl rfl h4 HOK.out PtB.nil (by omega) (by omega) (by simp) ?h1 (Rep.ints_nil (Nat.zero_le _)) ?h2 ?h3 (by simp)).mono ?_
 case h1 => exact H.out.below (b1.alloc b1.size _)
 case h2 => exact ⟨⟨by go_simp, by go_simp, by go_simp⟩, by go_simp, by go_simp, Grow.nil _ _ _ _, by omega, by simp⟩
 case h3 => exact fun y hy => ⟨fun e => by have := HLT.out y hy; have := b1.size; omega, fun e => by cases e⟩
 rintro e w2 ⟨u2, rfl, hg2, hK2⟩;have B2 : Below w.heap.size w w2 := (b1.alloc b1.size _).trans (hg2.touch.below (by have := b1.size; simp; omega) (fun y hy => by
  rcases List.mem_cons.1 hy with rfl | hy
  ·exact b1.size
  ·have := qU.1 hy; cases this))
 have hz1 := b1.size;clear hg2 b1;by_cases hy : (0 : Int) + (cntF xs [] : Int) <= 1200 /\ ([] : List (List Int)).length + (ptsF xs []).length <= 120
 ·obtain ⟨⟨k0, k1, k2⟩, _, _, hG, _, _⟩ := hK2 hy
  have HR := qQ (qXG HV.out (show cntF xs [] <= 1200 by omega) (by simpa using hy.2));rw [decide_eq_true hy];have HG := qQ (show Grow w2 w.heap.size 39 1 u2 (lls (ptsF xs [])) from hG.more (by omega));clear hK2 hy hG;go_wp2;go_ret2;rw [HR.out];exact vP.of_grow (r := (ptsF xs [], true)) HG.out B2
 ·rw [decide_eq_false hy]
  have HR := qQ (show qN xs = ([], false) by
   by_cases hc : cntF xs [] <= 1200
   ·exact qXU (fun hp => hy ⟨by omega, by simpa using hp⟩)
   ·exact qXF hc)
  clear hK2 hy;go_wp2;go_ret2;rw [HR.out];exact vP.of_grow (e := 39) (r := ([], false)) (Grow.nil _ _ _ _) B2
theorem qKE {α : Type} {f : Nat -> List α} {x : α} : ∀ {m : Nat}, x ∈ catN f m -> ∃ k, k < m /\ x ∈ f k
 | 0, h => by simp [catN] at h
 | m + 1, h => by
  rw [catN] at h;rcases List.mem_append.1 h with h | h
  ·obtain ⟨k, hk, hx⟩ := qKE h
   exact ⟨k, by omega, hx⟩
  ·exact ⟨m, by omega, h⟩
theorem qPZ : (ls : List Lp) -> (p : List Int) -> ∀ x ∈ ptsF ls p, x.length = p.length + ls.length
 | [], p, x, h => by rw [ptsF, List.mem_singleton] at h; rw [h]; rfl
 | l :: ls, p, x, h => by
  rw [ptsF] at h;obtain ⟨k, _, hx⟩ := qKE h;have h5 := qPZ ls _ x hx;rw [List.length_append, List.length_singleton] at h5;rw [h5, List.length_cons]; omega
def wB (xs : List Ar) (q : List Int) (s : Stm) : Bool := decide (0 <= cellF xs s.write q) && !(xF s.value).any (fun a => decide (cellF xs a q < 0))
def rdF (xs : List Ar) (q : List Int) (s : Stm) : List Int := (xF s.value).map (fun a => cellF xs a q)
def wrF (xs : List Ar) (q : List Int) (s : Stm) : Int := cellF xs s.write q
def jW (xs : List Ar) (q : List Int) (s : Stm) : List Int × Int × Bool := if wB xs q s then (rdF xs q s, wrF xs q s, true) else ([], 0, false)
def zG (x : Prt) : List (List Int) := ptsF x.nest []
def qWC (x : Prt) (s : Stm) : Bool := zV s (x.nest.length : Int)
def qQO (x : Prt) : Bool := inB (x.body.length : Int) 1 4 && x.body.all (qWC x)
def wW (xs : List Ar) (x : Prt) (q : List Int) : Bool := ptOk q && x.body.all (wB xs q)
def zU (xs : List Ar) (x : Prt) : Bool := (qN x.nest).2 && (qQO x && (zG x).all (wW xs x))
def xP (k : Int) (n : Nat) (q : List Int) : List In := (List.range n).map fun (s : Nat) => ⟨k, (s : Int), q⟩
def qGF (k : Int) (x : Prt) : List In := (zG x).flatMap (xP k x.body.length)
def qC : List Prt -> Int -> List In
 | [], _ => []
 | x :: xs, k => qGF k x ++ qC xs (k + 1)
def qM (p : Pgm) : List In := qC p.parts 0
def uK (p : Pgm) : Bool := xM p.arrays && decide (p.parts.length <= 4)
def zK (p : Pgm) : Bool := uK p && (p.parts.all (zU p.arrays) && decide ((qM p).length <= 120))
theorem jD (k : Int) (n : Nat) (q : List Int) : (xP k n q).length = n := by simp [xP]
theorem qWJ (k : Int) (n : Nat) (q : List Int) : xP k (n + 1) q = xP k n q ++ [⟨k, (n : Int), q⟩] := by simp [xP, List.range_succ]
theorem qGC {α β : Type} (f : α -> List β) (xs : List α) (j : Nat) (h : j < xs.length) : (xs.take (j + 1)).flatMap f = (xs.take j).flatMap f ++ f xs[j] := by
 rw [List.take_succ_eq_append_getElem h, List.flatMap_append]; simp
theorem qVJ {α β : Type} {f : α -> List β} {n : Nat} : (xs : List α) -> (∀ x ∈ xs, (f x).length = n) -> (xs.flatMap f).length = xs.length * n
 | [], _ => by simp
 | x :: xs, h => by
  rw [List.flatMap_cons, List.length_append, h x List.mem_cons_self, qVJ xs fun y hy => h y (List.mem_cons_of_mem _ hy), List.length_cons, Nat.add_mul]; omega
theorem qYG (k : Int) (x : Prt) : (qGF k x).length = (zG x).length * x.body.length := qVJ _ fun _ _ => jD _ _ _
theorem yJ : (xs ys : List Prt) -> (k : Int) -> qC (xs ++ ys) k = qC xs k ++ qC ys (k + xs.length)
 | [], ys, k => by simp [qC]
 | x :: xs, ys, k => by
  rw [List.cons_append, qC, yJ xs ys, qC, List.append_assoc, List.length_cons];rw [show k + 1 + (xs.length : Int) = k + ((xs.length + 1 : Nat) : Int) by omega]
theorem jK {xs : List Prt} {j : Nat} (h : j < xs.length) : qC (xs.take (j + 1)) 0 = qC (xs.take j) 0 ++ qGF (j : Int) xs[j] := by
 rw [List.take_succ_eq_append_getElem h, yJ];simp only [qC, List.append_nil, List.length_take];rw [show (0 : Int) + ((min j xs.length : Nat) : Int) = (j : Int) by omega]
theorem qKL {xs : List Prt} {j : Nat} : ∃ r, qC xs 0 = qC (xs.take j) 0 ++ r := by
 have h := yJ (xs.take j) (xs.drop j) 0;rw [List.take_append_drop] at h;exact ⟨_, h⟩
theorem qPQ : (ls : List Lp) -> (p : List Int) -> (∀ l ∈ ls, LpOk l) -> PtB p -> ∀ x ∈ ptsF ls p, PtB x
 | [], p, _, hp, x, h => by rw [ptsF, List.mem_singleton] at h; rw [h]; exact hp
 | l :: ls, p, hl, hp, x, h => by
  rw [ptsF] at h;obtain ⟨k, hk, hx⟩ := qKE h;exact qPQ ls _ (fun y hy => hl y (List.mem_cons_of_mem _ hy)) ((hl l List.mem_cons_self).next hp hk) x hx
theorem qHP {xs : List Lp} (h : qB xs = true) : ∀ q ∈ ptsF xs [], PtB q /\ q.length = xs.length /\ q.length <= 4 := by
 intro q hq;have h1 := qKH h;have h2 := qPZ xs [] q hq;simp only [List.length_nil, Nat.zero_add] at h2;exact ⟨qPQ xs [] h1.2 PtB.nil q hq, h2, by omega⟩
theorem qHC {xs : List Lp} (h : (qN xs).2 = true) : qB xs = true /\ cntF xs [] <= 1200 /\ (ptsF xs []).length <= 120 /\ (qN xs).1 = ptsF xs [] := by
 unfold qN at h ⊢
 split at h
 ·rename_i hc
  rw [if_pos hc];simp only [Bool.and_eq_true, decide_eq_true_iff] at hc;exact ⟨hc.1, hc.2.1, hc.2.2, rfl⟩
 ·cases h
def PtS (q : List Int) : Prop := ∀ a, xG a = true -> EvBd a q
theorem PtS.of_B {q : List Int} (h : PtB q) (hl : q.length <= 4) : PtS q := fun _ ha => h.evBd ha hl
theorem all_swap {α β : Type} (f : α -> β -> Bool) (xs : List α) (ys : List β) : xs.all (fun x => ys.all (f x)) = ys.all (fun y => xs.all (fun x => f x y)) := by
 rw [Bool.eq_iff_iff];simp only [List.all_eq_true];exact ⟨fun h y hy x hx => h x hx y hy, fun h x hx y hy => h y hy x hx⟩
def jG (xs : List Ar) (x : Prt) (s : Stm) : Bool := qWC x s && (zG x).all (fun q => wB xs q s && ptOk q)
theorem qZB (xs : List Ar) (x : Prt) : zU xs x = ((qN x.nest).2 && (inB (x.body.length : Int) 1 4 && x.body.all (jG xs x))) := by
 unfold zU qQO
 cases (qN x.nest).2 with
 | false => rfl
 | true =>
 by_cases h : inB (x.body.length : Int) 1 4 = true
 ·have h1 := uZ.1 h
  rw [h, Bool.true_and, Bool.true_and, Bool.true_and, Bool.true_and, Bool.eq_iff_iff];simp only [Bool.and_eq_true, List.all_eq_true, jG, wW];constructor
  ·rintro ⟨h2, h3⟩ s hs
   exact ⟨h2 s hs, fun q hq => ⟨(h3 q hq).2 s hs, (h3 q hq).1⟩⟩
  ·intro h2
   refine ⟨fun s hs => (h2 s hs).1, fun q hq => ⟨?_, fun s hs => ((h2 s hs).2 q hq).1⟩⟩;have h0 : 0 < x.body.length := by omega
   exact ((h2 x.body[0] (List.getElem_mem h0)).2 q hq).2
 ·simp only [Bool.not_eq_true] at h
  simp [h]
def qWB (xs : List Prt) (j : Nat) : Nat := (qC (xs.take j) 0).length
theorem qSW {xs : List Prt} {j : Nat} (h : j < xs.length) : qWB xs (j + 1) = qWB xs j + (zG xs[j]).length * xs[j].body.length := by
 unfold qWB; rw [jK h, List.length_append, qYG]
theorem qYJ (xs : List Prt) : qWB xs 0 = 0 := by simp [qWB, qC]
theorem qTF (xs : List Prt) : qWB xs xs.length = (qC xs 0).length := by simp [qWB]
theorem qYY {xs : List Ar} {x : Prt} (h : zU xs x = true) : (zG x).length <= 120 /\ 1 <= x.body.length /\ x.body.length <= 4 := by
 simp only [zU, qQO, Bool.and_eq_true] at h;have h1 := qHC h.1;have h2 := uZ.1 h.2.1.1;exact ⟨h1.2.2.1, by omega, by omega⟩
theorem qKV {xs : List Ar} {x : Prt} (h : zU xs x = true) : (zG x).length * x.body.length <= 480 := by
 obtain ⟨h1, _, h2⟩ := qYY h;have := Nat.mul_le_mul h1 h2;omega
end Go.Proofs.YtgogjbnneoadkaaGreat
