/- The Go type Program: how it reads; the law package's functions on it and on slices of it. Printed by tygen.py. -/
import Derived.Test.YtbhniobgaoncaaaGreatDoorZpTyArray
import Derived.Test.YtbhniobgaoncaaaGreatDoorZpTyPart
set_option linter.all false
set_option linter.unusedSimpArgs false
set_option linter.unusedVariables false
namespace Go.Proofs.YtbhniobgaoncaaaGreatDoor
open Go.ChangeShapes Go.WideShapes Go.ChangeAt Go.RowKit Go.Deep

structure Pgm where
  arrays : List Ar
  parts : List Prt

def Pgm.d (x : Pgm) : D := .st [sls Ar.d x.arrays, sls Prt.d x.parts]
theorem Rep.pgm_iff {w : World} {x : Pgm} {cs : List Value} {bs : List Nat} : Rep w x.d cs bs ↔ ∃ (A1 : Option Addr) (c1 : Nat) (A2 : Option Addr) (c2 : Nat) (d1 : List Nat) (d2 : List Nat), cs = [.slice A1 x.arrays.length c1, .slice A2 x.parts.length c2] ∧ bs = d1 ++ d2 ∧ Rep w (sls Ar.d x.arrays) [.slice A1 x.arrays.length c1] d1 ∧ Rep w (sls Prt.d x.parts) [.slice A2 x.parts.length c2] d2 := by
  constructor
  · intro h
    replace h : Reps w [sls Ar.d x.arrays, sls Prt.d x.parts] cs bs := h
    obtain ⟨_, _, _, _, rfl, rfl, g1, h⟩ := h
    obtain ⟨_, _, _, _, rfl, rfl, g2, h⟩ := h
    obtain ⟨rfl, rfl⟩ := h
    obtain ⟨B1, e1, rfl, _⟩ := g1.sls_form
    obtain ⟨B2, e2, rfl, _⟩ := g2.sls_form
    exact ⟨_, _, _, _, _, _, rfl, by simp, g1, g2⟩
  · rintro ⟨A1, c1, A2, c2, d1, d2, rfl, rfl, g1, g2⟩
    have h : Reps w [sls Ar.d x.arrays, sls Prt.d x.parts] _ _ := ⟨_, _, _, _, rfl, rfl, g1, ⟨_, _, _, _, rfl, rfl, g2, ⟨rfl, rfl⟩⟩⟩
    simpa using (show Rep w x.d _ _ from h)

set_option maxHeartbeats 1000000 in
theorem eqProgram_c {w : World} {x : Pgm} {cs cs' : List Value} {bs bs' : List Nat} (h : Rep w x.d cs bs) (h' : Rep w x.d cs' bs') :
    Calls Tryz.prog 11 #[.agg cs.toArray, .agg cs'.toArray] w fun e w' => e = .returned (.bool true) ∧ Below w.heap.size w w' := by
  have H := Lib.hid h
  have H' := Lib.hid h'
  obtain ⟨A1, c1, A2, c2, d1, d2, rfl, rfl, g1, g2⟩ := Rep.pgm_iff.1 h
  obtain ⟨A1', c1', A2', c2', d1', d2', rfl, rfl, g1', g2'⟩ := Rep.pgm_iff.1 h'
  have G1 := Lib.hid g1
  have G1' := Lib.hid g1'
  have G2 := Lib.hid g2
  have G2' := Lib.hid g2'
  clear h h' H H' g1 g1' g2 g2'
  go_enter Tryz.func11, Tryz.ntmps11
  go_wp2_with fail
  refine (eqArrayS_c (G1.out.below bel) (G1'.out.below bel)).mono ?_
  rintro e w1 ⟨rfl, b1⟩
  have P1 : Box2 w1 w.heap.size (.slice A1 x.arrays.length c1) (.slice A2 x.parts.length c2) := by
    refine ⟨?_, ?_⟩ <;> (rw [b1.cell (by simp; try omega)]; go_simp)
  have Q1 : Box2 w1 (w.heap.size + 1) (.slice A1' x.arrays.length c1') (.slice A2' x.parts.length c2') := by
    refine ⟨?_, ?_⟩ <;> (rw [b1.cell (by simp; try omega)]; go_simp)
  have S1 : Below w.heap.size w w1 := bel
  clear b1
  go_wp2_with fail
  refine (eqPartS_c (G2.out.below bel) (G2'.out.below bel)).mono ?_
  rintro e w2 ⟨rfl, b2⟩
  have P2 := P1.to b2; clear P1
  have Q2 := Q1.to b2; clear Q1
  have S2 := below_tr S1 b2
  clear b2
  go_wp2
  go_ret
  exact ⟨rfl, bel⟩

theorem szD_pgm (x : Pgm) : szD x.d = szD (sls Ar.d x.arrays) + szD (sls Prt.d x.parts) := by
  have h : szD x.d = szDs [sls Ar.d x.arrays, sls Prt.d x.parts] := by simp only [Pgm.d, szD]
  rw [h]; simp only [szDs, szD, szD_ints]; omega
set_option maxHeartbeats 2000000 in
theorem szProgram_c {w : World} {x : Pgm} {cs : List Value} {bs : List Nat} {left : Int} (h : Rep w x.d cs bs) (h0 : 0 ≤ left) (h1 : left ≤ 1048576) :
    Calls Tryz.prog 7 #[.agg cs.toArray, .int .i64 left] w fun e w' => e = .returned (.int .i64 (szR left (szD x.d))) ∧ Below w.heap.size w w' := by
  obtain ⟨A1, c1, A2, c2, d1, d2, rfl, rfl, g1, g2⟩ := Rep.pgm_iff.1 h
  rw [szD_pgm x]
  have G1 := Lib.hid g1
  have G2 := Lib.hid g2
  clear h g1 g2
  by_cases hs0 : (left : Int) - ((szD (sls Ar.d x.arrays) : Nat) : Int) < 0
  · have HR := Lib.hid (show szR left (szD (sls Ar.d x.arrays) + szD (sls Prt.d x.parts)) = -1 from szR_neg (by omega))
    have HS0 := Lib.hid (szR_neg hs0)
    go_enter Tryz.func7, Tryz.ntmps7
    go_wp2_with fail
    refine (szArrayS_c (G1.out.below bel) (by omega) (by omega)).mono ?_
    rintro e w1 ⟨rfl, b1⟩
    rw [HS0.out]
    have P1 : Box2 w1 w.heap.size (.slice A1 x.arrays.length c1) (.slice A2 x.parts.length c2) := by
      refine ⟨?_, ?_⟩ <;> (rw [b1.cell (by simp; try omega)]; go_simp)
    have S1 : Below w.heap.size w w1 := bel
    clear b1
    go_wp2
    go_ret
    exact ⟨ret_int HR.out.symm, bel⟩
  · have HS0 := Lib.hid (szR_pos (left := left) (tot := szD (sls Ar.d x.arrays)) (by omega))
    have hp0 : 0 ≤ left - ((szD (sls Ar.d x.arrays) : Nat) : Int) := by omega
    clear hs0
    by_cases hs1 : (left - ((szD (sls Ar.d x.arrays) : Nat) : Int) : Int) - ((szD (sls Prt.d x.parts) : Nat) : Int) < 0
    · have HR := Lib.hid (show szR left (szD (sls Ar.d x.arrays) + szD (sls Prt.d x.parts)) = -1 from szR_neg (by omega))
      have HS1 := Lib.hid (szR_neg hs1)
      go_enter Tryz.func7, Tryz.ntmps7
      go_wp2_with fail
      refine (szArrayS_c (G1.out.below bel) (by omega) (by omega)).mono ?_
      rintro e w1 ⟨rfl, b1⟩
      rw [HS0.out]
      have P1 : Box2 w1 w.heap.size (.slice A1 x.arrays.length c1) (.slice A2 x.parts.length c2) := by
        refine ⟨?_, ?_⟩ <;> (rw [b1.cell (by simp; try omega)]; go_simp)
      have S1 : Below w.heap.size w w1 := bel
      clear b1
      go_wp2_with fail
      refine (szPartS_c (G2.out.below bel) (by omega) (by omega)).mono ?_
      rintro e w2 ⟨rfl, b2⟩
      rw [HS1.out]
      have P2 := P1.to b2; clear P1
      have S2 := below_tr S1 b2
      clear b2
      go_wp2
      go_ret
      exact ⟨ret_int HR.out.symm, bel⟩
    · have HS1 := Lib.hid (szR_pos (left := left - ((szD (sls Ar.d x.arrays) : Nat) : Int)) (tot := szD (sls Prt.d x.parts)) (by omega))
      have hp1 : 0 ≤ left - ((szD (sls Ar.d x.arrays) : Nat) : Int) - ((szD (sls Prt.d x.parts) : Nat) : Int) := by omega
      clear hs1
      have HR := Lib.hid (show szR left (szD (sls Ar.d x.arrays) + szD (sls Prt.d x.parts)) = left - ((szD (sls Ar.d x.arrays) : Nat) : Int) - ((szD (sls Prt.d x.parts) : Nat) : Int) by rw [szR_pos (by omega)] <;> omega)
      go_enter Tryz.func7, Tryz.ntmps7
      go_wp2_with fail
      refine (szArrayS_c (G1.out.below bel) (by omega) (by omega)).mono ?_
      rintro e w1 ⟨rfl, b1⟩
      rw [HS0.out]
      have P1 : Box2 w1 w.heap.size (.slice A1 x.arrays.length c1) (.slice A2 x.parts.length c2) := by
        refine ⟨?_, ?_⟩ <;> (rw [b1.cell (by simp; try omega)]; go_simp)
      have S1 : Below w.heap.size w w1 := bel
      clear b1
      go_wp2_with fail
      refine (szPartS_c (G2.out.below bel) (by omega) (by omega)).mono ?_
      rintro e w2 ⟨rfl, b2⟩
      rw [HS1.out]
      have P2 := P1.to b2; clear P1
      have S2 := below_tr S1 b2
      clear b2
      go_wp2
      go_ret
      exact ⟨ret_int HR.out.symm, bel⟩

set_option maxHeartbeats 4000000 in
set_option maxRecDepth 100000 in
theorem toProgram_c {w : World} {x : Pgm} {cs : List Value} {bs : List Nat} (h : Rep w x.d cs bs) (hz : szD x.d ≤ 10000000) :
    Calls Tryz.prog 9 #[.agg cs.toArray] w (MadeT w x.d) := by
  rw [szD_pgm] at hz
  obtain ⟨A1, c1, A2, c2, d1, d2, rfl, rfl, g1, g2⟩ := Rep.pgm_iff.1 h
  have G1 := Lib.hid g1
  have Z1 := Lib.hid (show szD (sls Ar.d x.arrays) ≤ 10000000 by omega)
  have G2 := Lib.hid g2
  have Z2 := Lib.hid (show szD (sls Prt.d x.parts) ≤ 10000000 by omega)
  clear h hz g1 g2
  go_enter Tryz.func9, Tryz.ntmps9
  go_wp2_with fail
  refine (toArrayS_c (G1.out.below bel) Z1.out).mono ?_
  rintro e w1 ⟨Ar1, nr1, cr1, bs1, rfl, r1, nd1, hy1, b1⟩
  obtain ⟨hn1, _, _⟩ := r1.sls_len
  subst hn1
  have hb1 : ∀ y ∈ bs1, w.heap.size + 3 ≤ y := fun y hy => by have := hy1 y hy; (try simp [World.setCell] at this); omega
  have PA1 : w1.cell? ⟨w.heap.size, 0, none⟩ = some (.slice A1 x.arrays.length c1) ∧ w1.cell? ⟨w.heap.size, 1, none⟩ = some (.slice A2 x.parts.length c2) := by
    refine ⟨?_, ?_⟩ <;> (rw [b1.cell (by simp [World.setCell]; try (omega))]; go_simp)
  have PR1 : w1.cell? ⟨w.heap.size + 1, 0, none⟩ = some (.slice none 0 0) ∧ w1.cell? ⟨w.heap.size + 1, 1, none⟩ = some (.slice none 0 0) := by
    refine ⟨?_, ?_⟩ <;> (rw [b1.cell (by simp [World.setCell]; try (omega))]; go_simp)
  have PO1 : w1.cell? ⟨w.heap.size + 2, 0, none⟩ = some (.slice none 0 0) ∧ w1.cell? ⟨w.heap.size + 2, 1, none⟩ = some (.slice none 0 0) := by
    refine ⟨?_, ?_⟩ <;> (rw [b1.cell (by simp [World.setCell]; try (omega))]; go_simp)
  have F1 : w1.frozen? ⟨w.heap.size + 1, 0, none⟩ = false ∧ w1.frozen? ⟨w.heap.size + 1, 1, none⟩ = false ∧ w1.frozen? ⟨w.heap.size + 2, 0, none⟩ = false ∧ w1.frozen? ⟨w.heap.size + 2, 1, none⟩ = false := by
    refine ⟨?_, ?_, ?_, ?_⟩ <;> (rw [b1.frozen (by simp [World.setCell]; try (omega))]; go_simp)
  have S1 : Below w.heap.size w w1 := bel
  have ZS1 := Lib.hid (show w.heap.size + 3 ≤ w1.heap.size by have := b1.size; (try simp [World.setCell] at this); omega)
  have RR1_1 := Lib.hid r1; have HB1 := Lib.hid hb1; have ND1 := Lib.hid nd1; have LT1 := Lib.hid (Rep.lt _ r1)
  clear r1 hb1 nd1 hy1 b1
  go_wp2_with fail
  refine (toPartS_c (G2.out.below (by first | with_reducible exact S1 | exact S1.setCell (by simp; try omega) _ | exact (S1.setCell (by simp; try omega) _).setCell (by simp; try omega) _ | exact ((S1.setCell (by simp; try omega) _).setCell (by simp; try omega) _).setCell (by simp; try omega) _)) Z2.out).mono ?_
  rintro e w2 ⟨Ar2, nr2, cr2, bs2, rfl, r2, nd2, hy2, b2⟩
  obtain ⟨hn2, _, _⟩ := r2.sls_len
  subst hn2
  have hb2 : ∀ y ∈ bs2, w.heap.size + 3 ≤ y := fun y hy => by have := hy2 y hy; (try simp [World.setCell] at this); have := ZS1.out; omega
  have hc2 : ∀ y ∈ bs2, w1.heap.size ≤ y := fun y hy => by have := hy2 y hy; (try simp [World.setCell] at this); omega
  have PA2 : w2.cell? ⟨w.heap.size, 0, none⟩ = some (.slice A1 x.arrays.length c1) ∧ w2.cell? ⟨w.heap.size, 1, none⟩ = some (.slice A2 x.parts.length c2) := by
    refine ⟨?_, ?_⟩ <;> (rw [b2.cell (by simp [World.setCell]; try (have := ZS1.out; omega))]; go_simp)
  have PR2 : w2.cell? ⟨w.heap.size + 1, 0, none⟩ = some (.slice none 0 0) ∧ w2.cell? ⟨w.heap.size + 1, 1, none⟩ = some (.slice none 0 0) := by
    refine ⟨?_, ?_⟩ <;> (rw [b2.cell (by simp [World.setCell]; try (have := ZS1.out; omega))]; go_simp)
  have PO2 : w2.cell? ⟨w.heap.size + 2, 0, none⟩ = some (.slice Ar1 x.arrays.length cr1) ∧ w2.cell? ⟨w.heap.size + 2, 1, none⟩ = some (.slice none 0 0) := by
    refine ⟨?_, ?_⟩ <;> (rw [b2.cell (by simp [World.setCell]; try (have := ZS1.out; omega))]; go_simp)
  have F2 : w2.frozen? ⟨w.heap.size + 1, 0, none⟩ = false ∧ w2.frozen? ⟨w.heap.size + 1, 1, none⟩ = false ∧ w2.frozen? ⟨w.heap.size + 2, 0, none⟩ = false ∧ w2.frozen? ⟨w.heap.size + 2, 1, none⟩ = false := by
    refine ⟨?_, ?_, ?_, ?_⟩ <;> (rw [b2.frozen (by simp [World.setCell]; try (have := ZS1.out; omega))]; go_simp)
  have RR1_2 := Lib.hid (show Rep w2 (sls Ar.d x.arrays) [.slice Ar1 x.arrays.length cr1] bs1 from Rep.below (Rep.keep _ RR1_1.out (by repeat (first | with_reducible exact Keeps.refl _ _ | refine Keeps.setCell ?_ (fun hm => by have := HB1.out _ hm; dsimp only at this; omega) _))) b2); clear RR1_1
  have S2 : Below w.heap.size w w2 := by
    refine below_tr (a := _) ?_ b2
    exact (by first | with_reducible exact S1 | exact S1.setCell (by simp; try omega) _ | exact (S1.setCell (by simp; try omega) _).setCell (by simp; try omega) _ | exact ((S1.setCell (by simp; try omega) _).setCell (by simp; try omega) _).setCell (by simp; try omega) _)
  have ZS2 := Lib.hid (show w.heap.size + 3 ≤ w2.heap.size by have := b2.size; (try simp [World.setCell] at this); have := ZS1.out; omega)
  have ZT2 := Lib.hid (show w1.heap.size ≤ w2.heap.size by have := b2.size; (try simp [World.setCell] at this); omega)
  have RR2_2 := Lib.hid r2; have HB2 := Lib.hid hb2; have ND2 := Lib.hid nd2; have LT2 := Lib.hid (Rep.lt _ r2); have HC2 := Lib.hid hc2
  clear r2 hb2 nd2 hy2 b2 hc2 PA1 PR1 PO1 F1
  have RALL := Lib.hid (show Rep w2 x.d [.slice Ar1 x.arrays.length cr1, .slice Ar2 x.parts.length cr2] (bs1 ++ bs2) from (show ∀ W, Reps W [sls Ar.d x.arrays, sls Prt.d x.parts] ([.slice Ar1 x.arrays.length cr1] ++ ([.slice Ar2 x.parts.length cr2] ++ ([]))) (bs1 ++ (bs2 ++ ([]))) → Rep W x.d [.slice Ar1 x.arrays.length cr1, .slice Ar2 x.parts.length cr2] (bs1 ++ bs2) from fun W hq => by simpa [List.append_assoc] using (show Rep W x.d _ _ from hq)) _ ⟨_, _, _, _, rfl, rfl, RR1_2.out, ⟨_, _, _, _, rfl, rfl, RR2_2.out, ⟨rfl, rfl⟩⟩⟩)
  have NDALL := Lib.hid (show (bs1 ++ bs2 : List Nat).Nodup from List.nodup_append.2 ⟨ND1.out, ND2.out, fun y h1 z h2 e => by
      subst e
      have h3 := HC2.out y h2
      (have := LT1.out y h1; omega)⟩)
  have HBALL := Lib.hid (show ∀ y ∈ (bs1 ++ bs2 : List Nat), w.heap.size + 3 ≤ y from (fun y hy => by
    simp only [List.mem_append] at hy
    rcases hy with hy | hy
    · exact HB1.out y hy
    · exact HB2.out y hy))
  clear RR1_2 HB1 ND1 LT1 RR2_2 HB2 ND2 LT2 HC2 ZT2
  go_wp2
  refine bodyPost_ret (v := .agg #[.slice Ar1 x.arrays.length cr1, .slice Ar2 x.parts.length cr2]) (by simp [results, Tryz.results9, go_sem, PR2, PO2]) rfl ⟨[.slice Ar1 x.arrays.length cr1, .slice Ar2 x.parts.length cr2], bs1 ++ bs2, rfl, ?_, NDALL.out, fun y hy => by have := HBALL.out y hy; omega, ?_⟩
  · exact Rep.keep _ RALL.out (by repeat (first | with_reducible exact Keeps.refl _ _ | refine Keeps.setCell ?_ (fun hm => by have := HBALL.out _ hm; dsimp only at this; omega) _))
  · exact (by repeat (first | with_reducible exact S2 | refine Below.setCell ?_ (by simp; try omega) _))

def MadePgm (w : World) (x : Pgm) (e : Ending) (w' : World) : Prop := ∃ (A1 : Option Addr) (c1 : Nat) (A2 : Option Addr) (c2 : Nat) (bs : List Nat), e = .returned (.agg #[.slice A1 x.arrays.length c1, .slice A2 x.parts.length c2]) ∧ Rep w' x.d [.slice A1 x.arrays.length c1, .slice A2 x.parts.length c2] bs ∧ bs.Nodup ∧ (∀ b ∈ bs, w.heap.size ≤ b) ∧ Below w.heap.size w w'
theorem MadePgm.of {w w' : World} {x : Pgm} {e : Ending} (h : MadeT w x.d e w') : MadePgm w x e w' := by
  obtain ⟨cs, bs, rfl, r, h1, h2, h3⟩ := h
  have r2 := r
  obtain ⟨A1, c1, A2, c2, d1, d2, rfl, _⟩ := Rep.pgm_iff.1 r2
  exact ⟨_, _, _, _, _, rfl, r, h1, h2, h3⟩
theorem toProgram_m {w : World} {x : Pgm} {cs : List Value} {bs : List Nat} (h : Rep w x.d cs bs) (hn : szD x.d ≤ 1048576) : Calls Tryz.prog 9 #[.agg cs.toArray] w (MadePgm w x) := (toProgram_c h (by omega)).mono fun _ _ h => MadePgm.of h
theorem szProgram_t {w : World} {x : Pgm} {cs : List Value} {bs : List Nat} {left : Int} (h : Rep w x.d cs bs) (h0 : 0 ≤ left) (h1 : left ≤ 1048576) : Calls Tryz.prog 7 #[.agg cs.toArray, .int .i64 left] w fun e w' => e = .returned (.int .i64 (szR left (szD x.d))) ∧ Below w.heap.size w w' := szProgram_c h h0 h1
end Go.Proofs.YtbhniobgaoncaaaGreatDoor
