/- The Go type Loop: how it reads; the law package's functions on it and on slices of it. Printed by tygen.py. -/
import Derived.Test.YtbhniobgaoncaaaGreatDoorZpTyAffine
set_option linter.all false
set_option linter.unusedSimpArgs false
set_option linter.unusedVariables false
namespace Go.Proofs.YtbhniobgaoncaaaGreatDoor
open Go.ChangeShapes Go.WideShapes Go.ChangeAt Go.RowKit Go.Deep

structure Lp where
  lo : List Aff
  hi : List Aff
  deriving DecidableEq
def Lp.d (x : Lp) : D := .st [sls Aff.d x.lo, sls Aff.d x.hi]
theorem Lp.d_size (x : Lp) : x.d.size = 2 := rfl
theorem Rep.lp_iff {w : World} {x : Lp} {cs : List Value} {bs : List Nat} : Rep w x.d cs bs ↔ ∃ (A1 : Option Addr) (c1 : Nat) (A2 : Option Addr) (c2 : Nat) (d1 : List Nat) (d2 : List Nat), cs = [.slice A1 x.lo.length c1, .slice A2 x.hi.length c2] ∧ bs = d1 ++ d2 ∧ Rep w (sls Aff.d x.lo) [.slice A1 x.lo.length c1] d1 ∧ Rep w (sls Aff.d x.hi) [.slice A2 x.hi.length c2] d2 := by
  constructor
  · intro h
    replace h : Reps w [sls Aff.d x.lo, sls Aff.d x.hi] cs bs := h
    obtain ⟨_, _, _, _, rfl, rfl, g1, h⟩ := h
    obtain ⟨_, _, _, _, rfl, rfl, g2, h⟩ := h
    obtain ⟨rfl, rfl⟩ := h
    obtain ⟨B1, e1, rfl, _⟩ := g1.sls_form
    obtain ⟨B2, e2, rfl, _⟩ := g2.sls_form
    exact ⟨_, _, _, _, _, _, rfl, by simp, g1, g2⟩
  · rintro ⟨A1, c1, A2, c2, d1, d2, rfl, rfl, g1, g2⟩
    have h : Reps w [sls Aff.d x.lo, sls Aff.d x.hi] _ _ := ⟨_, _, _, _, rfl, rfl, g1, ⟨_, _, _, _, rfl, rfl, g2, ⟨rfl, rfl⟩⟩⟩
    simpa using (show Rep w x.d _ _ from h)

set_option maxHeartbeats 1000000 in
theorem eqLoop_c {w : World} {x : Lp} {cs cs' : List Value} {bs bs' : List Nat} (h : Rep w x.d cs bs) (h' : Rep w x.d cs' bs') :
    Calls Tryz.prog 47 #[.agg cs.toArray, .agg cs'.toArray] w fun e w' => e = .returned (.bool true) ∧ Below w.heap.size w w' := by
  have H := Lib.hid h
  have H' := Lib.hid h'
  obtain ⟨A1, c1, A2, c2, d1, d2, rfl, rfl, g1, g2⟩ := Rep.lp_iff.1 h
  obtain ⟨A1', c1', A2', c2', d1', d2', rfl, rfl, g1', g2'⟩ := Rep.lp_iff.1 h'
  have G1 := Lib.hid g1
  have G1' := Lib.hid g1'
  have G2 := Lib.hid g2
  have G2' := Lib.hid g2'
  clear h h' H H' g1 g1' g2 g2'
  go_enter Tryz.func47, Tryz.ntmps47
  go_wp2_with fail
  refine (eqAffineS_c (G1.out.below bel) (G1'.out.below bel)).mono ?_
  rintro e w1 ⟨rfl, b1⟩
  have P1 : Box2 w1 w.heap.size (.slice A1 x.lo.length c1) (.slice A2 x.hi.length c2) := by
    refine ⟨?_, ?_⟩ <;> (rw [b1.cell (by simp; try omega)]; go_simp)
  have Q1 : Box2 w1 (w.heap.size + 1) (.slice A1' x.lo.length c1') (.slice A2' x.hi.length c2') := by
    refine ⟨?_, ?_⟩ <;> (rw [b1.cell (by simp; try omega)]; go_simp)
  have S1 : Below w.heap.size w w1 := bel
  clear b1
  go_wp2_with fail
  refine (eqAffineS_c (G2.out.below bel) (G2'.out.below bel)).mono ?_
  rintro e w2 ⟨rfl, b2⟩
  have P2 := P1.to b2; clear P1
  have Q2 := Q1.to b2; clear Q1
  have S2 := below_tr S1 b2
  clear b2
  go_wp2
  go_ret
  exact ⟨rfl, bel⟩

set_option maxHeartbeats 1000000 in
theorem eqLoopS_c {w : World} {xs : List Lp} {A B : Option Addr} {n m c d : Nat} {bs bs' : List Nat} (hA : Rep w (sls Lp.d xs) [.slice A n c] bs) (hB : Rep w (sls Lp.d xs) [.slice B m d] bs') :
    Calls Tryz.prog 14 #[.slice A n c, .slice B m d] w fun e w' => e = .returned (.bool true) ∧ Below w.heap.size w w' := by
  obtain ⟨rfl, h1, h2⟩ := hA.sls_len
  obtain ⟨rfl, _, _⟩ := hB.sls_len
  have hn : xs.length ≤ 9223372036854775807 := Nat.le_trans h1 h2
  clear h1 h2
  have hl1 : ((xs.length : Int) != (xs.length : Int)) = false := by simp
  have HA := Lib.hid hA; clear hA
  have HB := Lib.hid hB; clear hB
  go_enter Tryz.func14, Tryz.ntmps14
  go_wp2
  go_loopw [5] (fun i wr => ∃ k : Nat, k ≤ xs.length ∧ i = .int .i64 k ∧ Below w.heap.size w wr) (fun i _ => xs.length - (intOf i).toNat)
  case atStart => exact ⟨0, Nat.zero_le _, rfl, Below.refl _ _⟩
  case round =>
    obtain ⟨k, hk, rfl, hb⟩ := hrel
    by_cases hlt : k < xs.length
    · obtain ⟨b, o, cs, l, rfl, hbl, hr, _, _, hc⟩ := (HA.out.below hb).sls_at Lp.d_size hlt
      have G := Lib.hid hr
      obtain ⟨A1, c1, A2, c2, d1, d2, rfl, rfl, g1, g2⟩ := Rep.lp_iff.1 hr
      have k0 := (hc 0 _ rfl).1; rw [Nat.add_zero] at k0
      have k1 := (hc 1 _ rfl).1
      clear hc hr g1 g2
      obtain ⟨b', o', cs', l', rfl, hbl', hr', _, _, hc'⟩ := (HB.out.below hb).sls_at Lp.d_size hlt
      have G' := Lib.hid hr'
      obtain ⟨A1', c1', A2', c2', d1', d2', rfl, rfl, g1', g2'⟩ := Rep.lp_iff.1 hr'
      have k0' := (hc' 0 _ rfl).1; rw [Nat.add_zero] at k0'
      have k1' := (hc' 1 _ rfl).1
      clear hc' hr' g1' g2'
      go_wp2_with fail
      go_region_held3 (fun w' => w'.cell? ⟨b, o + k * 2, none⟩ = some (.slice A1 xs[k].lo.length c1) ∧ w'.cell? ⟨b, o + k * 2 + 1, none⟩ = some (.slice A2 xs[k].hi.length c2) ∧ w'.cell? ⟨b', o' + k * 2, none⟩ = some (.slice A1' xs[k].lo.length c1') ∧ w'.cell? ⟨b', o' + k * 2 + 1, none⟩ = some (.slice A2' xs[k].hi.length c2')) (first | exact ⟨k0, k1, k0', k1'⟩ | exact ⟨(by rw [b1.cell hbl]; exact k0), (by rw [b1.cell hbl]; exact k1), (by rw [b1.cell hbl']; exact k0'), (by rw [b1.cell hbl']; exact k1')⟩ | skip)
        (first | (go_at_call 47; refine (eqLoop_c (G.out.drewN 1) (G'.out.drewN 1)).mono ?_; rintro e w1 ⟨rfl, b1⟩; replace b1 := of_drew b1))
      have S1 := below_tr hb b1
      clear b1
      go_wp2
      go_roundw
      case rel => exact ⟨k + 1, by omega, by go_num, S1⟩
      case measure => simp [intOf]; omega
    · go_wp2
      go_ret
      exact ⟨rfl, hb⟩

theorem szD_lp (x : Lp) : szD x.d = szD (sls Aff.d x.lo) + szD (sls Aff.d x.hi) := by
  have h : szD x.d = szDs [sls Aff.d x.lo, sls Aff.d x.hi] := by simp only [Lp.d, szD]
  rw [h]; simp only [szDs, szD, szD_ints]; omega
set_option maxHeartbeats 2000000 in
theorem szLoop_c {w : World} {x : Lp} {cs : List Value} {bs : List Nat} {left : Int} (h : Rep w x.d cs bs) (h0 : 0 ≤ left) (h1 : left ≤ 1048576) :
    Calls Tryz.prog 166 #[.agg cs.toArray, .int .i64 left] w fun e w' => e = .returned (.int .i64 (szR left (szD x.d))) ∧ Below w.heap.size w w' := by
  obtain ⟨A1, c1, A2, c2, d1, d2, rfl, rfl, g1, g2⟩ := Rep.lp_iff.1 h
  rw [szD_lp x]
  have G1 := Lib.hid g1
  have G2 := Lib.hid g2
  clear h g1 g2
  by_cases hs0 : (left : Int) - ((szD (sls Aff.d x.lo) : Nat) : Int) < 0
  · have HR := Lib.hid (show szR left (szD (sls Aff.d x.lo) + szD (sls Aff.d x.hi)) = -1 from szR_neg (by omega))
    have HS0 := Lib.hid (szR_neg hs0)
    go_enter Tryz.func166, Tryz.ntmps166
    go_wp2_with fail
    refine (szAffineS_c (G1.out.below bel) (by omega) (by omega)).mono ?_
    rintro e w1 ⟨rfl, b1⟩
    rw [HS0.out]
    have P1 : Box2 w1 w.heap.size (.slice A1 x.lo.length c1) (.slice A2 x.hi.length c2) := by
      refine ⟨?_, ?_⟩ <;> (rw [b1.cell (by simp; try omega)]; go_simp)
    have S1 : Below w.heap.size w w1 := bel
    clear b1
    go_wp2
    go_ret
    exact ⟨ret_int HR.out.symm, bel⟩
  · have HS0 := Lib.hid (szR_pos (left := left) (tot := szD (sls Aff.d x.lo)) (by omega))
    have hp0 : 0 ≤ left - ((szD (sls Aff.d x.lo) : Nat) : Int) := by omega
    clear hs0
    by_cases hs1 : (left - ((szD (sls Aff.d x.lo) : Nat) : Int) : Int) - ((szD (sls Aff.d x.hi) : Nat) : Int) < 0
    · have HR := Lib.hid (show szR left (szD (sls Aff.d x.lo) + szD (sls Aff.d x.hi)) = -1 from szR_neg (by omega))
      have HS1 := Lib.hid (szR_neg hs1)
      go_enter Tryz.func166, Tryz.ntmps166
      go_wp2_with fail
      refine (szAffineS_c (G1.out.below bel) (by omega) (by omega)).mono ?_
      rintro e w1 ⟨rfl, b1⟩
      rw [HS0.out]
      have P1 : Box2 w1 w.heap.size (.slice A1 x.lo.length c1) (.slice A2 x.hi.length c2) := by
        refine ⟨?_, ?_⟩ <;> (rw [b1.cell (by simp; try omega)]; go_simp)
      have S1 : Below w.heap.size w w1 := bel
      clear b1
      go_wp2_with fail
      refine (szAffineS_c (G2.out.below bel) (by omega) (by omega)).mono ?_
      rintro e w2 ⟨rfl, b2⟩
      rw [HS1.out]
      have P2 := P1.to b2; clear P1
      have S2 := below_tr S1 b2
      clear b2
      go_wp2
      go_ret
      exact ⟨ret_int HR.out.symm, bel⟩
    · have HS1 := Lib.hid (szR_pos (left := left - ((szD (sls Aff.d x.lo) : Nat) : Int)) (tot := szD (sls Aff.d x.hi)) (by omega))
      have hp1 : 0 ≤ left - ((szD (sls Aff.d x.lo) : Nat) : Int) - ((szD (sls Aff.d x.hi) : Nat) : Int) := by omega
      clear hs1
      have HR := Lib.hid (show szR left (szD (sls Aff.d x.lo) + szD (sls Aff.d x.hi)) = left - ((szD (sls Aff.d x.lo) : Nat) : Int) - ((szD (sls Aff.d x.hi) : Nat) : Int) by rw [szR_pos (by omega)] <;> omega)
      go_enter Tryz.func166, Tryz.ntmps166
      go_wp2_with fail
      refine (szAffineS_c (G1.out.below bel) (by omega) (by omega)).mono ?_
      rintro e w1 ⟨rfl, b1⟩
      rw [HS0.out]
      have P1 : Box2 w1 w.heap.size (.slice A1 x.lo.length c1) (.slice A2 x.hi.length c2) := by
        refine ⟨?_, ?_⟩ <;> (rw [b1.cell (by simp; try omega)]; go_simp)
      have S1 : Below w.heap.size w w1 := bel
      clear b1
      go_wp2_with fail
      refine (szAffineS_c (G2.out.below bel) (by omega) (by omega)).mono ?_
      rintro e w2 ⟨rfl, b2⟩
      rw [HS1.out]
      have P2 := P1.to b2; clear P1
      have S2 := below_tr S1 b2
      clear b2
      go_wp2
      go_ret
      exact ⟨ret_int HR.out.symm, bel⟩

set_option maxHeartbeats 2000000 in
theorem szLoopS_c {w : World} {xs : List Lp} {A : Option Addr} {n c : Nat} {bs : List Nat} {left : Int} (h : Rep w (sls Lp.d xs) [.slice A n c] bs) (h0 : 0 ≤ left) (h1 : left ≤ 1048576) :
    Calls Tryz.prog 118 #[.slice A n c, .int .i64 left] w fun e w' => e = .returned (.int .i64 (szR left (szD (sls Lp.d xs)))) ∧ Below w.heap.size w w' := by
  obtain ⟨rfl, h2, h3⟩ := h.sls_len
  have hn : xs.length ≤ 9223372036854775807 := Nat.le_trans h2 h3
  have H := Lib.hid h; clear h h2 h3
  have HT := Lib.hid (szD_sls Lp.d xs)
  by_cases hs : left - ((xs.length : Nat) : Int) < 0
  · have hr := Lib.hid (show szR left (szD (sls Lp.d xs)) = -1 from szR_neg (by rw [HT.out]; omega))
    go_enter Tryz.func118, Tryz.ntmps118
    go_wp2
    go_ret
    exact ⟨ret_int hr.out.symm, bel⟩
  have hp : 0 ≤ left - ((xs.length : Nat) : Int) := by omega
  clear hs
  go_enter Tryz.func118, Tryz.ntmps118
  go_wp2
  go_loopw [1, 5] (fun u i wr => ∃ j : Nat, j ≤ xs.length ∧ i = .int .i64 j ∧ u = .int .i64 (left - ((xs.length : Nat) : Int) - ((szTo Lp.d xs j : Nat) : Int)) ∧ 0 ≤ left - ((xs.length : Nat) : Int) - ((szTo Lp.d xs j : Nat) : Int) ∧ Below w.heap.size w wr) (fun _ i _ => xs.length - (intOf i).toNat)
  case atStart => exact ⟨0, Nat.zero_le _, rfl, int_eq (by simp [szTo_zero]), by rw [szTo_zero]; omega, Below.refl _ _⟩
  case round =>
    obtain ⟨j, hj, rfl, rfl, hge, hb⟩ := hrel
    by_cases hlt : j < xs.length
    · have HD := Lib.hid (szTo_succ Lp.d hlt)
      have HE := Lib.hid (szTo_le Lp.d (xs := xs) (j + 1))
      obtain ⟨b, o, cs, l, rfl, hbl, hr, _, _, hc⟩ := (H.out.below hb).sls_at Lp.d_size (k := j) hlt
      have G := Lib.hid hr
      obtain ⟨A1, c1, A2, c2, d1, d2, rfl, rfl, g1, g2⟩ := Rep.lp_iff.1 hr
      have k0 := (hc 0 _ rfl).1; rw [Nat.add_zero] at k0
      have k1 := (hc 1 _ rfl).1
      clear hc hr g1 g2
      by_cases hx : left - ((xs.length : Nat) : Int) - ((szTo Lp.d xs j : Nat) : Int) - ((szD (Lp.d xs[j]) : Nat) : Int) < 0
      · have HN := Lib.hid (szR_neg hx)
        have hr2 := Lib.hid (show szR left (szD (sls Lp.d xs)) = -1 from szR_neg (by have h4 := HE.out; rw [HD.out] at h4; rw [HT.out]; omega))
        go_wp2_with fail
        refine (szLoop_c G.out (by omega) (by omega)).mono ?_
        rintro e w1 ⟨rfl, b1⟩
        rw [HN.out]
        go_wp2
        go_ret
        exact ⟨ret_int hr2.out.symm, below_tr hb b1⟩
      · have HN := Lib.hid (szR_pos (left := left - ((xs.length : Nat) : Int) - ((szTo Lp.d xs j : Nat) : Int)) (tot := szD (Lp.d xs[j])) (by omega))
        have hge2 : 0 ≤ left - ((xs.length : Nat) : Int) - ((szTo Lp.d xs j : Nat) : Int) - ((szD (Lp.d xs[j]) : Nat) : Int) := by omega
        go_wp2_with fail
        refine (szLoop_c G.out (by omega) (by omega)).mono ?_
        rintro e w1 ⟨rfl, b1⟩
        rw [HN.out]
        go_wp2
        go_roundw
        case rel => exact ⟨j + 1, by omega, by go_num, int_eq (by rw [HD.out]; omega), by rw [HD.out]; omega, below_tr hb b1⟩
        case measure => simp [intOf]; omega
    · have hjj : j = xs.length := by omega
      subst hjj
      have hr2 := Lib.hid (show szR left (szD (sls Lp.d xs)) = left - ((xs.length : Nat) : Int) - ((szTo Lp.d xs xs.length : Nat) : Int) by rw [szTo_all, szR_pos (by rw [HT.out]; rw [szTo_all] at hge; omega), HT.out]; omega)
      go_wp2
      go_ret
      exact ⟨ret_int hr2.out.symm, hb⟩

set_option maxHeartbeats 4000000 in
set_option maxRecDepth 100000 in
theorem toLoop_c {w : World} {x : Lp} {cs : List Value} {bs : List Nat} (h : Rep w x.d cs bs) (hz : szD x.d ≤ 10000000) :
    Calls Tryz.prog 173 #[.agg cs.toArray] w (MadeT w x.d) := by
  rw [szD_lp] at hz
  obtain ⟨A1, c1, A2, c2, d1, d2, rfl, rfl, g1, g2⟩ := Rep.lp_iff.1 h
  have G1 := Lib.hid g1
  have Z1 := Lib.hid (show szD (sls Aff.d x.lo) ≤ 10000000 by omega)
  have G2 := Lib.hid g2
  have Z2 := Lib.hid (show szD (sls Aff.d x.hi) ≤ 10000000 by omega)
  clear h hz g1 g2
  go_enter Tryz.func173, Tryz.ntmps173
  go_wp2_with fail
  refine (toAffineS_c (G1.out.below bel) Z1.out).mono ?_
  rintro e w1 ⟨Ar1, nr1, cr1, bs1, rfl, r1, nd1, hy1, b1⟩
  obtain ⟨hn1, _, _⟩ := r1.sls_len
  subst hn1
  have hb1 : ∀ y ∈ bs1, w.heap.size + 3 ≤ y := fun y hy => by have := hy1 y hy; (try simp [World.setCell] at this); omega
  have PA1 : w1.cell? ⟨w.heap.size, 0, none⟩ = some (.slice A1 x.lo.length c1) ∧ w1.cell? ⟨w.heap.size, 1, none⟩ = some (.slice A2 x.hi.length c2) := by
    refine ⟨?_, ?_⟩ <;> (rw [b1.cell (by simp [World.setCell]; try (omega))]; go_simp)
  have PR1 : w1.cell? ⟨w.heap.size + 1, 0, none⟩ = some (.slice none 0 0) ∧ w1.cell? ⟨w.heap.size + 1, 1, none⟩ = some (.slice none 0 0) := by
    refine ⟨?_, ?_⟩ <;> (rw [b1.cell (by simp [World.setCell]; try (omega))]; go_simp)
  have PO1 : w1.cell? ⟨w.heap.size + 2, 0, none⟩ = some (.slice none 0 0) ∧ w1.cell? ⟨w.heap.size + 2, 1, none⟩ = some (.slice none 0 0) := by
    refine ⟨?_, ?_⟩ <;> (rw [b1.cell (by simp [World.setCell]; try (omega))]; go_simp)
  have F1 : w1.frozen? ⟨w.heap.size + 1, 0, none⟩ = false ∧ w1.frozen? ⟨w.heap.size + 1, 1, none⟩ = false ∧ w1.frozen? ⟨w.heap.size + 2, 0, none⟩ = false ∧ w1.frozen? ⟨w.heap.size + 2, 1, none⟩ = false := by
    refine ⟨?_, ?_, ?_, ?_⟩ <;> (rw [b1.frozen (by simp [World.setCell]; try (omega))]; go_simp)
  have S1 : Below w.heap.size w w1 := bel
  have ZS1 := Lib.hid (show w.heap.size + 3 ≤ w1.heap.size by have := b1.size; (try simp [World.setCell] at this); omega)
  have RR1_1 := Lib.hid r1; have HB1 := Lib.hid hb1; have ND1 := Lib.hid nd1; have LT1 := Lib.hid (Rep.lt _ r1)
  clear r1 hb1 nd1 hy1 b1
  go_wp2_with fail
  refine (toAffineS_c (G2.out.below (by first | with_reducible exact S1 | exact S1.setCell (by simp; try omega) _ | exact (S1.setCell (by simp; try omega) _).setCell (by simp; try omega) _ | exact ((S1.setCell (by simp; try omega) _).setCell (by simp; try omega) _).setCell (by simp; try omega) _)) Z2.out).mono ?_
  rintro e w2 ⟨Ar2, nr2, cr2, bs2, rfl, r2, nd2, hy2, b2⟩
  obtain ⟨hn2, _, _⟩ := r2.sls_len
  subst hn2
  have hb2 : ∀ y ∈ bs2, w.heap.size + 3 ≤ y := fun y hy => by have := hy2 y hy; (try simp [World.setCell] at this); have := ZS1.out; omega
  have hc2 : ∀ y ∈ bs2, w1.heap.size ≤ y := fun y hy => by have := hy2 y hy; (try simp [World.setCell] at this); omega
  have PA2 : w2.cell? ⟨w.heap.size, 0, none⟩ = some (.slice A1 x.lo.length c1) ∧ w2.cell? ⟨w.heap.size, 1, none⟩ = some (.slice A2 x.hi.length c2) := by
    refine ⟨?_, ?_⟩ <;> (rw [b2.cell (by simp [World.setCell]; try (have := ZS1.out; omega))]; go_simp)
  have PR2 : w2.cell? ⟨w.heap.size + 1, 0, none⟩ = some (.slice none 0 0) ∧ w2.cell? ⟨w.heap.size + 1, 1, none⟩ = some (.slice none 0 0) := by
    refine ⟨?_, ?_⟩ <;> (rw [b2.cell (by simp [World.setCell]; try (have := ZS1.out; omega))]; go_simp)
  have PO2 : w2.cell? ⟨w.heap.size + 2, 0, none⟩ = some (.slice Ar1 x.lo.length cr1) ∧ w2.cell? ⟨w.heap.size + 2, 1, none⟩ = some (.slice none 0 0) := by
    refine ⟨?_, ?_⟩ <;> (rw [b2.cell (by simp [World.setCell]; try (have := ZS1.out; omega))]; go_simp)
  have F2 : w2.frozen? ⟨w.heap.size + 1, 0, none⟩ = false ∧ w2.frozen? ⟨w.heap.size + 1, 1, none⟩ = false ∧ w2.frozen? ⟨w.heap.size + 2, 0, none⟩ = false ∧ w2.frozen? ⟨w.heap.size + 2, 1, none⟩ = false := by
    refine ⟨?_, ?_, ?_, ?_⟩ <;> (rw [b2.frozen (by simp [World.setCell]; try (have := ZS1.out; omega))]; go_simp)
  have RR1_2 := Lib.hid (show Rep w2 (sls Aff.d x.lo) [.slice Ar1 x.lo.length cr1] bs1 from Rep.below (Rep.keep _ RR1_1.out (by repeat (first | with_reducible exact Keeps.refl _ _ | refine Keeps.setCell ?_ (fun hm => by have := HB1.out _ hm; dsimp only at this; omega) _))) b2); clear RR1_1
  have S2 : Below w.heap.size w w2 := by
    refine below_tr (a := _) ?_ b2
    exact (by first | with_reducible exact S1 | exact S1.setCell (by simp; try omega) _ | exact (S1.setCell (by simp; try omega) _).setCell (by simp; try omega) _ | exact ((S1.setCell (by simp; try omega) _).setCell (by simp; try omega) _).setCell (by simp; try omega) _)
  have ZS2 := Lib.hid (show w.heap.size + 3 ≤ w2.heap.size by have := b2.size; (try simp [World.setCell] at this); have := ZS1.out; omega)
  have ZT2 := Lib.hid (show w1.heap.size ≤ w2.heap.size by have := b2.size; (try simp [World.setCell] at this); omega)
  have RR2_2 := Lib.hid r2; have HB2 := Lib.hid hb2; have ND2 := Lib.hid nd2; have LT2 := Lib.hid (Rep.lt _ r2); have HC2 := Lib.hid hc2
  clear r2 hb2 nd2 hy2 b2 hc2 PA1 PR1 PO1 F1
  have RALL := Lib.hid (show Rep w2 x.d [.slice Ar1 x.lo.length cr1, .slice Ar2 x.hi.length cr2] (bs1 ++ bs2) from (show ∀ W, Reps W [sls Aff.d x.lo, sls Aff.d x.hi] ([.slice Ar1 x.lo.length cr1] ++ ([.slice Ar2 x.hi.length cr2] ++ ([]))) (bs1 ++ (bs2 ++ ([]))) → Rep W x.d [.slice Ar1 x.lo.length cr1, .slice Ar2 x.hi.length cr2] (bs1 ++ bs2) from fun W hq => by simpa [List.append_assoc] using (show Rep W x.d _ _ from hq)) _ ⟨_, _, _, _, rfl, rfl, RR1_2.out, ⟨_, _, _, _, rfl, rfl, RR2_2.out, ⟨rfl, rfl⟩⟩⟩)
  have NDALL := Lib.hid (show (bs1 ++ bs2 : List Nat).Nodup from List.nodup_append.2 ⟨ND1.out, ND2.out, fun y h1 z h2 e => by
      subst e
      have h3 := HC2.out y h2
      (have := LT1.out y h1; omega)⟩)
  have HBALL := Lib.hid (show ∀ y ∈ (bs1 ++ bs2 : List Nat), w.heap.size + 3 ≤ y from (fun y hy => by
    simp only [List.mem_append] at hy
    rcases hy with hy | hy
    · exact HB1.out y hy
    · exact HB2.out y hy))
  clear RR1_2 HB1 ND1 LT1 RR2_2 HB2 ND2 LT2 HC2 ZT2
  go_wp2
  refine bodyPost_ret (v := .agg #[.slice Ar1 x.lo.length cr1, .slice Ar2 x.hi.length cr2]) (by simp [results, Tryz.results173, go_sem, PR2, PO2]) rfl ⟨[.slice Ar1 x.lo.length cr1, .slice Ar2 x.hi.length cr2], bs1 ++ bs2, rfl, ?_, NDALL.out, fun y hy => by have := HBALL.out y hy; omega, ?_⟩
  · exact Rep.keep _ RALL.out (by repeat (first | with_reducible exact Keeps.refl _ _ | refine Keeps.setCell ?_ (fun hm => by have := HBALL.out _ hm; dsimp only at this; omega) _))
  · exact (by repeat (first | with_reducible exact S2 | refine Below.setCell ?_ (by simp; try omega) _))

theorem Tryz.makeLoop : (Tryz.prog.info? 78).map (fun i => (i.zero, i.size, decide (i.bytes ≤ 1024))) = some (some (.agg #[.slice none 0 0, .slice none 0 0]), 2, true) := by kernel_rfl
set_option maxHeartbeats 2000000 in
theorem toLoopS_c {w : World} {xs : List Lp} {A : Option Addr} {n c : Nat} {bs : List Nat} (h : Rep w (sls Lp.d xs) [.slice A n c] bs) (hz : szD (sls Lp.d xs) ≤ 10000000) :
    Calls Tryz.prog 125 #[.slice A n c] w (MadeS w (sls Lp.d xs)) := by
  obtain ⟨rfl, h2, h3⟩ := h.sls_len
  have hn : xs.length ≤ 9223372036854775807 := Nat.le_trans h2 h3
  have H := Lib.hid h; clear h h2 h3
  have HZ := Lib.hid (show xs.length + szDs (xs.map Lp.d) ≤ 10000000 by rw [← szD_sls]; exact hz); clear hz
  obtain ⟨i0, hi, hzz⟩ := Option.map_eq_some_iff.1 Tryz.makeLoop
  simp only [Prod.mk.injEq, decide_eq_true_iff] at hzz
  have hmk := fun W => run_make_rows (P := Tryz.prog) 35 78 (.agg #[.slice none 0 0, .slice none 0 0]) 2 i0.bytes Tryz.underlying35 (by rw [hi, Option.map_some, hzz.1, hzz.2.1]) .i64 .i64 xs.length (by
    have h1 := HZ.out
    have h2 := Nat.mul_le_mul hzz.2.2 (show xs.length ≤ 10000000 by omega)
    omega) (by omega) W
  clear hi hzz
  go_enter Tryz.func125, Tryz.ntmps125
  go_wp2
  clear hmk
  have hrow0 := Row.made w (Value.agg #[.slice none 0 0, .slice none 0 0]).cells (xs.length * 2) 78
  have hlen0 : (madeCells (Value.agg #[.slice none 0 0, .slice none 0 0]).cells (xs.length * 2)).toList.length = xs.length * 2 := by simp [size_madeCells]
  have HR0 := Lib.hid (And.intro hrow0 hlen0); clear hrow0 hlen0
  go_loopw [4] (fun i wr => ∃ (j : Nat) (es rest : List Value) (cb : List Nat), j ≤ xs.length ∧ i = .int .i64 j ∧ Row wr w.heap.size 78 (es ++ rest) ∧ es.length = j * 2 ∧ rest.length + j * 2 = xs.length * 2 ∧ Reps wr ((xs.take j).map Lp.d) es cb ∧ cb.Nodup ∧ (∀ y ∈ cb, w.heap.size + 1 ≤ y) ∧ Below w.heap.size w wr) (fun i _ => xs.length - (intOf i).toNat)
  case atStart => exact ⟨0, [], _, [], Nat.zero_le _, rfl, HR0.out.1, by simp, by simp; simpa using HR0.out.2, by simp [Reps], by simp, by simp, bel⟩
  case round =>
    obtain ⟨j, es, rest, cb, hj, rfl, hrow, hes, hrest, hreps, hnd, hcb, hb⟩ := hrel
    have HE := Lib.hid (And.intro hes (And.intro hrest (And.intro hreps (And.intro hnd hcb)))); clear hes hrest hreps hnd hcb
    have HROW := Lib.hid hrow; clear hrow
    by_cases hlt : j < xs.length
    · have hsz1 := szTo_succ Lp.d hlt
      have hsz2 := szTo_le Lp.d (xs := xs) (j + 1)
      have HX := Lib.hid (show szD (Lp.d xs[j]) ≤ 10000000 by have := HZ.out; omega); clear hsz1 hsz2
      obtain ⟨b, o, cs, l, rfl, hbl, hr, _, _, hc⟩ := (H.out.below hb).sls_at Lp.d_size (k := j) hlt
      have G := Lib.hid hr
      obtain ⟨A1, c1, A2, c2, d1, d2, rfl, rfl, g1, g2⟩ := Rep.lp_iff.1 hr
      have k0 := (hc 0 _ rfl).1; rw [Nat.add_zero] at k0
      have k1 := (hc 1 _ rfl).1
      clear hc hr g1 g2
      go_wp2_with fail
      refine (toLoop_c G.out HX.out).mono ?_
      rintro e w1 ⟨cs1, bs1, rfl, r1', nd1, hb1, b1⟩
      have R1 := Lib.hid r1'
      obtain ⟨A1r, c1r, A2r, c2r, d1r, d2r, hcs1, _⟩ := Rep.lp_iff.1 r1'
      subst hcs1
      clear r1'
      obtain ⟨hes, hrest, hreps, hnd, hcb⟩ := HE.out
      have hzr := hb.size
      have hg0 := HROW.out.lt
      have hrow1 := HROW.out.to b1
      rcases rest with _ | ⟨u0, rest⟩
      · simp only [List.length_nil] at hrest; omega
      rcases rest with _ | ⟨u1, rest⟩
      · simp only [List.length_cons, List.length_nil] at hrest; omega
      have o0 : w1.cell? ⟨w.heap.size, j * 2, none⟩ = some u0 := by rw [hrow1.cell, List.getElem?_append_right (by omega), hes]; simp
      have f0 : w1.frozen? ⟨w.heap.size, j * 2, none⟩ = false := hrow1.frozen _
      have o1 : w1.cell? ⟨w.heap.size, j * 2 + 1, none⟩ = some u1 := by rw [hrow1.cell, List.getElem?_append_right (by omega), hes]; simp
      have f1 : w1.frozen? ⟨w.heap.size, j * 2 + 1, none⟩ = false := hrow1.frozen _
      have s0 : Row w1 w.heap.size 78 (es ++ u0 :: u1 :: rest) := hrow1
      have s1 := s0.set_in (.slice A1r xs[j].lo.length c1r)
      rw [show (es : List Value).length = j * 2 by simp [hes]] at s1
      have s2 := s1.set_in (.slice A2r xs[j].hi.length c2r)
      rw [show (es ++ [.slice A1r xs[j].lo.length c1r] : List Value).length = j * 2 + 1 by simp [hes]] at s2
      have HS := Lib.hid s2; clear s0 s1 s2 hrow1 HROW
      have HM := Lib.hid (And.intro hes (And.intro hrest (And.intro hreps (And.intro hnd (And.intro hcb (And.intro nd1 (And.intro hb1 (And.intro hb b1)))))))); clear hes hrest hreps hnd hcb nd1 hb1 hb b1
      go_wp2
      go_roundw
      case rel =>
        obtain ⟨hes, hrest, hreps, hnd, hcb, nd1, hb1, hb, b1⟩ := HM.out
        have hn1 : w.heap.size ∉ bs1 := fun hm => by have := hb1 _ hm; omega
        have hn2 : w.heap.size ∉ cb := fun hm => by have := hcb _ hm; omega
        refine ⟨j + 1, _, rest, cb ++ bs1, by omega, by go_num, HS.out, by simp [hes]; omega, by simp only [List.length_cons] at hrest; omega, ?_, ?_, ?_, ?_⟩
        · rw [List.take_succ_eq_append_getElem hlt, List.map_append]
          have hk1 := Reps.keep _ hreps (Keeps.of_below b1 (Reps.lt _ hreps))
          rw [show (es ++ [.slice A1r xs[j].lo.length c1r] ++ [.slice A2r xs[j].hi.length c2r] : List Value) = es ++ [.slice A1r xs[j].lo.length c1r, .slice A2r xs[j].hi.length c2r] by simp]
          exact reps_snoc (Reps.keep _ hk1 (((Keeps.refl _ _).setCell hn2 _).setCell hn2 _)) (Rep.keep _ R1.out (((Keeps.refl _ _).setCell hn1 _).setCell hn1 _))
        · refine List.nodup_append.2 ⟨hnd, nd1, fun y h1 z h2 e => ?_⟩
          subst e
          have q1 := Reps.lt _ hreps y h1
          have q2 := hb1 y h2
          omega
        · intro y hy
          rcases List.mem_append.1 hy with hy | hy
          · exact hcb y hy
          · have := hb1 y hy; omega
        · exact (((below_tr hb b1).setCell (Nat.le_refl _) _).setCell (Nat.le_refl _) _)
      case measure => simp [intOf]; omega
    · have hjj : j = xs.length := by omega
      subst hjj
      obtain ⟨hes, hrest, hreps, hnd, hcb⟩ := HE.out
      rw [List.take_length] at hreps
      have hres := Row.rep HROW.out hreps (c := xs.length) (by simp) (by have := HZ.out; unfold maxLen; omega)
      rw [List.length_map] at hres
      have HF := Lib.hid (And.intro hres (And.intro hnd hcb)); clear hres hnd hcb hreps hes hrest
      go_wp2
      go_ret
      obtain ⟨hres, hnd, hcb⟩ := HF.out
      exact ⟨_, _, _, _, rfl, hres, List.nodup_cons.2 ⟨fun hm => by have := hcb _ hm; omega, hnd⟩, fun y hy => by
        rcases List.mem_cons.1 hy with rfl | hy
        · exact Nat.le_refl _
        · have := hcb y hy; omega, hb⟩

end Go.Proofs.YtbhniobgaoncaaaGreatDoor
