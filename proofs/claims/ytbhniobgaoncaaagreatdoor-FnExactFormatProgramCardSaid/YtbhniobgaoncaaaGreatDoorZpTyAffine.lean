/- The Go type Affine: how it reads; the law package's functions on it and on slices of it. Printed by tygen.py. -/
import Derived.Test.YtbhniobgaoncaaaGreatDoorZpCore
set_option linter.all false
set_option linter.unusedSimpArgs false
set_option linter.unusedVariables false
namespace Go.Proofs.YtbhniobgaoncaaaGreatDoor
open Go.ChangeShapes Go.WideShapes Go.ChangeAt Go.RowKit Go.Deep

theorem Aff.d_size (x : Aff) : x.d.size = 2 := rfl
theorem Rep.aff_iff2 {w : World} {x : Aff} {cs : List Value} {bs : List Nat} : Rep w x.d cs bs ↔ ∃ (A1 : Option Addr) (c1 : Nat) (d1 : List Nat), cs = [.slice A1 x.coefs.length c1, .int .i64 x.const] ∧ bs = d1 ∧ Rep w (ints x.coefs) [.slice A1 x.coefs.length c1] d1 ∧ I64 x.const := by
  constructor
  · intro h
    replace h : Reps w [ints x.coefs, .int x.const] cs bs := h
    obtain ⟨_, _, _, _, rfl, rfl, g1, h⟩ := h
    obtain ⟨_, _, _, _, rfl, rfl, g2, h⟩ := h
    obtain ⟨rfl, rfl⟩ := h
    obtain ⟨B1, e1, rfl, _⟩ := g1.ints_form
    obtain ⟨rfl, rfl, g2⟩ := g2
    exact ⟨_, _, _, rfl, by simp, g1, g2⟩
  · rintro ⟨A1, c1, d1, rfl, rfl, g1, g2⟩
    have h : Reps w [ints x.coefs, .int x.const] _ _ := ⟨_, _, _, _, rfl, rfl, g1, ⟨_, _, _, _, rfl, rfl, ⟨rfl, rfl, g2⟩, ⟨rfl, rfl⟩⟩⟩
    simpa using (show Rep w x.d _ _ from h)

theorem eqAffine_d {w : World} {x : Aff} {cs cs' : List Value} {bs bs' : List Nat} (h : Rep w x.d cs bs) (h' : Rep w x.d cs' bs') :
    Calls Tryz.prog 106 #[.agg cs.toArray, .agg cs'.toArray] w fun e w' => e = .returned (.bool true) ∧ Below w.heap.size w w' := by
  obtain ⟨A, n, c, rfl, _⟩ := Rep.aff_iff.1 h
  obtain ⟨A', n', c', rfl, _⟩ := Rep.aff_iff.1 h'
  exact eqAffine_c h h'
set_option maxHeartbeats 1000000 in
theorem eqAffineS_c {w : World} {xs : List Aff} {A B : Option Addr} {n m c d : Nat} {bs bs' : List Nat} (hA : Rep w (sls Aff.d xs) [.slice A n c] bs) (hB : Rep w (sls Aff.d xs) [.slice B m d] bs') :
    Calls Tryz.prog 89 #[.slice A n c, .slice B m d] w fun e w' => e = .returned (.bool true) ∧ Below w.heap.size w w' := by
  obtain ⟨rfl, h1, h2⟩ := hA.sls_len
  obtain ⟨rfl, _, _⟩ := hB.sls_len
  have hn : xs.length ≤ 9223372036854775807 := Nat.le_trans h1 h2
  clear h1 h2
  have hl1 : ((xs.length : Int) != (xs.length : Int)) = false := by simp
  have HA := Lib.hid hA; clear hA
  have HB := Lib.hid hB; clear hB
  go_enter Tryz.func89, Tryz.ntmps89
  go_wp2
  go_loopw [5] (fun i wr => ∃ k : Nat, k ≤ xs.length ∧ i = .int .i64 k ∧ Below w.heap.size w wr) (fun i _ => xs.length - (intOf i).toNat)
  case atStart => exact ⟨0, Nat.zero_le _, rfl, Below.refl _ _⟩
  case round =>
    obtain ⟨k, hk, rfl, hb⟩ := hrel
    by_cases hlt : k < xs.length
    · obtain ⟨b, o, cs, l, rfl, hbl, hr, _, _, hc⟩ := (HA.out.below hb).sls_at Aff.d_size hlt
      have G := Lib.hid hr
      obtain ⟨A1, c1, d1, rfl, rfl, g1, g2⟩ := Rep.aff_iff2.1 hr
      have k0 := (hc 0 _ rfl).1; rw [Nat.add_zero] at k0
      have k1 := (hc 1 _ rfl).1
      clear hc hr g1 g2
      obtain ⟨b', o', cs', l', rfl, hbl', hr', _, _, hc'⟩ := (HB.out.below hb).sls_at Aff.d_size hlt
      have G' := Lib.hid hr'
      obtain ⟨A1', c1', d1', rfl, rfl, g1', g2'⟩ := Rep.aff_iff2.1 hr'
      have k0' := (hc' 0 _ rfl).1; rw [Nat.add_zero] at k0'
      have k1' := (hc' 1 _ rfl).1
      clear hc' hr' g1' g2'
      go_wp2_with fail
      go_region_held3 (fun w' => w'.cell? ⟨b, o + k * 2, none⟩ = some (.slice A1 xs[k].coefs.length c1) ∧ w'.cell? ⟨b, o + k * 2 + 1, none⟩ = some (.int .i64 xs[k].const) ∧ w'.cell? ⟨b', o' + k * 2, none⟩ = some (.slice A1' xs[k].coefs.length c1') ∧ w'.cell? ⟨b', o' + k * 2 + 1, none⟩ = some (.int .i64 xs[k].const)) (first | exact ⟨k0, k1, k0', k1'⟩ | exact ⟨(by rw [b1.cell hbl]; exact k0), (by rw [b1.cell hbl]; exact k1), (by rw [b1.cell hbl']; exact k0'), (by rw [b1.cell hbl']; exact k1')⟩ | skip)
        (first | (go_at_call 106; refine (eqAffine_d (G.out.drewN 1) (G'.out.drewN 1)).mono ?_; rintro e w1 ⟨rfl, b1⟩; replace b1 := of_drew b1))
      have S1 := below_tr hb b1
      clear b1
      go_wp2
      go_roundw
      case rel => exact ⟨k + 1, by omega, by go_num, S1⟩
      case measure => simp [intOf]; omega
    · go_wp2
      go_ret
      exact ⟨rfl, hb⟩

theorem szD_aff (x : Aff) : szD x.d = x.coefs.length := by
  have h : szD x.d = szDs [ints x.coefs, .int x.const] := by simp only [Aff.d, szD]
  rw [h]; simp only [szDs, szD, szD_ints]; omega
set_option maxHeartbeats 2000000 in
theorem szAffine_d {w : World} {x : Aff} {cs : List Value} {bs : List Nat} {left : Int} (h : Rep w x.d cs bs) (h0 : 0 ≤ left) (h1 : left ≤ 1048576) :
    Calls Tryz.prog 252 #[.agg cs.toArray, .int .i64 left] w fun e w' => e = .returned (.int .i64 (szR left (szD x.d))) ∧ Below w.heap.size w w' := by
  obtain ⟨A1, c1, d1, rfl, rfl, g1, g2⟩ := Rep.aff_iff2.1 h
  rw [szD_aff x]
  have G1 := Lib.hid g1
  clear h g1 g2
  by_cases hs0 : (left : Int) - ((x.coefs.length : Nat) : Int) < 0
  · have HR := Lib.hid (show szR left (x.coefs.length) = -1 from szR_neg (by omega))
    have HS0 := Lib.hid (szR_neg hs0)
    go_enter Tryz.func252, Tryz.ntmps252
    go_wp2_with fail
    refine (szIntS_c (G1.out.below bel) (by omega) (by omega)).mono ?_
    rintro e w1 ⟨rfl, rfl⟩
    rw [HS0.out]
    go_wp2
    go_ret
    exact ⟨ret_int HR.out.symm, bel⟩
  · have HS0 := Lib.hid (szR_pos (left := left) (tot := x.coefs.length) (by omega))
    have hp0 : 0 ≤ left - ((x.coefs.length : Nat) : Int) := by omega
    clear hs0
    have HR := Lib.hid (show szR left (x.coefs.length) = left - ((x.coefs.length : Nat) : Int) by rw [szR_pos (by omega)] <;> omega)
    go_enter Tryz.func252, Tryz.ntmps252
    go_wp2_with fail
    refine (szIntS_c (G1.out.below bel) (by omega) (by omega)).mono ?_
    rintro e w1 ⟨rfl, rfl⟩
    rw [HS0.out]
    go_wp2
    go_ret
    exact ⟨ret_int HR.out.symm, bel⟩

set_option maxHeartbeats 2000000 in
theorem szAffineS_c {w : World} {xs : List Aff} {A : Option Addr} {n c : Nat} {bs : List Nat} {left : Int} (h : Rep w (sls Aff.d xs) [.slice A n c] bs) (h0 : 0 ≤ left) (h1 : left ≤ 1048576) :
    Calls Tryz.prog 218 #[.slice A n c, .int .i64 left] w fun e w' => e = .returned (.int .i64 (szR left (szD (sls Aff.d xs)))) ∧ Below w.heap.size w w' := by
  obtain ⟨rfl, h2, h3⟩ := h.sls_len
  have hn : xs.length ≤ 9223372036854775807 := Nat.le_trans h2 h3
  have H := Lib.hid h; clear h h2 h3
  have HT := Lib.hid (szD_sls Aff.d xs)
  by_cases hs : left - ((xs.length : Nat) : Int) < 0
  · have hr := Lib.hid (show szR left (szD (sls Aff.d xs)) = -1 from szR_neg (by rw [HT.out]; omega))
    go_enter Tryz.func218, Tryz.ntmps218
    go_wp2
    go_ret
    exact ⟨ret_int hr.out.symm, bel⟩
  have hp : 0 ≤ left - ((xs.length : Nat) : Int) := by omega
  clear hs
  go_enter Tryz.func218, Tryz.ntmps218
  go_wp2
  go_loopw [1, 5] (fun u i wr => ∃ j : Nat, j ≤ xs.length ∧ i = .int .i64 j ∧ u = .int .i64 (left - ((xs.length : Nat) : Int) - ((szTo Aff.d xs j : Nat) : Int)) ∧ 0 ≤ left - ((xs.length : Nat) : Int) - ((szTo Aff.d xs j : Nat) : Int) ∧ Below w.heap.size w wr) (fun _ i _ => xs.length - (intOf i).toNat)
  case atStart => exact ⟨0, Nat.zero_le _, rfl, int_eq (by simp [szTo_zero]), by rw [szTo_zero]; omega, Below.refl _ _⟩
  case round =>
    obtain ⟨j, hj, rfl, rfl, hge, hb⟩ := hrel
    by_cases hlt : j < xs.length
    · have HD := Lib.hid (szTo_succ Aff.d hlt)
      have HE := Lib.hid (szTo_le Aff.d (xs := xs) (j + 1))
      obtain ⟨b, o, cs, l, rfl, hbl, hr, _, _, hc⟩ := (H.out.below hb).sls_at Aff.d_size (k := j) hlt
      have G := Lib.hid hr
      obtain ⟨A1, c1, d1, rfl, rfl, g1, g2⟩ := Rep.aff_iff2.1 hr
      have k0 := (hc 0 _ rfl).1; rw [Nat.add_zero] at k0
      have k1 := (hc 1 _ rfl).1
      clear hc hr g1 g2
      by_cases hx : left - ((xs.length : Nat) : Int) - ((szTo Aff.d xs j : Nat) : Int) - ((szD (Aff.d xs[j]) : Nat) : Int) < 0
      · have HN := Lib.hid (szR_neg hx)
        have hr2 := Lib.hid (show szR left (szD (sls Aff.d xs)) = -1 from szR_neg (by have h4 := HE.out; rw [HD.out] at h4; rw [HT.out]; omega))
        go_wp2_with fail
        refine (szAffine_d G.out (by omega) (by omega)).mono ?_
        rintro e w1 ⟨rfl, b1⟩
        rw [HN.out]
        go_wp2
        go_ret
        exact ⟨ret_int hr2.out.symm, below_tr hb b1⟩
      · have HN := Lib.hid (szR_pos (left := left - ((xs.length : Nat) : Int) - ((szTo Aff.d xs j : Nat) : Int)) (tot := szD (Aff.d xs[j])) (by omega))
        have hge2 : 0 ≤ left - ((xs.length : Nat) : Int) - ((szTo Aff.d xs j : Nat) : Int) - ((szD (Aff.d xs[j]) : Nat) : Int) := by omega
        go_wp2_with fail
        refine (szAffine_d G.out (by omega) (by omega)).mono ?_
        rintro e w1 ⟨rfl, b1⟩
        rw [HN.out]
        go_wp2
        go_roundw
        case rel => exact ⟨j + 1, by omega, by go_num, int_eq (by rw [HD.out]; omega), by rw [HD.out]; omega, below_tr hb b1⟩
        case measure => simp [intOf]; omega
    · have hjj : j = xs.length := by omega
      subst hjj
      have hr2 := Lib.hid (show szR left (szD (sls Aff.d xs)) = left - ((xs.length : Nat) : Int) - ((szTo Aff.d xs xs.length : Nat) : Int) by rw [szTo_all, szR_pos (by rw [HT.out]; rw [szTo_all] at hge; omega), HT.out]; omega)
      go_wp2
      go_ret
      exact ⟨ret_int hr2.out.symm, hb⟩

theorem toAffine_d {w : World} {x : Aff} {cs : List Value} {bs : List Nat} (h : Rep w x.d cs bs) (hz : szD x.d ≤ 10000000) :
    Calls Tryz.prog 255 #[.agg cs.toArray] w (MadeT w x.d) := by
  obtain ⟨A, n, c, rfl, h1, _⟩ := Rep.aff_iff.1 h
  have hn : n ≤ 10000000 := by
    rw [h1.ints_len.1]; rw [szD_aff] at hz; exact hz
  refine (toAffine_c h hn).mono ?_
  rintro e w1 ⟨g, rfl, r, hg, b⟩
  exact ⟨_, _, rfl, r, by simp, by simpa using hg, b⟩
theorem Tryz.makeAffine : (Tryz.prog.info? 46).map (fun i => (i.zero, i.size, decide (i.bytes ≤ 1024))) = some (some (.agg #[.slice none 0 0, .int .i64 0]), 2, true) := by kernel_rfl
set_option maxHeartbeats 2000000 in
theorem toAffineS_c {w : World} {xs : List Aff} {A : Option Addr} {n c : Nat} {bs : List Nat} (h : Rep w (sls Aff.d xs) [.slice A n c] bs) (hz : szD (sls Aff.d xs) ≤ 10000000) :
    Calls Tryz.prog 225 #[.slice A n c] w (MadeS w (sls Aff.d xs)) := by
  obtain ⟨rfl, h2, h3⟩ := h.sls_len
  have hn : xs.length ≤ 9223372036854775807 := Nat.le_trans h2 h3
  have H := Lib.hid h; clear h h2 h3
  have HZ := Lib.hid (show xs.length + szDs (xs.map Aff.d) ≤ 10000000 by rw [← szD_sls]; exact hz); clear hz
  obtain ⟨i0, hi, hzz⟩ := Option.map_eq_some_iff.1 Tryz.makeAffine
  simp only [Prod.mk.injEq, decide_eq_true_iff] at hzz
  have hmk := fun W => run_make_rows (P := Tryz.prog) 41 46 (.agg #[.slice none 0 0, .int .i64 0]) 2 i0.bytes Tryz.underlying41 (by rw [hi, Option.map_some, hzz.1, hzz.2.1]) .i64 .i64 xs.length (by
    have h1 := HZ.out
    have h2 := Nat.mul_le_mul hzz.2.2 (show xs.length ≤ 10000000 by omega)
    omega) (by omega) W
  clear hi hzz
  go_enter Tryz.func225, Tryz.ntmps225
  go_wp2
  clear hmk
  have hrow0 := Row.made w (Value.agg #[.slice none 0 0, .int .i64 0]).cells (xs.length * 2) 46
  have hlen0 : (madeCells (Value.agg #[.slice none 0 0, .int .i64 0]).cells (xs.length * 2)).toList.length = xs.length * 2 := by simp [size_madeCells]
  have HR0 := Lib.hid (And.intro hrow0 hlen0); clear hrow0 hlen0
  go_loopw [4] (fun i wr => ∃ (j : Nat) (es rest : List Value) (cb : List Nat), j ≤ xs.length ∧ i = .int .i64 j ∧ Row wr w.heap.size 46 (es ++ rest) ∧ es.length = j * 2 ∧ rest.length + j * 2 = xs.length * 2 ∧ Reps wr ((xs.take j).map Aff.d) es cb ∧ cb.Nodup ∧ (∀ y ∈ cb, w.heap.size + 1 ≤ y) ∧ Below w.heap.size w wr) (fun i _ => xs.length - (intOf i).toNat)
  case atStart => exact ⟨0, [], _, [], Nat.zero_le _, rfl, HR0.out.1, by simp, by simp; simpa using HR0.out.2, by simp [Reps], by simp, by simp, bel⟩
  case round =>
    obtain ⟨j, es, rest, cb, hj, rfl, hrow, hes, hrest, hreps, hnd, hcb, hb⟩ := hrel
    have HE := Lib.hid (And.intro hes (And.intro hrest (And.intro hreps (And.intro hnd hcb)))); clear hes hrest hreps hnd hcb
    have HROW := Lib.hid hrow; clear hrow
    by_cases hlt : j < xs.length
    · have hsz1 := szTo_succ Aff.d hlt
      have hsz2 := szTo_le Aff.d (xs := xs) (j + 1)
      have HX := Lib.hid (show szD (Aff.d xs[j]) ≤ 10000000 by have := HZ.out; omega); clear hsz1 hsz2
      obtain ⟨b, o, cs, l, rfl, hbl, hr, _, _, hc⟩ := (H.out.below hb).sls_at Aff.d_size (k := j) hlt
      have G := Lib.hid hr
      obtain ⟨A1, c1, d1, rfl, rfl, g1, g2⟩ := Rep.aff_iff2.1 hr
      have k0 := (hc 0 _ rfl).1; rw [Nat.add_zero] at k0
      have k1 := (hc 1 _ rfl).1
      clear hc hr g1 g2
      go_wp2_with fail
      refine (toAffine_d G.out HX.out).mono ?_
      rintro e w1 ⟨cs1, bs1, rfl, r1', nd1, hb1, b1⟩
      have R1 := Lib.hid r1'
      obtain ⟨A1r, c1r, d1r, hcs1, _⟩ := Rep.aff_iff2.1 r1'
      subst hcs1
      clear r1'
      obtain ⟨hes, hrest, hreps, hnd, hcb⟩ := HE.out
      have hzr := hb.size
      have hg0 := HROW.out.lt
      have hrow1 := HROW.out.to b1
      rcases rest with _ | ⟨u0, rest⟩
      · simp only [List.length_nil] at hrest; omega
      rcases rest with _ | ⟨u1, rest⟩
      · simp only [List.length_cons, List.length_nil] at hrest; omega
      have o0 : w1.cell? ⟨w.heap.size, j * 2, none⟩ = some u0 := by rw [hrow1.cell, List.getElem?_append_right (by omega), hes]; simp
      have f0 : w1.frozen? ⟨w.heap.size, j * 2, none⟩ = false := hrow1.frozen _
      have o1 : w1.cell? ⟨w.heap.size, j * 2 + 1, none⟩ = some u1 := by rw [hrow1.cell, List.getElem?_append_right (by omega), hes]; simp
      have f1 : w1.frozen? ⟨w.heap.size, j * 2 + 1, none⟩ = false := hrow1.frozen _
      have s0 : Row w1 w.heap.size 46 (es ++ u0 :: u1 :: rest) := hrow1
      have s1 := s0.set_in (.slice A1r xs[j].coefs.length c1r)
      rw [show (es : List Value).length = j * 2 by simp [hes]] at s1
      have s2 := s1.set_in (.int .i64 xs[j].const)
      rw [show (es ++ [.slice A1r xs[j].coefs.length c1r] : List Value).length = j * 2 + 1 by simp [hes]] at s2
      have HS := Lib.hid s2; clear s0 s1 s2 hrow1 HROW
      have HM := Lib.hid (And.intro hes (And.intro hrest (And.intro hreps (And.intro hnd (And.intro hcb (And.intro nd1 (And.intro hb1 (And.intro hb b1)))))))); clear hes hrest hreps hnd hcb nd1 hb1 hb b1
      go_wp2
      go_roundw
      case rel =>
        obtain ⟨hes, hrest, hreps, hnd, hcb, nd1, hb1, hb, b1⟩ := HM.out
        have hn1 : w.heap.size ∉ bs1 := fun hm => by have := hb1 _ hm; omega
        have hn2 : w.heap.size ∉ cb := fun hm => by have := hcb _ hm; omega
        refine ⟨j + 1, _, rest, cb ++ bs1, by omega, by go_num, HS.out, by simp [hes]; omega, by simp only [List.length_cons] at hrest; omega, ?_, ?_, ?_, ?_⟩
        · rw [List.take_succ_eq_append_getElem hlt, List.map_append]
          have hk1 := Reps.keep _ hreps (Keeps.of_below b1 (Reps.lt _ hreps))
          rw [show (es ++ [.slice A1r xs[j].coefs.length c1r] ++ [.int .i64 xs[j].const] : List Value) = es ++ [.slice A1r xs[j].coefs.length c1r, .int .i64 xs[j].const] by simp]
          exact reps_snoc (Reps.keep _ hk1 (((Keeps.refl _ _).setCell hn2 _).setCell hn2 _)) (Rep.keep _ R1.out (((Keeps.refl _ _).setCell hn1 _).setCell hn1 _))
        · refine List.nodup_append.2 ⟨hnd, nd1, fun y h1 z h2 e => ?_⟩
          subst e
          have q1 := Reps.lt _ hreps y h1
          have q2 := hb1 y h2
          omega
        · intro y hy
          rcases List.mem_append.1 hy with hy | hy
          · exact hcb y hy
          · have := hb1 y hy; omega
        · exact (((below_tr hb b1).setCell (Nat.le_refl _) _).setCell (Nat.le_refl _) _)
      case measure => simp [intOf]; omega
    · have hjj : j = xs.length := by omega
      subst hjj
      obtain ⟨hes, hrest, hreps, hnd, hcb⟩ := HE.out
      rw [List.take_length] at hreps
      have hres := Row.rep HROW.out hreps (c := xs.length) (by simp) (by have := HZ.out; unfold maxLen; omega)
      rw [List.length_map] at hres
      have HF := Lib.hid (And.intro hres (And.intro hnd hcb)); clear hres hnd hcb hreps hes hrest
      go_wp2
      go_ret
      obtain ⟨hres, hnd, hcb⟩ := HF.out
      exact ⟨_, _, _, _, rfl, hres, List.nodup_cons.2 ⟨fun hm => by have := hcb _ hm; omega, hnd⟩, fun y hy => by
        rcases List.mem_cons.1 hy with rfl | hy
        · exact Nat.le_refl _
        · have := hcb y hy; omega, hb⟩

end Go.Proofs.YtbhniobgaoncaaaGreatDoor
