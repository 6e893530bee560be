/- Points of nests: PointIn of both sides. -/
import Derived.Test.YtgimggpmnemkbaaGreatZRange
set_option linter.all false
set_option linter.unusedSimpArgs false
set_option linter.unusedVariables false
namespace Go.Proofs.YtgimggpmnemkbaaGreat
open Go.ChangeShapes Go.WideShapes Go.ChangeAt Go.RowKit Go.Deep

/-- the j-th coordinate is in its loop's range -/
def inAt (xs : List Lp) (p : List Int) (j : Nat) : Bool := decide (loF (nthL xs j) (p.take j) ≤ gi p j) && decide (gi p j < hiF (nthL xs j) (p.take j))
/-- k coordinates from j on are -/
def inFrom (xs : List Lp) (p : List Int) : Nat → Nat → Bool
  | 0, _ => true
  | k + 1, j => inAt xs p j && inFrom xs p k (j + 1)
def PointInF (xs : List Lp) (p : List Int) : Bool := NestValidF xs && (ptOk p && (decide (p.length = xs.length) && inFrom xs p p.length 0))
theorem inFrom_step {xs : List Lp} {p : List Int} {n j : Nat} (h : j < n) : inFrom xs p (n - j) j = (inAt xs p j && inFrom xs p (n - (j + 1)) (j + 1)) := by
  rw [show n - j = (n - (j + 1)) + 1 by omega, inFrom]
theorem inAt_lo {xs : List Lp} {p : List Int} {j : Nat} (h : gi p j < loF (nthL xs j) (p.take j)) : inAt xs p j = false := by
  simp only [inAt, show ¬ loF (nthL xs j) (p.take j) ≤ gi p j by omega, decide_false, Bool.false_and]
theorem inAt_hi {xs : List Lp} {p : List Int} {j : Nat} (h : hiF (nthL xs j) (p.take j) ≤ gi p j) : inAt xs p j = false := by
  simp only [inAt, show ¬ gi p j < hiF (nthL xs j) (p.take j) by omega, decide_false, Bool.and_false]
theorem inAt_ok {xs : List Lp} {p : List Int} {j : Nat} (h1 : ¬ gi p j < loF (nthL xs j) (p.take j)) (h : ¬ hiF (nthL xs j) (p.take j) ≤ gi p j) : inAt xs p j = true := by
  simp only [inAt, show loF (nthL xs j) (p.take j) ≤ gi p j by omega, show gi p j < hiF (nthL xs j) (p.take j) by omega, decide_true, Bool.and_true]
theorem PointInF_1 {xs : List Lp} {p : List Int} (h : NestValidF xs = false) : PointInF xs p = false := by simp [PointInF, h]
theorem PointInF_2 {xs : List Lp} {p : List Int} (h : ptOk p = false) : PointInF xs p = false := by simp [PointInF, h]
theorem PointInF_3 {xs : List Lp} {p : List Int} (h : ¬ p.length = xs.length) : PointInF xs p = false := by simp [PointInF, h]
theorem PointInF_4 {xs : List Lp} {p : List Int} (h1 : NestValidF xs = true) (h2 : ptOk p = true) (h : p.length = xs.length) : PointInF xs p = inFrom xs p p.length 0 := by simp [PointInF, h, h1, h2]

section
variable {w : World} {A B : Option Addr} {n m c d : Nat} {bs bs' : List Nat}

set_option maxHeartbeats 4000000 in
theorem specPointIn_c {xs : List Lp} {p : List Int} (h : Rep w (sls Lp.d xs) [.slice A n c] bs) (hp : Rep w (ints p) [.slice B m d] bs') :
    Calls Tryz.prog 107 #[.slice A n c, .slice B m d] w fun e w' => e = .returned (.bool (PointInF xs p)) ∧ Below w.heap.size w w' := by
  obtain ⟨rfl, h1, h2⟩ := h.sls_len
  obtain ⟨rfl, h3, h4⟩ := hp.ints_len
  have hn : xs.length ≤ 9223372036854775807 := Nat.le_trans h1 h2
  have hm : p.length ≤ 9223372036854775807 := Nat.le_trans h3 h4
  have hpd := h3
  clear h1 h2 h3 h4
  have H := Lib.hid h; clear h
  have HP := Lib.hid hp; clear hp
  cases hv : NestValidF xs with
  | false =>
    have HX := Lib.hid (PointInF_1 (p := p) hv)
    have HV := Lib.hid hv; clear hv
    rw [HX.out]
    go_enter Tryz.func107, Tryz.ntmps107
    go_wp2_with fail
    refine (specNestValid_c H.out).mono ?_
    rintro e w1 ⟨rfl, b1⟩
    rw [HV.out]
    go_wp2
    go_ret
    exact ⟨rfl, b1⟩
  | true =>
  cases hpt : ptOk p with
  | false =>
    have HX := Lib.hid (PointInF_2 (xs := xs) hpt)
    have HV := Lib.hid hv; clear hv
    have HT := Lib.hid hpt; clear hpt
    rw [HX.out]
    go_enter Tryz.func107, Tryz.ntmps107
    go_wp2_with fail
    refine (specNestValid_c H.out).mono ?_
    rintro e w1 ⟨rfl, b1⟩
    rw [HV.out]
    go_wp2_with fail
    refine (l1Point_c (HP.out.below b1)).mono ?_
    rintro e w' ⟨rfl, rfl⟩
    rw [HT.out]
    go_wp2
    go_ret
    exact ⟨rfl, b1⟩
  | true =>
  by_cases hl : p.length = xs.length
  case neg =>
    have HX := Lib.hid (PointInF_3 hl)
    have hl1 : ((p.length : Int) != (xs.length : Int)) = true := by simp; omega
    clear hl
    have HV := Lib.hid hv; clear hv
    have HT := Lib.hid hpt; clear hpt
    rw [HX.out]
    go_enter Tryz.func107, Tryz.ntmps107
    go_wp2_with fail
    refine (specNestValid_c H.out).mono ?_
    rintro e w1 ⟨rfl, b1⟩
    rw [HV.out]
    go_wp2_with fail
    refine (l1Point_c (HP.out.below b1)).mono ?_
    rintro e w' ⟨rfl, rfl⟩
    rw [HT.out]
    go_wp2
    go_ret
    exact ⟨rfl, b1⟩
  case pos =>
    have HX := Lib.hid (PointInF_4 hv hpt hl)
    have hl1 : ((p.length : Int) != (xs.length : Int)) = false := by simp [hl]
    have HL := Lib.hid hl; clear hl
    have HV := Lib.hid hv; clear hv
    have HT := Lib.hid hpt; clear hpt
    rw [HX.out]
    go_enter Tryz.func107, Tryz.ntmps107
    go_wp2_with fail
    refine (specNestValid_c H.out).mono ?_
    rintro e w1 ⟨rfl, b1⟩
    rw [HV.out]
    go_wp2_with fail
    refine (l1Point_c (HP.out.below b1)).mono ?_
    rintro e w' ⟨rfl, rfl⟩
    rw [HT.out]
    go_wp2
    go_loopw [5, 6, 7] (fun i _ _ wr => ∃ j : Nat, j ≤ p.length ∧ i = .int .i64 j ∧ inFrom xs p p.length 0 = inFrom xs p (p.length - j) j ∧ Below w.heap.size w wr) (fun i _ _ _ => p.length - (intOf i).toNat)
    case atStart => exact ⟨0, Nat.zero_le _, rfl, rfl, b1⟩
    case round =>
      clear b1
      obtain ⟨j, hj, rfl, hi, hb⟩ := hrel
      have HI := Lib.hid hi; clear hi
      by_cases hlt : j < p.length
      · have hlx : j < xs.length := by rw [← HL.out]; exact hlt
        have HD := Lib.hid (inFrom_step (xs := xs) (p := p) hlt)
        have HN := Lib.hid (nthL_eq hlx)
        have HB := Lib.hid (lpBd_of HV.out (fun a ha => evBd ha (ptOk_take HT.out j)) hlx)
        obtain ⟨b, o, cs, l, rfl, hbl, hr, _, _, hc⟩ := (H.out.below hb).sls_at Lp.d_size (k := j) hlx
        have G := Lib.hid hr
        obtain ⟨A1, c1, A2, c2, d1, d2, rfl, rfl, g1, g2⟩ := Rep.lp_iff.1 hr
        have k0 := (hc 0 _ rfl).1; rw [Nat.add_zero] at k0
        have k1 := (hc 1 _ rfl).1
        have Q1 := Lib.hid g1
        have Q2 := Lib.hid g2
        clear hc hr g1 g2
        obtain ⟨bp, hpp⟩ := (HP.out.below hb).ints_take (j := j) (by omega)
        have HPP := Lib.hid hpp; clear hpp
        obtain ⟨b5, o5, hB5, _, hbl5, hc5, _⟩ := (HP.out.below hb).ints_at hlt
        have hjd : (j : Int) ≤ (d : Int) := by omega
        have hj0 : (0 : Int) ≤ (j : Int) := by omega
        have hjx : (j : Int) < (xs.length : Int) := by omega
        subst hB5
        go_wp2_with fail
        refine wp_region_noPanic ?_
        refine wp_region_held_drew (S := fun w' => w'.cell? ⟨b, o + j * 2, none⟩ = some (.slice A1 xs[j].lo.length c1) ∧ w'.cell? ⟨b, o + j * 2 + 1, none⟩ = some (.slice A2 xs[j].hi.length c2)) (by kernel_rfl) (⟨k0, k1⟩) (fun hHeld => ?_)
        refine goR 0 hHeld ?_
        refine goR 1 hHeld ?_
        refine goR 2 hHeld ?_
        refine goR 3 hHeld ?_
        refine goR 4 hHeld ?_
        refine goR 5 hHeld ?_
        refine goR 6 hHeld ?_
        refine stepR (i := 7) rfl (by kernel_rfl) (wanted_none rfl) (fun K hK => ?_)
        go_simp
        (refine (l2Range_c (G.out.drewN 1) (HPP.out.drewN 1) HB.out).mono ?_; rintro e w2 ⟨rfl, b2⟩; rw [HN.out]; replace b2 := of_drew b2)
        go_wp2_with fail
        refine hK.out _ _ (⟨by rw [b2.cell hbl]; exact k0, by rw [b2.cell hbl]; exact k1⟩) (fun hHeld => ?_)
        clear hK K
        try simp only [Act.put, List.setIfInBounds_toArray, List.set_cons_zero, List.set_cons_succ]
        refine goR 8 hHeld ?_
        refine goR 9 hHeld ?_
        refine goR 10 hHeld ?_
        refine goR 11 hHeld ?_
        refine goR 12 hHeld ?_
        refine wpAnyH_done (by kernel_rfl) ?_ _
        refine NoPanic.normal ?_
        have S2 := below_tr hb b2
        have hc6 := (b2.cell (p := ⟨b5, o5 + j, none⟩) hbl5).trans hc5
        clear k0 k1 G b2 hc5 hHeld
        by_cases hlo : gi p j < loF (nthL xs j) (p.take j)
        · have HY := Lib.hid (show inFrom xs p p.length 0 = false by rw [HI.out, HD.out, inAt_lo hlo, Bool.false_and])
          go_wp2
          go_ret
          exact ⟨ret_bool HY.out.symm, S2⟩
        · by_cases hhi : hiF (nthL xs j) (p.take j) ≤ gi p j
          · have HY := Lib.hid (show inFrom xs p p.length 0 = false by rw [HI.out, HD.out, inAt_hi hhi, Bool.false_and])
            go_wp2
            go_ret
            exact ⟨ret_bool HY.out.symm, S2⟩
          · have HY := Lib.hid (show inFrom xs p p.length 0 = inFrom xs p (p.length - (j + 1)) (j + 1) by rw [HI.out, HD.out, inAt_ok hlo hhi, Bool.true_and])
            go_wp2
            go_roundw
            case rel => exact ⟨j + 1, by omega, by go_num, HY.out, S2⟩
            case measure => simp [intOf]; omega
      · have hjj : j = p.length := by omega
        subst hjj
        have HY := Lib.hid (show inFrom xs p p.length 0 = true by rw [HI.out, Nat.sub_self]; rfl)
        go_wp2
        go_ret
        exact ⟨ret_bool HY.out.symm, hb⟩

set_option maxHeartbeats 4000000 in
theorem implPointIn_c {xs : List Lp} {p : List Int} (h : Rep w (sls Lp.d xs) [.slice A n c] bs) (hp : Rep w (ints p) [.slice B m d] bs') :
    Calls Tryz.prog 115 #[.slice A n c, .slice B m d] w fun e w' => e = .returned (.bool (PointInF xs p)) ∧ Below w.heap.size w w' := by
  obtain ⟨rfl, h1, h2⟩ := h.sls_len
  obtain ⟨rfl, h3, h4⟩ := hp.ints_len
  have hn : xs.length ≤ 9223372036854775807 := Nat.le_trans h1 h2
  have hm : p.length ≤ 9223372036854775807 := Nat.le_trans h3 h4
  have hpd := h3
  clear h1 h2 h3 h4
  have H := Lib.hid h; clear h
  have HP := Lib.hid hp; clear hp
  cases hv : NestValidF xs with
  | false =>
    have HX := Lib.hid (PointInF_1 (p := p) hv)
    have HV := Lib.hid hv; clear hv
    rw [HX.out]
    go_enter Tryz.func115, Tryz.ntmps115
    go_wp2_with fail
    refine (implNestValid_c H.out).mono ?_
    rintro e w1 ⟨rfl, b1⟩
    rw [HV.out]
    go_wp2
    go_ret
    exact ⟨rfl, b1⟩
  | true =>
  cases hpt : ptOk p with
  | false =>
    have HX := Lib.hid (PointInF_2 (xs := xs) hpt)
    have HV := Lib.hid hv; clear hv
    have HT := Lib.hid hpt; clear hpt
    rw [HX.out]
    go_enter Tryz.func115, Tryz.ntmps115
    go_wp2_with fail
    refine (implNestValid_c H.out).mono ?_
    rintro e w1 ⟨rfl, b1⟩
    rw [HV.out]
    go_wp2_with fail
    refine (isPoint_c (HP.out.below b1)).mono ?_
    rintro e w' ⟨rfl, rfl⟩
    rw [HT.out]
    go_wp2
    go_ret
    exact ⟨rfl, b1⟩
  | true =>
  by_cases hl : p.length = xs.length
  case neg =>
    have HX := Lib.hid (PointInF_3 hl)
    have hl1 : ((p.length : Int) != (xs.length : Int)) = true := by simp; omega
    clear hl
    have HV := Lib.hid hv; clear hv
    have HT := Lib.hid hpt; clear hpt
    rw [HX.out]
    go_enter Tryz.func115, Tryz.ntmps115
    go_wp2_with fail
    refine (implNestValid_c H.out).mono ?_
    rintro e w1 ⟨rfl, b1⟩
    rw [HV.out]
    go_wp2_with fail
    refine (isPoint_c (HP.out.below b1)).mono ?_
    rintro e w' ⟨rfl, rfl⟩
    rw [HT.out]
    go_wp2
    go_ret
    exact ⟨rfl, b1⟩
  case pos =>
    have HX := Lib.hid (PointInF_4 hv hpt hl)
    have hl1 : ((p.length : Int) != (xs.length : Int)) = false := by simp [hl]
    have HL := Lib.hid hl; clear hl
    have HV := Lib.hid hv; clear hv
    have HT := Lib.hid hpt; clear hpt
    rw [HX.out]
    go_enter Tryz.func115, Tryz.ntmps115
    go_wp2_with fail
    refine (implNestValid_c H.out).mono ?_
    rintro e w1 ⟨rfl, b1⟩
    rw [HV.out]
    go_wp2_with fail
    refine (isPoint_c (HP.out.below b1)).mono ?_
    rintro e w' ⟨rfl, rfl⟩
    rw [HT.out]
    go_wp2
    go_loopw [7, 8, 26] (fun _ _ i wr => ∃ j : Nat, j ≤ xs.length ∧ i = .int .i64 j ∧ inFrom xs p p.length 0 = inFrom xs p (p.length - j) j ∧ Below w.heap.size w wr) (fun _ _ i _ => xs.length - (intOf i).toNat)
    case atStart => exact ⟨0, Nat.zero_le _, rfl, rfl, b1⟩
    case round =>
      clear b1
      obtain ⟨j, hj, rfl, hi, hb⟩ := hrel
      have HI := Lib.hid hi; clear hi
      by_cases hlx : j < xs.length
      · have hlt : j < p.length := by rw [HL.out]; exact hlx
        have HD := Lib.hid (inFrom_step (xs := xs) (p := p) hlt)
        have HN := Lib.hid (nthL_eq hlx)
        have HB := Lib.hid (lpBd_of HV.out (fun a ha => evBd ha (ptOk_take HT.out j)) hlx)
        obtain ⟨b, o, cs, l, rfl, hbl, hr, _, _, hc⟩ := (H.out.below hb).sls_at Lp.d_size (k := j) hlx
        have G := Lib.hid hr
        obtain ⟨A1, c1, A2, c2, d1, d2, rfl, rfl, g1, g2⟩ := Rep.lp_iff.1 hr
        have k0 := (hc 0 _ rfl).1; rw [Nat.add_zero] at k0
        have k1 := (hc 1 _ rfl).1
        have Q1 := Lib.hid g1
        have Q2 := Lib.hid g2
        clear hc hr g1 g2
        have B0 : Below wr.heap.size wr (wr.alloc (.cells #[.slice A1 xs[j].lo.length c1, .slice A2 xs[j].hi.length c2] 185)) := bel
        obtain ⟨bp, hpp⟩ := (HP.out.below hb).ints_take (j := j) (by omega)
        have HPP := Lib.hid hpp; clear hpp
        obtain ⟨b5, o5, hB5, _, hbl5, hc5, _⟩ := (HP.out.below hb).ints_at hlt
        have hjd : (j : Int) ≤ (d : Int) := by omega
        have hj0 : (0 : Int) ≤ (j : Int) := by omega
        have hjx : (j : Int) < (p.length : Int) := by omega
        subst hB5
        go_wp2_with fail
        refine wp_region_noPanic ?_
        refine wp_region_held_drew (S := fun w' => Box2 w' wr.heap.size (.slice A1 xs[j].lo.length c1) (.slice A2 xs[j].hi.length c2)) (by kernel_rfl) (⟨by go_simp, by go_simp⟩) (fun hHeld => ?_)
        refine goR 0 hHeld ?_
        refine goR 1 hHeld ?_
        refine goR 2 hHeld ?_
        refine goR 3 hHeld ?_
        refine stepR (i := 4) rfl (by kernel_rfl) (wanted_none rfl) (fun K hK => ?_)
        go_simp
        (refine (span_c (G.out.below bel) (HPP.out.below bel) HB.out).mono ?_; rintro e w2 ⟨rfl, b2⟩; rw [HN.out])
        go_wp2_with fail
        refine hK.out _ _ (⟨by rw [b2.cell (by simp)]; go_simp, by rw [b2.cell (by simp)]; go_simp⟩) (fun hHeld => ?_)
        clear hK K
        try simp only [Act.put, List.setIfInBounds_toArray, List.set_cons_zero, List.set_cons_succ]
        refine goR 5 hHeld ?_
        refine goR 6 hHeld ?_
        refine goR 7 hHeld ?_
        refine goR 8 hHeld ?_
        refine goR 9 hHeld ?_
        refine wpAnyH_done (by kernel_rfl) ?_ _
        refine NoPanic.normal ?_
        have T2 : Below wr.heap.size wr w2 := bel
        have S2 := below_tr hb T2
        have hc6 := (T2.cell (p := ⟨b5, o5 + j, none⟩) hbl5).trans hc5
        clear k0 k1 G b2 hc5 hHeld
        by_cases hlo : gi p j < loF (nthL xs j) (p.take j)
        · have HY := Lib.hid (show inFrom xs p p.length 0 = false by rw [HI.out, HD.out, inAt_lo hlo, Bool.false_and])
          go_wp2
          go_ret
          exact ⟨ret_bool HY.out.symm, S2⟩
        · by_cases hhi : hiF (nthL xs j) (p.take j) ≤ gi p j
          · have HY := Lib.hid (show inFrom xs p p.length 0 = false by rw [HI.out, HD.out, inAt_hi hhi, Bool.false_and])
            go_wp2
            go_ret
            exact ⟨ret_bool HY.out.symm, S2⟩
          · have HY := Lib.hid (show inFrom xs p p.length 0 = inFrom xs p (p.length - (j + 1)) (j + 1) by rw [HI.out, HD.out, inAt_ok hlo hhi, Bool.true_and])
            go_wp2
            go_roundw
            case rel => exact ⟨j + 1, by omega, by go_num, HY.out, S2⟩
            case measure => simp [intOf]; omega
      · have hjj : j = p.length := by have := HL.out; omega
        subst hjj
        have HY := Lib.hid (show inFrom xs p p.length 0 = true by rw [HI.out, Nat.sub_self]; rfl)
        go_wp2
        go_ret
        exact ⟨ret_bool HY.out.symm, hb⟩
end
end Go.Proofs.YtgimggpmnemkbaaGreat
