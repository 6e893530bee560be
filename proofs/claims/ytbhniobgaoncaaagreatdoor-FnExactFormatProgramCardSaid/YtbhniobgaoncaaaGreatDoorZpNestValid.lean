/- Validity of nests: l2Side, NestValid of the reference; boundsOk, NestValid of the program. -/
import Derived.Test.YtbhniobgaoncaaaGreatDoorZpSqAffine
import Derived.Test.YtbhniobgaoncaaaGreatDoorZpTyLoop
import Derived.Test.YtbhniobgaoncaaaGreatDoorZpAffD
import Derived.Test.YtbhniobgaoncaaaGreatDoorZpCore
set_option linter.all false
set_option linter.unusedSimpArgs false
set_option linter.unusedVariables false
namespace Go.Proofs.YtbhniobgaoncaaaGreatDoor
open Go.ChangeShapes Go.WideShapes Go.ChangeAt Go.RowKit Go.Deep

def affBad (d : Int) (a : Aff) : Bool := !affOk a || decide (d < (depF a.coefs : Int))
def sideOk (xs : List Aff) (d : Int) : Bool := decide (1 ≤ xs.length) && decide (xs.length ≤ 2) && !xs.any (affBad d)
def nestFrom : List Lp → Nat → Bool
  | [], _ => true
  | x :: xs, i => sideOk x.lo i && sideOk x.hi i && nestFrom xs (i + 1)
def NestValidF (xs : List Lp) : Bool := decide (xs.length ≤ 4) && nestFrom xs 0
theorem nestFrom_drop (xs : List Lp) (j : Nat) (h : j < xs.length) : nestFrom (xs.drop j) j = (sideOk xs[j].lo j && sideOk xs[j].hi j && nestFrom (xs.drop (j + 1)) (j + 1)) := by
  rw [← List.getElem_cons_drop h, nestFrom]
theorem any_drop {α : Type} (p : α → Bool) (xs : List α) (j : Nat) (h : j < xs.length) : (xs.drop j).any p = (p xs[j] || (xs.drop (j + 1)).any p) := by
  rw [← List.getElem_cons_drop h, List.any_cons]
theorem affBad_no {d : Int} {a : Aff} (h : affOk a = false) : affBad d a = true := by simp [affBad, h]
theorem affBad_deep {d : Int} {a : Aff} (h : affOk a = true) (hd : d < (depF a.coefs : Int)) : affBad d a = true := by simp [affBad, h, hd]
theorem affBad_ok {d : Int} {a : Aff} (h : affOk a = true) (hd : ¬ d < (depF a.coefs : Int)) : affBad d a = false := by simp [affBad, h, hd]

section
variable {w : World} {A : Option Addr} {n c : Nat} {bs : List Nat}

set_option maxHeartbeats 2000000 in
theorem l2Side_c {xs : List Aff} {dp : Int} (h : Rep w (sls Aff.d xs) [.slice A n c] bs) :
    Calls Tryz.prog 84 #[.slice A n c, .int .i64 dp] w fun e w' => e = .returned (.bool (sideOk xs dp)) ∧ Below w.heap.size w w' := by
  obtain ⟨rfl, h1, h2⟩ := h.sls_len
  have hn : xs.length ≤ 9223372036854775807 := Nat.le_trans h1 h2
  clear h1 h2
  have H := Lib.hid h; clear h
  go_enter Tryz.func84, Tryz.ntmps84
  go_wp2
  go_loopw [5] (fun i wr => ∃ j : Nat, j ≤ xs.length ∧ i = .int .i64 j ∧ xs.any (affBad dp) = (xs.drop j).any (affBad dp) ∧ Below w.heap.size w wr) (fun i _ => xs.length - (intOf i).toNat)
  case atStart => exact ⟨0, Nat.zero_le _, rfl, by simp, Below.refl _ _⟩
  case round =>
    obtain ⟨j, hj, rfl, hi, hb⟩ := hrel
    have HI := Lib.hid hi; clear hi
    by_cases hlt : j < xs.length
    · have HD := Lib.hid (any_drop (affBad dp) xs j hlt)
      obtain ⟨b, o, cs, l, rfl, hbl, hr, _, _, hc⟩ := (H.out.below hb).sls_at Aff.d_size (k := j) hlt
      have G := Lib.hid hr
      obtain ⟨A1, c1, d1, rfl, rfl, g1, g2⟩ := Rep.aff_iff2.1 hr
      have k0 := (hc 0 _ rfl).1; rw [Nat.add_zero] at k0
      have k1 := (hc 1 _ rfl).1
      have Q1 := Lib.hid g1
      have Q2 := Lib.hid g2
      clear hc hr g1 g2
      cases hv : affOk xs[j] with
      | false =>
        have HX := Lib.hid (show sideOk xs dp = false by simp only [sideOk, HI.out, HD.out, affBad_no hv, Bool.true_or, Bool.not_true, Bool.and_false])
        have HV := Lib.hid hv; clear hv
        go_wp2_with fail
        refine (specAffineValid_d G.out).mono ?_
        rintro e w1 ⟨rfl, b1⟩
        rw [HV.out]
        go_wp2
        go_ret
        exact ⟨ret_bool HX.out.symm, below_tr hb b1⟩
      | true =>
        have HV := Lib.hid hv; clear hv
        go_wp2_with fail
        refine (specAffineValid_d G.out).mono ?_
        rintro e w1 ⟨rfl, b1⟩
        rw [HV.out]
        have k0_1 := (b1.cell (p := ⟨b, o + j * 2, none⟩) hbl).trans k0
        have k1_1 := (b1.cell (p := ⟨b, o + j * 2 + 1, none⟩) hbl).trans k1
        have S1 := below_tr hb b1
        have G1 := Lib.hid (G.out.below b1)
        clear k0 k1 G b1
        go_wp2_with fail
        refine (l1Depth_d G1.out).mono ?_
        rintro e w2 ⟨rfl, b2⟩
        have S2 := below_tr S1 b2
        by_cases hgt : dp < (depF xs[j].coefs : Int)
        · have HX := Lib.hid (show sideOk xs dp = false by simp only [sideOk, HI.out, HD.out, affBad_deep HV.out hgt, Bool.true_or, Bool.not_true, Bool.and_false])
          go_wp2
          go_ret
          exact ⟨ret_bool HX.out.symm, S2⟩
        · have HX := Lib.hid (show (xs.drop j).any (affBad dp) = (xs.drop (j + 1)).any (affBad dp) by rw [HD.out, affBad_ok HV.out hgt, Bool.false_or])
          go_wp2
          go_roundw
          case rel => exact ⟨j + 1, by omega, by go_num, by rw [HI.out, HX.out], S2⟩
          case measure => simp [intOf]; omega
    · have hjj : j = xs.length := by omega
      subst hjj
      have HA := Lib.hid (show xs.any (affBad dp) = false by rw [HI.out, List.drop_length]; rfl)
      by_cases l1 : 1 ≤ xs.length
      · by_cases l2 : xs.length ≤ 2
        · have HX := Lib.hid (show sideOk xs dp = true by simp [sideOk, HA.out, l1, l2])
          go_wp2
          go_ret
          exact ⟨ret_bool (by rw [HX.out] <;> first | rfl | (simp; done) | (simp; omega)), hb⟩
        · have HX := Lib.hid (show sideOk xs dp = false by simp [sideOk, l2])
          go_wp2
          go_ret
          exact ⟨ret_bool (by rw [HX.out] <;> first | rfl | (simp; done) | (simp; omega)), hb⟩
      · have HX := Lib.hid (show sideOk xs dp = false by simp only [sideOk, l1, decide_false, Bool.false_and])
        go_wp2
        go_ret
        exact ⟨ret_bool (by rw [HX.out] <;> first | rfl | (simp; done) | (simp; omega)), hb⟩

set_option maxHeartbeats 2000000 in
theorem specNestValid_c {xs : List Lp} (h : Rep w (sls Lp.d xs) [.slice A n c] bs) :
    Calls Tryz.prog 42 #[.slice A n c] w fun e w' => e = .returned (.bool (NestValidF xs)) ∧ Below w.heap.size w w' := by
  obtain ⟨rfl, h1, h2⟩ := h.sls_len
  have hn : xs.length ≤ 9223372036854775807 := Nat.le_trans h1 h2
  clear h1 h2
  have H := Lib.hid h; clear h
  by_cases l4 : xs.length ≤ 4
  case neg =>
    have HX := Lib.hid (show NestValidF xs = false by simp [NestValidF, l4])
    go_enter Tryz.func42, Tryz.ntmps42
    go_wp2
    go_loop [3] (fun i => i = .int .i64 0) (fun i => 0)
    case atStart => rfl
    case round =>
      subst hrel
      go_wp2
      go_ret
      exact ⟨ret_bool (by rw [HX.out] <;> first | rfl | (simp; done) | (simp; omega)), Below.refl _ _⟩
  case pos =>
    go_enter Tryz.func42, Tryz.ntmps42
    go_wp2
    go_loopw [3] (fun i wr => ∃ j : Nat, j ≤ xs.length ∧ i = .int .i64 j ∧ nestFrom xs 0 = nestFrom (xs.drop j) j ∧ Below w.heap.size w wr) (fun i _ => xs.length - (intOf i).toNat)
    case atStart => exact ⟨0, Nat.zero_le _, rfl, by simp, Below.refl _ _⟩
    case round =>
      obtain ⟨j, hj, rfl, hi, hb⟩ := hrel
      have HI := Lib.hid hi; clear hi
      by_cases hlt : j < xs.length
      · have HD := Lib.hid (nestFrom_drop xs j hlt)
        obtain ⟨b, o, cs, l, rfl, hbl, hr, _, _, hc⟩ := (H.out.below hb).sls_at Lp.d_size (k := j) hlt
        have G := Lib.hid hr
        obtain ⟨A1, c1, A2, c2, d1, d2, rfl, rfl, g1, g2⟩ := Rep.lp_iff.1 hr
        have k0 := (hc 0 _ rfl).1; rw [Nat.add_zero] at k0
        have k1 := (hc 1 _ rfl).1
        have Q1 := Lib.hid g1
        have Q2 := Lib.hid g2
        clear hc hr g1 g2
        cases hv : sideOk xs[j].lo j with
        | false =>
          have HX := Lib.hid (show NestValidF xs = false by simp only [NestValidF, HI.out, HD.out, hv, Bool.false_and, Bool.and_false])
          have HV := Lib.hid hv; clear hv
          go_wp2_with fail
          refine (l2Side_c Q1.out).mono ?_
          rintro e w1 ⟨rfl, b1⟩
          rw [HV.out]
          go_wp2
          go_ret
          exact ⟨ret_bool HX.out.symm, below_tr hb b1⟩
        | true =>
          have HV := Lib.hid hv; clear hv
          go_wp2_with fail
          refine (l2Side_c Q1.out).mono ?_
          rintro e w1 ⟨rfl, b1⟩
          rw [HV.out]
          have k1_1 := (b1.cell (p := ⟨b, o + j * 2 + 1, none⟩) hbl).trans k1
          have S1 := below_tr hb b1
          have Q2_1 := Lib.hid (Q2.out.below b1)
          clear k0 k1 Q2 b1
          go_wp2_with fail
          refine (l2Side_c Q2_1.out).mono ?_
          rintro e w2 ⟨rfl, b2⟩
          have S2 := below_tr S1 b2
          cases hw : sideOk xs[j].hi j with
          | false =>
            have HX := Lib.hid (show NestValidF xs = false by simp only [NestValidF, HI.out, HD.out, hw, Bool.false_and, Bool.and_false])
            clear hw
            go_wp2
            go_ret
            exact ⟨ret_bool HX.out.symm, S2⟩
          | true =>
            have HX := Lib.hid (show nestFrom (xs.drop j) j = nestFrom (xs.drop (j + 1)) (j + 1) by rw [HD.out, HV.out, hw]; rfl)
            clear hw
            go_wp2
            go_roundw
            case rel => exact ⟨j + 1, by omega, by go_num, by rw [HI.out, HX.out], S2⟩
            case measure => simp [intOf]; omega
      · have hjj : j = xs.length := by omega
        subst hjj
        have HX := Lib.hid (show NestValidF xs = true by simp [NestValidF, HI.out, l4, nestFrom])
        go_wp2
        go_ret
        exact ⟨ret_bool (by rw [HX.out] <;> first | rfl | (simp; done) | (simp; omega)), hb⟩

set_option maxHeartbeats 2000000 in
theorem boundsOk1_c {x : Aff} {cs : List Value} {dp : Int} {g : Nat} (h : Rep w x.d cs bs) (hg : w.cell? ⟨g, 0, none⟩ = some (.int .i64 dp)) :
    Calls Tryz.prog 144 (#[.agg cs.toArray] ++ #[.pointer (some ⟨g, 0, none⟩)]) w fun e w' => e = .returned (.bool (affBad dp x)) ∧ Below w.heap.size w w' := by
  show Calls Tryz.prog 144 #[.agg cs.toArray, .pointer (some ⟨g, 0, none⟩)] w _
  have G := Lib.hid h
  obtain ⟨A1, c1, d1, rfl, rfl, g1, g2⟩ := Rep.aff_iff2.1 h
  clear h g1 g2
  have hgl := lt_of_cell hg
  have hg2 : (w.alloc (.cells #[.slice A1 x.coefs.length c1, .int .i64 x.const] 46)).cell? ⟨g, 0, none⟩ = some (.int .i64 dp) := by rw [World.cell?_alloc_lt _ _ _ hgl]; exact hg
  have P0 := Box2.new w (.slice A1 x.coefs.length c1) (.int .i64 x.const) 46
  have B0 : Below w.heap.size w (w.alloc (.cells #[.slice A1 x.coefs.length c1, .int .i64 x.const] 46)) := bel
  obtain ⟨W, hW⟩ : ∃ W, W = w.alloc (.cells #[.slice A1 x.coefs.length c1, .int .i64 x.const] 46) := ⟨_, rfl⟩
  rw [← hW] at hg2 P0 B0
  have HW := Lib.hid hW; clear hW
  have G0 := Lib.hid (G.out.below B0)
  cases hv : affOk x with
  | false =>
    have HX := Lib.hid (show affBad dp x = false ∨ affBad dp x = true by cases affBad dp x <;> simp)
    have HY := Lib.hid (affBad_no (d := dp) hv)
    have HV := Lib.hid hv; clear hv
    go_enter Tryz.func144, Tryz.ntmps144
    go_wp2
    rw [← HW.out]
    refine wp_region_noPanic ?_
    refine wp_region_held_drew (S := fun w' => Box2 w' w.heap.size (.slice A1 x.coefs.length c1) (.int .i64 x.const) ∧ w'.cell? ⟨g, 0, none⟩ = some (.int .i64 dp)) (by kernel_rfl) (⟨P0, hg2⟩) (fun hHeld => ?_)
    refine goR 0 hHeld ?_
    refine stepR (i := 1) rfl (by kernel_rfl) (wanted_none rfl) (fun K hK => ?_)
    go_simp
    (refine (implAffineValid_d (G0.out.drewN 1)).mono ?_; rintro e w1 ⟨he, b1⟩; rw [HV.out] at he; subst he; replace b1 := of_drew b1)
    go_wp2_with fail
    refine hK.out _ _ (⟨P0.to b1, by rw [b1.cell (lt_of_cell hg2)]; exact hg2⟩) (fun hHeld => ?_)
    clear hK K
    try simp only [Act.put, aq0, aq1, aq2]
    refine goR 2 hHeld ?_
    refine goR 3 hHeld ?_
    refine goS 4 hHeld ?_
    refine goS 5 hHeld ?_
    refine goS 6 hHeld ?_
    refine goS 7 hHeld ?_
    refine goR 8 hHeld ?_
    refine goR 9 hHeld ?_
    refine wpAnyH_done (by kernel_rfl) ?_ _
    refine NoPanic.normal ?_
    go_wp2
    go_ret
    exact ⟨ret_bool HY.out.symm, below_tr B0 b1⟩
  | true =>
    have HV := Lib.hid hv; clear hv
    have HY := Lib.hid (show affBad dp x = decide (dp < (depF x.coefs : Int)) by simp [affBad, HV.out])
    go_enter Tryz.func144, Tryz.ntmps144
    go_wp2
    rw [← HW.out]
    refine wp_region_noPanic ?_
    refine wp_region_held_drew (S := fun w' => Box2 w' w.heap.size (.slice A1 x.coefs.length c1) (.int .i64 x.const) ∧ w'.cell? ⟨g, 0, none⟩ = some (.int .i64 dp)) (by kernel_rfl) (⟨P0, hg2⟩) (fun hHeld => ?_)
    refine goR 0 hHeld ?_
    refine stepR (i := 1) rfl (by kernel_rfl) (wanted_none rfl) (fun K hK => ?_)
    go_simp
    (refine (implAffineValid_d (G0.out.drewN 1)).mono ?_; rintro e w1 ⟨he, b1⟩; rw [HV.out] at he; subst he; replace b1 := of_drew b1)
    go_wp2_with fail
    refine hK.out _ _ (⟨P0.to b1, by rw [b1.cell (lt_of_cell hg2)]; exact hg2⟩) (fun hHeld => ?_)
    clear hK K
    try simp only [Act.put, aq0, aq1, aq2]
    refine goR 2 hHeld ?_
    refine goR 3 hHeld ?_
    refine goG 4 hHeld ?_
    refine goG 6 hHeld ?_
    refine stepR (i := 5) rfl (by kernel_rfl) (by kernel_rfl) (fun K hK => ?_)
    go_simp
    (refine (depth_d (G0.out.below b1)).mono ?_; rintro e w2 ⟨rfl, b2⟩)
    go_wp2_with fail
    refine hK.out _ _ (⟨(P0.to b1).to b2, by rw [b2.cell (Nat.lt_of_lt_of_le (lt_of_cell hg2) b1.size), b1.cell (lt_of_cell hg2)]; exact hg2⟩) (fun hHeld => ?_)
    clear hK K
    try simp only [Act.put, aq0, aq1, aq2]
    refine goG 7 hHeld ?_
    refine goR 8 hHeld ?_
    refine goR 9 hHeld ?_
    refine wpAnyH_done (by kernel_rfl) ?_ _
    refine NoPanic.normal ?_
    go_wp2
    go_ret
    exact ⟨ret_bool HY.out.symm, below_tr (below_tr B0 b1) b2⟩
theorem boundsOk1_e : Enters Tryz.prog 144 := fun args W => by go_simp

set_option maxHeartbeats 2000000 in
theorem boundsOk_c {xs : List Aff} {dp : Int} (h : Rep w (sls Aff.d xs) [.slice A n c] bs) :
    Calls Tryz.prog 87 #[.slice A n c, .int .i64 dp] w fun e w' => e = .returned (.bool (sideOk xs dp)) ∧ Below w.heap.size w w' := by
  obtain ⟨rfl, h1, h2⟩ := h.sls_len
  have hn : xs.length ≤ 9223372036854775807 := Nat.le_trans h1 h2
  clear h1 h2
  have H := Lib.hid h; clear h
  cases hv : inB (xs.length : Int) 1 2 with
  | false =>
    have HX := Lib.hid (show sideOk xs dp = false by
      unfold sideOk
      by_cases l1 : 1 ≤ xs.length
      · by_cases l2 : xs.length ≤ 2
        · rw [inB_true (by omega) (by omega)] at hv; cases hv
        · simp [l2]
      · simp only [l1, decide_false, Bool.false_and])
    have HV := Lib.hid hv; clear hv
    go_enter Tryz.func87, Tryz.ntmps87
    go_wp2_with fail
    refine (within_c _ _ _ _).mono ?_
    rintro e w' ⟨rfl, rfl⟩
    rw [HV.out]
    go_wp2
    go_ret
    exact ⟨ret_bool HX.out.symm, bel⟩
  | true =>
    have HX := Lib.hid (show sideOk xs dp = !xs.any (affBad dp) by
      have := inB_iff.1 hv
      unfold sideOk
      simp only [show (1 ≤ xs.length) = True from eq_true (by omega), show (xs.length ≤ 2) = True from eq_true (by omega), decide_true, Bool.true_and])
    have HV := Lib.hid hv; clear hv
    go_enter Tryz.func87, Tryz.ntmps87
    go_wp2_with fail
    refine (within_c _ _ _ _).mono ?_
    rintro e w' ⟨rfl, rfl⟩
    rw [HV.out]
    go_wp2_with fail
    refine (ContainsFunc_Affine_c (p := affBad dp) (H.out.below bel) boundsOk1_e fun x cs bs W _ hb r => boundsOk1_c r (by rw [hb.cell (by simp)]; go_simp)).mono ?_
    rintro e w1 ⟨rfl, b1⟩
    go_wp2
    go_ret
    exact ⟨ret_bool HX.out.symm, bel⟩

set_option maxHeartbeats 2000000 in
theorem implNestValid_c {xs : List Lp} (h : Rep w (sls Lp.d xs) [.slice A n c] bs) :
    Calls Tryz.prog 45 #[.slice A n c] w fun e w' => e = .returned (.bool (NestValidF xs)) ∧ Below w.heap.size w w' := by
  obtain ⟨rfl, h1, h2⟩ := h.sls_len
  have hn : xs.length ≤ 9223372036854775807 := Nat.le_trans h1 h2
  clear h1 h2
  have H := Lib.hid h; clear h
  go_enter Tryz.func45, Tryz.ntmps45
  go_wp2
  go_loopw [7] (fun i wr => ∃ j : Nat, j ≤ xs.length ∧ i = .int .i64 j ∧ nestFrom xs 0 = nestFrom (xs.drop j) j ∧ Below w.heap.size w wr) (fun i _ => xs.length - (intOf i).toNat)
  case atStart => exact ⟨0, Nat.zero_le _, rfl, by simp, Below.refl _ _⟩
  case round =>
    obtain ⟨j, hj, rfl, hi, hb⟩ := hrel
    have HI := Lib.hid hi; clear hi
    by_cases hlt : j < xs.length
    · have HD := Lib.hid (nestFrom_drop xs j hlt)
      obtain ⟨b, o, cs, l, rfl, hbl, hr, _, _, hc⟩ := (H.out.below hb).sls_at Lp.d_size (k := j) hlt
      have G := Lib.hid hr
      obtain ⟨A1, c1, A2, c2, d1, d2, rfl, rfl, g1, g2⟩ := Rep.lp_iff.1 hr
      have k0 := (hc 0 _ rfl).1; rw [Nat.add_zero] at k0
      have k1 := (hc 1 _ rfl).1
      have Q1 := Lib.hid g1
      have Q2 := Lib.hid g2
      clear hc hr g1 g2
      cases hv : sideOk xs[j].lo j with
      | false =>
        have HX := Lib.hid (show NestValidF xs = false by simp only [NestValidF, HI.out, HD.out, hv, Bool.false_and, Bool.and_false])
        have HV := Lib.hid hv; clear hv
        go_wp2_with fail
        refine (boundsOk_c (Q1.out.below bel)).mono ?_
        rintro e w1 ⟨rfl, b1⟩
        rw [HV.out]
        have S1 : Below w.heap.size w w1 := below_tr hb bel
        go_wp2
        go_ret
        exact ⟨ret_bool HX.out.symm, S1⟩
      | true =>
        have HV := Lib.hid hv; clear hv
        go_wp2_with fail
        refine (boundsOk_c (Q1.out.below bel)).mono ?_
        rintro e w1 ⟨rfl, b1⟩
        rw [HV.out]
        have P1 : Box2 w1 wr.heap.size (.slice A1 xs[j].lo.length c1) (.slice A2 xs[j].hi.length c2) := by
          refine ⟨?_, ?_⟩ <;> (rw [b1.cell (by simp; try omega)]; go_simp)
        have T1 : Below wr.heap.size wr w1 := bel
        have S1 := below_tr hb T1
        have Q2_1 := Lib.hid (Q2.out.below T1)
        clear k0 k1 Q2 b1 T1
        go_wp2_with fail
        refine (boundsOk_c Q2_1.out).mono ?_
        rintro e w2 ⟨rfl, b2⟩
        have S2 := below_tr S1 b2
        cases hw : sideOk xs[j].hi j with
        | false =>
          have HX := Lib.hid (show NestValidF xs = false by simp only [NestValidF, HI.out, HD.out, hw, Bool.false_and, Bool.and_false])
          clear hw
          go_wp2
          go_ret
          exact ⟨ret_bool HX.out.symm, S2⟩
        | true =>
          have HX := Lib.hid (show nestFrom (xs.drop j) j = nestFrom (xs.drop (j + 1)) (j + 1) by rw [HD.out, HV.out, hw]; rfl)
          clear hw
          go_wp2
          go_roundw
          case rel => exact ⟨j + 1, by omega, by go_num, by rw [HI.out, HX.out], S2⟩
          case measure => simp [intOf]; omega
    · have hjj : j = xs.length := by omega
      subst hjj
      have HX := Lib.hid (show NestValidF xs = decide (xs.length ≤ 4) by simp [NestValidF, HI.out, nestFrom])
      go_wp2
      go_ret
      exact ⟨ret_bool (by rw [HX.out] <;> first | rfl | (rw [decide_eq_decide]; omega)), hb⟩
end
end Go.Proofs.YtbhniobgaoncaaaGreatDoor
