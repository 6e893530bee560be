/- The kinds of dependences between two instances, on both sides; DepBetween. -/
import Derived.Test.YtaomlianiehkgaaGreatTrace
import Derived.Test.YtaomlianiehkgaaGreatUses
import Derived.Test.YtaomlianiehkgaaGreatActs
set_option linter.all false
set_option linter.unusedSimpArgs false
set_option linter.unusedVariables false
namespace Go.Proofs.YtaomlianiehkgaaGreat
open Go.ChangeShapes Go.WideShapes Go.ChangeAt Go.RowKit Go.Deep

section
variable {w : World} {xs : List Int} {v : Int} {A : Option Addr} {n c : Nat} {bs : List Nat}
def eqv (v : Int) (x : Int) : Bool := v == x
theorem any_eqv (xs : List Int) (v : Int) : xs.any (eqv v) = xs.contains v := by
  induction xs with
  | nil => rfl
  | cons x xs ih => rw [List.any_cons, ih, List.contains_cons]; rfl
theorem Index_int_c (h : Rep w (ints xs) [.slice A n c] bs) :
    Calls Tryz.prog 146 #[.slice A n c, .int .i64 v] w fun e w' => e = .returned (.int .i64 (idxI (eqv v) xs 0)) ∧ w = w' := by
  obtain ⟨rfl, h2, h3⟩ := h.ints_len
  have hn : xs.length ≤ 9223372036854775807 := Nat.le_trans h2 h3
  clear h2 h3
  go_enter Tryz.func146, Tryz.ntmps146
  go_wp2
  go_loop [8] (fun i => ∃ j : Nat, j ≤ xs.length ∧ i = .int .i64 j ∧ idxI (eqv v) xs 0 = idxI (eqv v) (xs.drop j) j) (fun i => xs.length - (intOf i).toNat)
  case atStart => exact ⟨0, Nat.zero_le _, rfl, by simp⟩
  case round =>
    obtain ⟨j, hj, rfl, hi⟩ := hrel
    have HI := Lib.hid hi; clear hi
    by_cases hlt : j < xs.length
    · obtain ⟨b, o, rfl, _, _, hc, _⟩ := h.ints_at hlt
      have hd := Lib.hid (idxI_drop (eqv v) xs j hlt)
      rw [gi_eq hlt] at hc
      by_cases hpx : v = xs[j]
      · have hd2 := Lib.hid (hd.out.trans (if_pos (by simp [eqv, hpx])))
        have q1 : (v == xs[j]) = true := ieq_t hpx
        clear hpx
        go_wp2
        go_ret
        exact ⟨ret_int (by rw [HI.out, hd2.out]), rfl⟩
      · have hd2 := Lib.hid (hd.out.trans (if_neg (by simp [eqv, hpx])))
        have q1 : (v == xs[j]) = false := ieq_f hpx
        clear hpx
        go_wp2
        go_round
        case rel => exact ⟨j + 1, by omega, by go_num, by rw [HI.out, hd2.out]⟩
        case measure => simp [intOf]; omega
    · have hjj : j = xs.length := by omega
      subst hjj
      go_wp2
      go_ret
      exact ⟨ret_int (by rw [HI.out]; simp [idxI]), rfl⟩
theorem Contains_int_c (h : Rep w (ints xs) [.slice A n c] bs) :
    Calls Tryz.prog 113 #[.slice A n c, .int .i64 v] w fun e w' => e = .returned (.bool (xs.contains v)) ∧ w = w' := by
  have HX := Lib.hid (any_eqv xs v)
  have HI := Lib.hid (idxI_any (eqv v) xs 0 (Int.le_refl _))
  go_enter Tryz.func113, Tryz.ntmps113
  go_wp2_with fail
  refine (Index_int_c h).mono ?_
  rintro e w' ⟨rfl, rfl⟩
  go_wp2
  go_ret
  exact ⟨ret_bool (HI.out.trans HX.out), rfl⟩
theorem l6Has_c (h : Rep w (ints xs) [.slice A n c] bs) :
    Calls Tryz.prog 111 #[.slice A n c, .int .i64 v] w fun e w' => e = .returned (.bool (xs.contains v)) ∧ w = w' := by
  obtain ⟨rfl, h2, h3⟩ := h.ints_len
  have hn : xs.length ≤ 9223372036854775807 := Nat.le_trans h2 h3
  clear h2 h3
  have HX := Lib.hid (any_eqv xs v)
  go_enter Tryz.func111, Tryz.ntmps111
  go_wp2
  go_loop [5] (fun i => ∃ j : Nat, j ≤ xs.length ∧ i = .int .i64 j ∧ xs.any (eqv v) = (xs.drop j).any (eqv v)) (fun i => xs.length - (intOf i).toNat)
  case atStart => exact ⟨0, Nat.zero_le _, rfl, by simp⟩
  case round =>
    obtain ⟨j, hj, rfl, hi⟩ := hrel
    have HI := Lib.hid hi; clear hi
    by_cases hlt : j < xs.length
    · obtain ⟨b, o, rfl, _, _, hc, _⟩ := h.ints_at hlt
      have hd := Lib.hid (any_drop (eqv v) xs j hlt)
      rw [gi_eq hlt] at hc
      by_cases hpx : v = xs[j]
      · have hd2 := Lib.hid (show xs.contains v = true by rw [← HX.out, HI.out, hd.out, show eqv v xs[j] = true by simp [eqv, hpx], Bool.true_or])
        have q1 : (xs[j] == v) = true := ieq_t hpx.symm
        clear hpx
        go_wp2
        go_ret
        exact ⟨ret_bool (by have := hd2.out; simp at this; simp [this]), rfl⟩
      · have hd2 := Lib.hid (show xs.any (eqv v) = (xs.drop (j + 1)).any (eqv v) by rw [HI.out, hd.out, show eqv v xs[j] = false by simp [eqv, hpx], Bool.false_or])
        have q1 : (xs[j] == v) = false := ieq_f (fun h => hpx h.symm)
        clear hpx
        go_wp2
        go_round
        case rel => exact ⟨j + 1, by omega, by go_num, hd2.out⟩
        case measure => simp [intOf]; omega
    · have hjj : j = xs.length := by omega
      subst hjj
      have hd2 := Lib.hid (show xs.contains v = false by rw [← HX.out, HI.out, List.drop_length]; rfl)
      go_wp2
      go_ret
      exact ⟨ret_bool (by have := hd2.out; simp at this; simp [this]), rfl⟩
end

/-- the trace's cells, the elements by number -/
theorem Trc.open {w : World} {p : Pgm} {g : Nat} (h : Trc w p g) (hn : 0 < (usesF p).length) : ∃ (u0 u1 : Value) (A3 : Option Addr) (b4 o4 c3 c4 b5 o5 c5 : Nat), Box5 w g u0 u1 (.slice A3 (instsF p).length c3) (.slice (some ⟨b4, o4, none⟩) (usesF p).length c4) (.slice (some ⟨b5, o5, none⟩) (usesF p).length c5) ∧ b4 < w.heap.size ∧ b5 < w.heap.size ∧
    (∀ k, k < (usesF p).length → ∃ A c bs, w.cell? ⟨b4, o4 + k, none⟩ = some (.slice A (nthU (usesF p) k).reads.length c) ∧ Rep w (ints (nthU (usesF p) k).reads) [.slice A (nthU (usesF p) k).reads.length c] bs) ∧
    ∀ k, k < (usesF p).length → w.cell? ⟨b5, o5 + k, none⟩ = some (.int .i64 (nthU (usesF p) k).write) ∧ I64 (nthU (usesF p) k).write := by
  obtain ⟨A1, A2, A3, A4, A5, c1, c2, c3, c4, c5, bs, bs3, bs4, bs5, h1, _, _, h4, h5⟩ := h
  obtain ⟨b4, o4, _, _, rfl, hl4, _⟩ := h4.sls_at (s := 1) (fun _ => rfl) (k := 0) hn
  obtain ⟨b5, o5, _, _, rfl, hl5, _⟩ := h5.sls_at (s := 1) (fun _ => rfl) (k := 0) hn
  refine ⟨_, _, A3, b4, o4, c3, c4, b5, o5, c5, h1, hl4, hl5, fun k hk => ?_, fun k hk => ?_⟩
  · obtain ⟨b, o, cs, l, he, hbl, hr, _, _, hc⟩ := h4.sls_at (s := 1) (fun _ => rfl) (k := k) hk
    obtain ⟨rfl, rfl⟩ : b4 = b ∧ o4 = o := by simpa using he
    have hr' : Rep w (ints (usesF p)[k].reads) cs l := hr
    obtain ⟨A, c, rfl⟩ := hr'.ints_form1
    rw [nthU_eq hk]
    have := (hc 0 _ rfl).1
    rw [Nat.mul_one, Nat.add_zero] at this
    exact ⟨A, c, l, this, hr'⟩
  · obtain ⟨b, o, cs, l, he, hbl, hr, _, _, hc⟩ := h5.sls_at (s := 1) (fun _ => rfl) (k := k) hk
    obtain ⟨rfl, rfl⟩ : b5 = b ∧ o5 = o := by simpa using he
    obtain ⟨rfl, rfl, hi⟩ : cs = [.int .i64 (usesF p)[k].write] ∧ l = [] ∧ I64 (usesF p)[k].write := hr
    rw [nthU_eq hk]
    have := (hc 0 _ rfl).1
    rw [Nat.mul_one, Nat.add_zero] at this
    exact ⟨this, hi⟩

set_option maxRecDepth 100000 in
set_option maxHeartbeats 8000000 in
theorem between_c {w : World} {p : Pgm} {g i j : Nat} (h : Trc w p g) (hi : i < (usesF p).length) (hj : j < (usesF p).length) :
    Calls Tryz.prog 67 #[.pointer (some ⟨g, 0, none⟩), .int .i64 (i : Int), .int .i64 (j : Int)] w fun e w' => e = .returned (.int .i64 (kindsF (nthU (usesF p) i) (nthU (usesF p) j))) ∧ Below w.heap.size w w' := by
  obtain ⟨u0, u1, A3, b4, o4, c3, c4, b5, o5, c5, ⟨x0, x1, x2, x3, x4⟩, hl4, hl5, hR, hW⟩ := h.open (by omega)
  obtain ⟨Ai, ci, bsi, kri, ri⟩ := hR i hi
  obtain ⟨Aj, cj, bsj, krj, rj⟩ := hR j hj
  have kwi := (hW i hi).1
  have kwj := (hW j hj).1
  clear hR hW h
  have RI := Lib.hid ri; clear ri
  have RJ := Lib.hid rj; clear rj
  obtain ⟨a, ha⟩ : ∃ a, a = nthU (usesF p) i := ⟨_, rfl⟩
  obtain ⟨b, hb⟩ : ∃ b, b = nthU (usesF p) j := ⟨_, rfl⟩
  rw [← ha] at kri kwi RI ⊢
  rw [← hb] at krj kwj RJ ⊢
  have HK := Lib.hid (show kindsF a b = (if b.reads.contains a.write then 1 else 0) + (if a.reads.contains b.write then 2 else 0) + (if a.write = b.write then 4 else 0) from rfl)
  obtain ⟨m, hm⟩ : ∃ m, m = (usesF p).length := ⟨_, rfl⟩
  rw [← hm] at x3 x4 hi hj
  clear ha hb hm x0 x1 x2
  cases h1 : b.reads.contains a.write <;> cases h2 : a.reads.contains b.write <;> by_cases h3 : a.write = b.write
  all_goals (
    have HX := HK.out
    rw [h1, h2] at HX
    first | rw [if_pos h3] at HX | rw [if_neg h3] at HX
    have HH := Lib.hid HX; clear HX HK
    have H1 := Lib.hid h1; clear h1
    have H2 := Lib.hid h2; clear h2
    have q3 : (a.write == b.write) = decide (a.write = b.write) := by simp [h3]
    first | rw [decide_eq_true h3] at q3 | rw [decide_eq_false h3] at q3
    clear h3
    go_enter Tryz.func67, Tryz.ntmps67
    go_wp2_with fail
    refine wp_region_noPanic ?_
    refine wp_region_held_drew (S := fun w' => w'.cell? ⟨g, 3, none⟩ = some (.slice (some ⟨b4, o4, none⟩) m c4) ∧ w'.cell? ⟨g, 4, none⟩ = some (.slice (some ⟨b5, o5, none⟩) m c5) ∧ w'.cell? ⟨b4, o4 + j, none⟩ = some (.slice Aj b.reads.length cj) ∧ w'.cell? ⟨b5, o5 + i, none⟩ = some (.int .i64 a.write)) (by kernel_rfl) (⟨x3, x4, krj, kwi⟩) (fun hHeld => ?_)
    go_takeR 0
    go_takeR 1
    go_takeR 2
    go_takeR 3
    go_takeR 4
    go_takeR 5
    go_takeR 6
    go_takeR 7
    go_takeR 8
    go_takeR 9
    go_takeR 10
    go_takeR 11
    go_takeR 12
    go_takeR 13
    refine stepR (i := 14) rfl (by kernel_rfl) (wanted_none rfl) (fun K hK => ?_)
    go_simp
    (refine (Contains_int_c (RJ.out.drewN 1)).mono ?_; rintro e w' ⟨rfl, rfl⟩; rw [H1.out])
    go_wp2_with fail
    refine hK.out _ _ (hHeld) (fun hHeld => ?_)
    clear hK K
    try simp only [Act.put, List.setIfInBounds_toArray, List.set_cons_zero, List.set_cons_succ]
    refine wpAnyH_done (by kernel_rfl) ?_ _
    refine NoPanic.normal ?_
    go_wp2_with fail
    refine wp_region_noPanic ?_
    refine wp_region_held_drew (S := fun w' => w'.cell? ⟨g, 3, none⟩ = some (.slice (some ⟨b4, o4, none⟩) m c4) ∧ w'.cell? ⟨g, 4, none⟩ = some (.slice (some ⟨b5, o5, none⟩) m c5) ∧ w'.cell? ⟨b4, o4 + i, none⟩ = some (.slice Ai a.reads.length ci) ∧ w'.cell? ⟨b5, o5 + j, none⟩ = some (.int .i64 b.write)) (by kernel_rfl) (⟨x3, x4, kri, kwj⟩) (fun hHeld => ?_)
    go_takeR 0
    go_takeR 1
    go_takeR 2
    go_takeR 3
    go_takeR 4
    go_takeR 5
    go_takeR 6
    go_takeR 7
    go_takeR 8
    go_takeR 9
    go_takeR 10
    go_takeR 11
    go_takeR 12
    go_takeR 13
    refine stepR (i := 14) rfl (by kernel_rfl) (wanted_none rfl) (fun K hK => ?_)
    go_simp
    (refine (Contains_int_c (RI.out.drewN 2)).mono ?_; rintro e w' ⟨rfl, rfl⟩; rw [H2.out])
    go_wp2_with fail
    refine hK.out _ _ (hHeld) (fun hHeld => ?_)
    clear hK K
    try simp only [Act.put, List.setIfInBounds_toArray, List.set_cons_zero, List.set_cons_succ]
    refine wpAnyH_done (by kernel_rfl) ?_ _
    refine NoPanic.normal ?_
    go_wp2_with fail
    go_quiet (fail)
    go_wp2
    go_ret
    refine ⟨ret_int (by rw [HH.out]; rfl), ?_⟩
    first | exact below_drewN (below_drewN (Below.refl _ _) _) _ | exact below_drewN (Below.refl _ _) _)
set_option maxHeartbeats 4000000 in
theorem l6Kinds_c {w : World} {a b : Us} {cs cs' : List Value} {bs bs' : List Nat} (h : Rep w a.d cs bs) (h' : Rep w b.d cs' bs') :
    Calls Tryz.prog 65 #[.agg cs.toArray, .agg cs'.toArray] w fun e w' => e = .returned (.int .i64 (kindsF a b)) ∧ Below w.heap.size w w' := by
  obtain ⟨A1, c1, d1, rfl, rfl, ha, hia⟩ := Rep.us_iff.1 h
  obtain ⟨A2, c2, d2, rfl, rfl, hb, hib⟩ := Rep.us_iff.1 h'
  have RA := Lib.hid ha; clear ha h hia
  have RB := Lib.hid hb; clear hb h' hib
  have HK := Lib.hid (show kindsF a b = (if b.reads.contains a.write then 1 else 0) + (if a.reads.contains b.write then 2 else 0) + (if a.write = b.write then 4 else 0) from rfl)
  cases h1 : b.reads.contains a.write <;> cases h2 : a.reads.contains b.write <;> by_cases h3 : a.write = b.write
  all_goals (
    have HX := HK.out
    rw [h1, h2] at HX
    first | rw [if_pos h3] at HX | rw [if_neg h3] at HX
    have HH := Lib.hid HX; clear HX HK
    have H1 := Lib.hid h1; clear h1
    have H2 := Lib.hid h2; clear h2
    have q3 : (a.write == b.write) = decide (a.write = b.write) := by simp [h3]
    first | rw [decide_eq_true h3] at q3 | rw [decide_eq_false h3] at q3
    clear h3
    go_enter Tryz.func65, Tryz.ntmps65
    go_wp2_with fail
    refine (l6Has_c (RB.out.below (by go_bel))).mono ?_
    rintro e w' ⟨rfl, rfl⟩
    rw [H1.out]
    go_wp2_with fail
    refine (l6Has_c (RA.out.below (by go_bel))).mono ?_
    rintro e w' ⟨rfl, rfl⟩
    rw [H2.out]
    go_wp2
    go_ret
    exact ⟨ret_int (by rw [HH.out]; rfl), (by go_bel)⟩)
set_option maxHeartbeats 4000000 in
theorem implDepBetween_c {w : World} {p : Pgm} {a b : Int} {cs : List Value} {bs : List Nat} (h : Rep w p.d cs bs) :
    Calls Tryz.prog 30 #[.agg cs.toArray, .int .i64 a, .int .i64 b] w fun e w' => e = .returned (.int .i64 (DepBetweenF p a b)) ∧ Below w.heap.size w w' := by
  have HP := Lib.hid h
  obtain ⟨A1, c1, A2, c2, d1, d2, rfl, rfl, g1, g2⟩ := Rep.pgm_iff.1 h
  have Garrays := Lib.hid g1
  have Gparts := Lib.hid g2
  clear h g1 g2
  cases hv : progOk p with
  | false =>
    have HX := Lib.hid (DepBetweenF_n (a := a) (b := b) hv)
    have HV := Lib.hid hv; clear hv
    go_enter Tryz.func30, Tryz.ntmps30
    go_wp2_with fail
    refine (trace_n (HP.out.below (by go_bel)) HV.out).mono ?_
    rintro e w1 ⟨rfl, b1⟩
    go_wp2
    go_ret
    exact ⟨ret_int HX.out.symm, (by go_bel)⟩
  | true =>
  have hln := (progOk_all hv).2.2
  have ul := Lib.hid (usesF_len p)
  have HV := Lib.hid hv; clear hv
  go_enter Tryz.func30, Tryz.ntmps30
  go_wp2_with fail
  refine (trace_y (HP.out.below (by go_bel)) HV.out).mono ?_
  rintro e w1 ⟨g, rfl, ht, _, b1⟩
  have S1 : Below w.heap.size w w1 := (by go_bel)
  have HT := Lib.hid ht
  obtain ⟨A1, A2, A3, A4, A5, c1, c2, c3, c4, c5, bs, bs3, bs4, bs5, ⟨x0, x1, x2, x3, x4⟩, _⟩ := ht
  clear b1
  by_cases ha : 0 ≤ a ∧ a ≤ ((instsF p).length : Int) - 1
  case neg =>
    have HX := Lib.hid (DepBetweenF_no (p := p) (a := a) (b := b) (by rw [ul.out]; omega))
    have HA := Lib.hid (show inB a 0 (((instsF p).length : Int) - 1) = false by
      cases hc : inB a 0 (((instsF p).length : Int) - 1) with
      | false => rfl
      | true => exact absurd (inB_iff.1 hc) ha)
    go_wp2_with fail
    refine (within_c _ _ _ _).mono ?_
    rintro e w' ⟨rfl, rfl⟩
    rw [HA.out]
    go_wp2
    go_ret
    exact ⟨ret_int HX.out.symm, S1⟩
  have HA := Lib.hid (inB_true ha.1 ha.2)
  by_cases hb : 0 ≤ b ∧ b ≤ ((instsF p).length : Int) - 1
  case neg =>
    have HX := Lib.hid (DepBetweenF_no (p := p) (a := a) (b := b) (by rw [ul.out]; omega))
    have HB := Lib.hid (show inB b 0 (((instsF p).length : Int) - 1) = false by
      cases hc : inB b 0 (((instsF p).length : Int) - 1) with
      | false => rfl
      | true => exact absurd (inB_iff.1 hc) hb)
    go_wp2_with fail
    refine (within_c _ _ _ _).mono ?_
    rintro e w' ⟨rfl, rfl⟩
    rw [HA.out]
    go_wp2_with fail
    refine (within_c _ _ _ _).mono ?_
    rintro e w' ⟨rfl, rfl⟩
    rw [HB.out]
    go_wp2
    go_ret
    exact ⟨ret_int HX.out.symm, S1⟩
  have HB := Lib.hid (inB_true hb.1 hb.2)
  by_cases hab : b ≤ a
  case pos =>
    have HX := Lib.hid (DepBetweenF_no (p := p) (a := a) (b := b) (by rw [ul.out]; omega))
    go_wp2_with fail
    refine (within_c _ _ _ _).mono ?_
    rintro e w' ⟨rfl, rfl⟩
    rw [HA.out]
    go_wp2_with fail
    refine (within_c _ _ _ _).mono ?_
    rintro e w' ⟨rfl, rfl⟩
    rw [HB.out]
    go_wp2
    go_ret
    exact ⟨ret_int HX.out.symm, S1⟩
  obtain ⟨i, rfl⟩ := Int.eq_ofNat_of_zero_le ha.1
  obtain ⟨j, rfl⟩ := Int.eq_ofNat_of_zero_le hb.1
  have HX := Lib.hid (DepBetweenF_y (p := p) (i := i) (j := j) HV.out (by omega) (by rw [ul.out]; omega))
  go_wp2_with fail
  refine (within_c _ _ _ _).mono ?_
  rintro e w' ⟨rfl, rfl⟩
  rw [HA.out]
  go_wp2_with fail
  refine (within_c _ _ _ _).mono ?_
  rintro e w' ⟨rfl, rfl⟩
  rw [HB.out]
  go_wp2_with fail
  refine (between_c HT.out (by rw [ul.out]; omega) (by rw [ul.out]; omega)).mono ?_
  rintro e w2 ⟨rfl, b2⟩
  go_wp2
  go_ret
  exact ⟨ret_int HX.out.symm, below_tr S1 b2⟩
set_option maxRecDepth 100000 in
set_option maxHeartbeats 4000000 in
theorem specDepBetween_c {w : World} {p : Pgm} {a b : Int} {cs : List Value} {bs : List Nat} (h : Rep w p.d cs bs) :
    Calls Tryz.prog 29 #[.agg cs.toArray, .int .i64 a, .int .i64 b] w fun e w' => e = .returned (.int .i64 (DepBetweenF p a b)) ∧ Below w.heap.size w w' := by
  have HP := Lib.hid h
  obtain ⟨A1, c1, A2, c2, d1, d2, rfl, rfl, g1, g2⟩ := Rep.pgm_iff.1 h
  have Garrays := Lib.hid g1
  have Gparts := Lib.hid g2
  clear h g1 g2
  go_enter Tryz.func29, Tryz.ntmps29
  go_wp2_with fail
  refine (specProgramValid_c (HP.out.below (by go_bel))).mono ?_
  rintro e w1 ⟨rfl, b1⟩
  have P1 : Box2 w1 w.heap.size (.slice A1 p.arrays.length c1) (.slice A2 p.parts.length c2) := by
    refine ⟨?_, ?_⟩ <;> (rw [b1.cell (by simp [World.setCell]; try omega)]; go_simp)
  have S1 : Below w.heap.size w w1 := (by go_bel)
  clear b1
  cases hv : progOk p with
  | false =>
    have HX := Lib.hid (DepBetweenF_n (a := a) (b := b) hv)
    clear hv
    go_wp2
    go_ret
    exact ⟨ret_int HX.out.symm, S1⟩
  | true =>
  have hln := (progOk_all hv).2.2
  have ul := Lib.hid (usesF_len p)
  have HV := Lib.hid hv; clear hv
  go_wp2_with fail
  refine (l6Uses_c (HP.out.below (by go_bel)) HV.out).mono ?_
  rintro e w2 ⟨A3, c3, bs3, rfl, r2, b2⟩
  have s2 : Below w1.heap.size w1 w2 := (by go_bel)
  have P2 := P1.to s2; clear P1
  have S2 : Below w.heap.size w w2 := below_tr S1 s2
  clear s2
  clear b2
  have R2 := Lib.hid r2; clear r2
  by_cases ha : 0 ≤ a
  case neg =>
    have HX := Lib.hid (DepBetweenF_no (p := p) (a := a) (b := b) (by omega))
    go_wp2
    go_ret
    exact ⟨ret_int HX.out.symm, S2⟩
  by_cases hab : b ≤ a
  case pos =>
    have HX := Lib.hid (DepBetweenF_no (p := p) (a := a) (b := b) (by omega))
    go_wp2
    go_ret
    exact ⟨ret_int HX.out.symm, S2⟩
  by_cases hb : ((usesF p).length : Int) ≤ b
  case pos =>
    have HX := Lib.hid (DepBetweenF_no (p := p) (a := a) (b := b) (by omega))
    go_wp2
    go_ret
    exact ⟨ret_int HX.out.symm, S2⟩
  obtain ⟨i, rfl⟩ := Int.eq_ofNat_of_zero_le ha
  obtain ⟨j, rfl⟩ := Int.eq_ofNat_of_zero_le (show 0 ≤ b by omega)
  have hi : i < (usesF p).length := by omega
  have hj : j < (usesF p).length := by omega
  have HX := Lib.hid (DepBetweenF_y (p := p) (i := i) (j := j) HV.out (by omega) hj)
  obtain ⟨b4, o4, cs4, l4, rfl, hl4, h4, _, _, hc4⟩ := R2.out.sls_at Us.d_size (k := i) hi
  obtain ⟨b5, o5, cs5, l5, he, hl5, h5, _, _, hc5⟩ := R2.out.sls_at Us.d_size (k := j) hj
  obtain ⟨rfl, rfl⟩ : b4 = b5 ∧ o4 = o5 := by simpa using he
  rw [← nthU_eq hi] at h4
  rw [← nthU_eq hj] at h5
  have H4 := Lib.hid h4
  have H5 := Lib.hid h5
  obtain ⟨A6, c6, d6, rfl, rfl, _⟩ := Rep.us_iff.1 h4
  obtain ⟨A7, c7, d7, rfl, rfl, _⟩ := Rep.us_iff.1 h5
  have k0 := (hc4 0 _ rfl).1
  have k1 := (hc4 1 _ rfl).1
  have l0 := (hc5 0 _ rfl).1
  have l1 := (hc5 1 _ rfl).1
  rw [Nat.add_zero] at k0 l0
  clear hc4 hc5 h4 h5 he
  go_wp2_with fail
  go_stilld 8
  go_wp2_with fail
  refine (l6Kinds_c (H4.out.below (by go_bel)) (H5.out.below (by go_bel))).mono ?_
  rintro e w3 ⟨rfl, b3⟩
  go_wp2
  go_ret
  exact ⟨ret_int HX.out.symm, below_tr S2 (of_drew b3)⟩
end Go.Proofs.YtaomlianiehkgaaGreat
