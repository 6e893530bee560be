/- Which instances a valid program has, on both sides: isInstance, l4In. -/
import Derived.Test.YtgimggpmnemkbaaGreatZActs
import Derived.Test.YtgimggpmnemkbaaGreatZDeps1
set_option linter.all false
set_option linter.unusedSimpArgs false
set_option linter.unusedVariables false
namespace Go.Proofs.YtgimggpmnemkbaaGreat
open Go.ChangeShapes Go.WideShapes Go.ChangeAt Go.RowKit Go.Deep

theorem isIn_n1 {p : Pgm} {x : In} (h : inB x.part 0 ((p.parts.length : Int) - 1) = false) : isInF p x = false := by rw [isInF, h, Bool.false_and]
theorem isIn_y1 {p : Pgm} {x : In} (h : inB x.part 0 ((p.parts.length : Int) - 1) = true) : ∃ k : Nat, x.part = (k : Int) ∧ ∃ hk : k < p.parts.length, isInF p x = (inB x.stmt 0 ((p.parts[k].body.length : Int) - 1) && PointInF p.parts[k].nest x.point) := by
  have h1 := inB_iff.1 h
  obtain ⟨k, hk⟩ := Int.eq_ofNat_of_zero_le h1.1
  have hlt : k < p.parts.length := by omega
  refine ⟨k, hk, hlt, ?_⟩
  rw [isInF, h, Bool.true_and, hk, prtF_eq hlt]

section
variable {w : World} {p : Pgm} {x : In} {cs cs' : List Value} {bs bs' : List Nat}
set_option maxRecDepth 100000 in
set_option maxHeartbeats 8000000 in
theorem isInstance_c (h : Rep w p.d cs bs) (h' : Rep w x.d cs' bs') :
    Calls Tryz.prog 67 #[.agg cs.toArray, .agg cs'.toArray] w fun e w' => e = .returned (.bool (isInF p x)) ∧ Below w.heap.size w w' := by
  obtain ⟨A1, c1, A2, c2, d1, d2, rfl, rfl, g1, g2⟩ := Rep.pgm_iff.1 h
  have Garrays := Lib.hid g1
  have Gparts := Lib.hid g2
  clear h g1 g2
  obtain ⟨A3', c3', d3', rfl, rfl, g1', g2', g3'⟩ := Rep.in_iff.1 h'
  have Gpart' := Lib.hid g1'
  have Gstmt' := Lib.hid g2'
  have Gpoint' := Lib.hid g3'
  clear h' g1' g2' g3'
  have hpn : p.parts.length ≤ 9223372036854775807 := Nat.le_trans Gparts.out.sls_len.2.1 Gparts.out.sls_len.2.2
  cases hi : inB x.part 0 ((p.parts.length : Int) - 1) with
  | false =>
    have HX := Lib.hid (isIn_n1 hi)
    have HI := Lib.hid hi; clear hi
    go_enter Tryz.func67, Tryz.ntmps67
    go_wp2_with fail
    refine wp_region_noPanic ?_
    refine wp_region_held_drew (S := fun w' => Box2 w' w.heap.size (.slice A1 p.arrays.length c1) (.slice A2 p.parts.length c2) ∧ Box3 w' (w.heap.size+1) (.int .i64 x.part) (.int .i64 x.stmt) (.slice A3' x.point.length c3')) (by kernel_rfl) (⟨⟨by go_simp, by go_simp⟩, ⟨by go_simp, by go_simp, by go_simp⟩⟩) (fun hHeld => ?_)
    refine goR 0 hHeld ?_
    refine goR 1 hHeld ?_
    refine goR 2 hHeld ?_
    refine goR 3 hHeld ?_
    refine goR 4 hHeld ?_
    refine goR 5 hHeld ?_
    refine stepR (i := 6) rfl (by kernel_rfl) (wanted_none rfl) (fun K hK => ?_)
    go_simp
    (refine (within_c _ _ _ _).mono ?_; rintro e w' ⟨rfl, rfl⟩; rw [show IntKind.i64.wrap ((p.parts.length : Int) - 1) = (p.parts.length : Int) - 1 from IntWalk.i64_in _ (by omega), HI.out])
    go_wp2_with fail
    refine hK.out _ _ (hHeld) (fun hHeld => ?_)
    clear hK K
    try simp only [Act.put, List.setIfInBounds_toArray, List.set_cons_zero, List.set_cons_succ]
    refine goR 7 hHeld ?_
    refine goS 8 hHeld ?_
    refine goS 9 hHeld ?_
    refine goS 10 hHeld ?_
    refine goS 11 hHeld ?_
    refine goS 12 hHeld ?_
    refine goS 13 hHeld ?_
    refine goS 14 hHeld ?_
    refine goS 15 hHeld ?_
    refine goS 16 hHeld ?_
    refine goS 17 hHeld ?_
    refine goS 18 hHeld ?_
    refine goS 19 hHeld ?_
    refine goR 20 hHeld ?_
    refine goR 21 hHeld ?_
    refine goS 22 hHeld ?_
    refine goS 23 hHeld ?_
    refine goS 24 hHeld ?_
    refine goS 25 hHeld ?_
    refine goS 26 hHeld ?_
    refine goS 27 hHeld ?_
    refine goS 28 hHeld ?_
    refine goS 29 hHeld ?_
    refine goS 30 hHeld ?_
    refine goS 31 hHeld ?_
    refine goR 32 hHeld ?_
    refine goR 33 hHeld ?_
    refine wpAnyH_done (by kernel_rfl) ?_ _
    refine NoPanic.normal ?_
    go_wp2
    go_ret
    exact ⟨ret_bool HX.out.symm, bel⟩
  | true =>
  obtain ⟨k, hpk, hk, hF⟩ := isIn_y1 hi
  have HI := Lib.hid hi; clear hi
  have HF := Lib.hid hF; clear hF
  rw [hpk] at HI ⊢
  obtain ⟨be, oe, cse, le, rfl, hble, hre, _, _, hce⟩ := Gparts.out.sls_at Prt.d_size (k := k) hk
  have Ge := Lib.hid hre
  obtain ⟨A1e, c1e, A2e, c2e, d1e, d2e, rfl, rfl, g1e, g2e⟩ := Rep.prt_iff.1 hre
  have k0e := (hce 0 _ rfl).1; rw [Nat.add_zero] at k0e
  have k1e := (hce 1 _ rfl).1
  have Q1e := Lib.hid g1e
  have Q2e := Lib.hid g2e
  clear hce hre g1e g2e
  have hbn : p.parts[k].body.length ≤ 9223372036854775807 := Nat.le_trans Q2e.out.sls_len.2.1 Q2e.out.sls_len.2.2
  cases hj : inB x.stmt 0 ((p.parts[k].body.length : Int) - 1) with
  | false =>
    have HX := Lib.hid (HF.out.trans (by rw [hj, Bool.false_and]))
    have HJ := Lib.hid hj; clear hj
    go_enter Tryz.func67, Tryz.ntmps67
    go_wp2_with fail
    refine wp_region_noPanic ?_
    refine wp_region_held_drew (S := fun w' => Box2 w' w.heap.size (.slice A1 p.arrays.length c1) (.slice (some ⟨be, oe, none⟩) p.parts.length c2) ∧ (w'.cell? ⟨w.heap.size+1, 0, none⟩ = some (.int .i64 (k : Int)) ∧ w'.cell? ⟨w.heap.size+1, 1, none⟩ = some (.int .i64 x.stmt) ∧ w'.cell? ⟨w.heap.size+1, 2, none⟩ = some (.slice A3' x.point.length c3')) ∧ w'.cell? ⟨be, oe + k * 2, none⟩ = some (.slice A1e p.parts[k].nest.length c1e) ∧ w'.cell? ⟨be, oe + k * 2 + 1, none⟩ = some (.slice A2e p.parts[k].body.length c2e)) (by kernel_rfl) (⟨⟨by go_simp, by go_simp⟩, ⟨by go_simp, by go_simp, by go_simp⟩, cell_al (cell_al k0e), cell_al (cell_al k1e)⟩) (fun hHeld => ?_)
    refine goR 0 hHeld ?_
    refine goR 1 hHeld ?_
    refine goR 2 hHeld ?_
    refine goR 3 hHeld ?_
    refine goR 4 hHeld ?_
    refine goR 5 hHeld ?_
    refine stepR (i := 6) rfl (by kernel_rfl) (wanted_none rfl) (fun K hK => ?_)
    go_simp
    (refine (within_c _ _ _ _).mono ?_; rintro e w' ⟨rfl, rfl⟩; rw [show IntKind.i64.wrap ((p.parts.length : Int) - 1) = (p.parts.length : Int) - 1 from IntWalk.i64_in _ (by omega), HI.out])
    go_wp2_with fail
    refine hK.out _ _ (hHeld) (fun hHeld => ?_)
    clear hK K
    try simp only [Act.put, List.setIfInBounds_toArray, List.set_cons_zero, List.set_cons_succ]
    refine goR 7 hHeld ?_
    refine goG 8 hHeld ?_
    refine goG 9 hHeld ?_
    refine goG 10 hHeld ?_
    refine goG 11 hHeld ?_
    refine goG 12 hHeld ?_
    refine goG 13 hHeld ?_
    refine goG 14 hHeld ?_
    refine goG 15 hHeld ?_
    refine goG 16 hHeld ?_
    refine goG 17 hHeld ?_
    refine goG 18 hHeld ?_
    refine stepR (i := 19) rfl (by kernel_rfl) (by kernel_rfl) (fun K hK => ?_)
    go_simp
    (refine (within_c _ _ _ _).mono ?_; rintro e w' ⟨rfl, rfl⟩; rw [show IntKind.i64.wrap ((p.parts[k].body.length : Int) - 1) = (p.parts[k].body.length : Int) - 1 from IntWalk.i64_in _ (by omega), HJ.out])
    go_wp2_with fail
    refine hK.out _ _ (hHeld) (fun hHeld => ?_)
    clear hK K
    try simp only [Act.put, List.setIfInBounds_toArray, List.set_cons_zero, List.set_cons_succ]
    refine goR 20 hHeld ?_
    refine goR 21 hHeld ?_
    refine goS 22 hHeld ?_
    refine goS 23 hHeld ?_
    refine goS 24 hHeld ?_
    refine goS 25 hHeld ?_
    refine goS 26 hHeld ?_
    refine goS 27 hHeld ?_
    refine goS 28 hHeld ?_
    refine goS 29 hHeld ?_
    refine goS 30 hHeld ?_
    refine goS 31 hHeld ?_
    refine goR 32 hHeld ?_
    refine goR 33 hHeld ?_
    refine wpAnyH_done (by kernel_rfl) ?_ _
    refine NoPanic.normal ?_
    go_wp2
    go_ret
    exact ⟨ret_bool HX.out.symm, bel⟩
  | true =>
  have HX := Lib.hid (HF.out.trans (by rw [hj, Bool.true_and]))
  have HJ := Lib.hid hj; clear hj HF
  have b0 : Below w.heap.size w ((w.alloc (.cells #[.slice A1 p.arrays.length c1, .slice (some ⟨be, oe, none⟩) p.parts.length c2] 36)).alloc (.cells #[.int .i64 (k : Int), .int .i64 x.stmt, .slice A3' x.point.length c3'] 39)) := bel
  have QN := Lib.hid (Q1e.out.below b0)
  have GQ := Lib.hid (Gpoint'.out.below b0)
  go_enter Tryz.func67, Tryz.ntmps67
  go_wp2_with fail
  refine wp_region_noPanic ?_
  refine wp_region_held_drew (S := fun w' => Box2 w' w.heap.size (.slice A1 p.arrays.length c1) (.slice (some ⟨be, oe, none⟩) p.parts.length c2) ∧ (w'.cell? ⟨w.heap.size+1, 0, none⟩ = some (.int .i64 (k : Int)) ∧ w'.cell? ⟨w.heap.size+1, 1, none⟩ = some (.int .i64 x.stmt) ∧ w'.cell? ⟨w.heap.size+1, 2, none⟩ = some (.slice A3' x.point.length c3')) ∧ w'.cell? ⟨be, oe + k * 2, none⟩ = some (.slice A1e p.parts[k].nest.length c1e) ∧ w'.cell? ⟨be, oe + k * 2 + 1, none⟩ = some (.slice A2e p.parts[k].body.length c2e)) (by kernel_rfl) (⟨⟨by go_simp, by go_simp⟩, ⟨by go_simp, by go_simp, by go_simp⟩, cell_al (cell_al k0e), cell_al (cell_al k1e)⟩) (fun hHeld => ?_)
  refine goR 0 hHeld ?_
  refine goR 1 hHeld ?_
  refine goR 2 hHeld ?_
  refine goR 3 hHeld ?_
  refine goR 4 hHeld ?_
  refine goR 5 hHeld ?_
  refine stepR (i := 6) rfl (by kernel_rfl) (wanted_none rfl) (fun K hK => ?_)
  go_simp
  (refine (within_c _ _ _ _).mono ?_; rintro e w' ⟨rfl, rfl⟩; rw [show IntKind.i64.wrap ((p.parts.length : Int) - 1) = (p.parts.length : Int) - 1 from IntWalk.i64_in _ (by omega), HI.out])
  go_wp2_with fail
  refine hK.out _ _ (hHeld) (fun hHeld => ?_)
  clear hK K
  try simp only [Act.put, List.setIfInBounds_toArray, List.set_cons_zero, List.set_cons_succ]
  refine goR 7 hHeld ?_
  refine goG 8 hHeld ?_
  refine goG 9 hHeld ?_
  refine goG 10 hHeld ?_
  refine goG 11 hHeld ?_
  refine goG 12 hHeld ?_
  refine goG 13 hHeld ?_
  refine goG 14 hHeld ?_
  refine goG 15 hHeld ?_
  refine goG 16 hHeld ?_
  refine goG 17 hHeld ?_
  refine goG 18 hHeld ?_
  refine stepR (i := 19) rfl (by kernel_rfl) (by kernel_rfl) (fun K hK => ?_)
  go_simp
  (refine (within_c _ _ _ _).mono ?_; rintro e w' ⟨rfl, rfl⟩; rw [show IntKind.i64.wrap ((p.parts[k].body.length : Int) - 1) = (p.parts[k].body.length : Int) - 1 from IntWalk.i64_in _ (by omega), HJ.out])
  go_wp2_with fail
  refine hK.out _ _ (hHeld) (fun hHeld => ?_)
  clear hK K
  try simp only [Act.put, List.setIfInBounds_toArray, List.set_cons_zero, List.set_cons_succ]
  refine goR 20 hHeld ?_
  refine goR 21 hHeld ?_
  refine goG 22 hHeld ?_
  refine goG 23 hHeld ?_
  refine goG 24 hHeld ?_
  refine goG 25 hHeld ?_
  refine goG 26 hHeld ?_
  refine goG 27 hHeld ?_
  refine goG 28 hHeld ?_
  refine goG 29 hHeld ?_
  refine goG 30 hHeld ?_
  refine stepR (i := 31) rfl (by kernel_rfl) (by kernel_rfl) (fun K hK => ?_)
  go_simp
  (refine (implPointIn_c (QN.out.drewN 1) (GQ.out.drewN 1)).mono ?_; rintro e w1 ⟨rfl, b1⟩)
  go_wp2_with fail
  refine hK.out _ _ (by obtain ⟨⟨h1, h2⟩, ⟨h3, h4, h5⟩, h6, h7⟩ := hHeld; exact ⟨⟨cell_to h1 b1, cell_to h2 b1⟩, ⟨cell_to h3 b1, cell_to h4 b1, cell_to h5 b1⟩, cell_to h6 b1, cell_to h7 b1⟩) (fun hHeld => ?_)
  clear hK K
  try simp only [Act.put, List.setIfInBounds_toArray, List.set_cons_zero, List.set_cons_succ]
  refine goR 32 hHeld ?_
  refine goR 33 hHeld ?_
  refine wpAnyH_done (by kernel_rfl) ?_ _
  refine NoPanic.normal ?_
  go_wp2
  go_ret
  exact ⟨ret_bool HX.out.symm, below_tr b0 (of_drew b1)⟩
set_option maxRecDepth 100000 in
set_option maxHeartbeats 8000000 in
theorem l4In_c (h : Rep w p.d cs bs) (h' : Rep w x.d cs' bs') :
    Calls Tryz.prog 62 #[.agg cs.toArray, .agg cs'.toArray] w fun e w' => e = .returned (.bool (isInF p x)) ∧ Below w.heap.size w w' := by
  obtain ⟨A1, c1, A2, c2, d1, d2, rfl, rfl, g1, g2⟩ := Rep.pgm_iff.1 h
  have Garrays := Lib.hid g1
  have Gparts := Lib.hid g2
  clear h g1 g2
  obtain ⟨A3', c3', d3', rfl, rfl, g1', g2', g3'⟩ := Rep.in_iff.1 h'
  have Gpart' := Lib.hid g1'
  have Gstmt' := Lib.hid g2'
  have Gpoint' := Lib.hid g3'
  clear h' g1' g2' g3'
  have hpn : p.parts.length ≤ 9223372036854775807 := Nat.le_trans Gparts.out.sls_len.2.1 Gparts.out.sls_len.2.2
  by_cases h0 : x.part < 0
  · have HX := Lib.hid (isIn_n1 (p := p) (x := x) (inB_lo (by omega)))
    go_enter Tryz.func62, Tryz.ntmps62
    go_wp2
    go_ret
    exact ⟨ret_bool HX.out.symm, bel⟩
  by_cases h1 : (p.parts.length : Int) ≤ x.part
  · have HX := Lib.hid (isIn_n1 (p := p) (x := x) (inB_hi (by omega)))
    go_enter Tryz.func62, Tryz.ntmps62
    go_wp2
    go_ret
    exact ⟨ret_bool HX.out.symm, bel⟩
  obtain ⟨k, hpk, hk, hF⟩ := isIn_y1 (p := p) (x := x) (inB_true (by omega) (by omega))
  have HF := Lib.hid hF; clear hF h0 h1
  rw [hpk]
  obtain ⟨be, oe, cse, le, rfl, hble, hre, _, _, hce⟩ := Gparts.out.sls_at Prt.d_size (k := k) hk
  have Ge := Lib.hid hre
  obtain ⟨A1e, c1e, A2e, c2e, d1e, d2e, rfl, rfl, g1e, g2e⟩ := Rep.prt_iff.1 hre
  have k0e := (hce 0 _ rfl).1; rw [Nat.add_zero] at k0e
  have k1e := (hce 1 _ rfl).1
  have Q1e := Lib.hid g1e
  have Q2e := Lib.hid g2e
  clear hce hre g1e g2e
  have hbn : p.parts[k].body.length ≤ 9223372036854775807 := Nat.le_trans Q2e.out.sls_len.2.1 Q2e.out.sls_len.2.2
  have l0e : be < w.heap.size + 1 := by omega
  clear hpk
  by_cases h0 : 0 ≤ x.stmt
  case neg =>
    have HX := Lib.hid (HF.out.trans (by rw [inB_lo h0, Bool.false_and]))
    go_enter Tryz.func62, Tryz.ntmps62
    go_wp2
    go_ret
    exact ⟨ret_bool HX.out.symm, bel⟩
  by_cases h1 : x.stmt < (p.parts[k].body.length : Int)
  case neg =>
    have HX := Lib.hid (HF.out.trans (by rw [inB_hi (by omega), Bool.false_and]))
    go_enter Tryz.func62, Tryz.ntmps62
    go_wp2
    go_ret
    exact ⟨ret_bool HX.out.symm, bel⟩
  have HX := Lib.hid (HF.out.trans (by rw [inB_true h0 (by omega), Bool.true_and]))
  go_enter Tryz.func62, Tryz.ntmps62
  go_wp2_with fail
  refine (specPointIn_c (Q1e.out.below bel) (Gpoint'.out.below bel)).mono ?_
  rintro e w1 ⟨rfl, b1⟩
  go_wp2
  go_ret
  exact ⟨ret_bool HX.out.symm, bel⟩
end
end Go.Proofs.YtgimggpmnemkbaaGreat
