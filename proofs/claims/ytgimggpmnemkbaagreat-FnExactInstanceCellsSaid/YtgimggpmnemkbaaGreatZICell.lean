/- The cells of an instance, on both sides: InstanceCells. -/
import Derived.Test.YtgimggpmnemkbaaGreatZIsIn
import Derived.Test.YtgimggpmnemkbaaGreatZDeps1
set_option linter.all false
set_option linter.unusedSimpArgs false
set_option linter.unusedVariables false
namespace Go.Proofs.YtgimggpmnemkbaaGreat
open Go.ChangeShapes Go.WideShapes Go.ChangeAt Go.RowKit Go.Deep

def InstanceCellsF (p : Pgm) (x : In) : List Int × Int × Bool := if progOk p && isInF p x then ((useF p x).reads, (useF p x).write, true) else ([], 0, false)
theorem IC_n1 {p : Pgm} {x : In} (h : progOk p = false) : InstanceCellsF p x = ([], 0, false) := by unfold InstanceCellsF; rw [h]; rfl
theorem IC_n2 {p : Pgm} {x : In} (h : isInF p x = false) : InstanceCellsF p x = ([], 0, false) := by unfold InstanceCellsF; rw [h, Bool.and_false]; rfl
theorem IC_y {p : Pgm} {x : In} (h : progOk p = true) (h2 : isInF p x = true) : InstanceCellsF p x = ((useF p x).reads, (useF p x).write, true) := by unfold InstanceCellsF; rw [h, h2]; rfl
theorem InstanceCellsF_len (p : Pgm) (x : In) : (InstanceCellsF p x).1.length ≤ 1000000 := by
  cases h : progOk p with
  | false => rw [IC_n1 h]; simp
  | true =>
    cases h2 : isInF p x with
    | false => rw [IC_n2 h2]; simp
    | true =>
      rw [IC_y h h2]
      have hf := (InOk.of_in h2).fine h
      simp only [useF, rdF_eq, List.length_map]
      exact (StB.of hf.stm hf.pt).n

section
variable {w : World} {p : Pgm} {x : In} {cs cs' : List Value} {bs bs' : List Nat}
set_option maxRecDepth 100000 in
set_option maxHeartbeats 4000000 in
theorem implInstanceCells_c (h : Rep w p.d cs bs) (h' : Rep w x.d cs' bs') :
    Calls Tryz.prog 51 #[.agg cs.toArray, .agg cs'.toArray] w (MadeCells w (InstanceCellsF p x)) := by
  have HP := Lib.hid h
  have HX := Lib.hid h'
  obtain ⟨A1, c1, A2, c2, d1, d2, rfl, rfl, g1, g2⟩ := Rep.pgm_iff.1 h
  have Garrays := Lib.hid g1
  have Gparts := Lib.hid g2
  clear h g1 g2
  obtain ⟨A3', c3', d3', rfl, rfl, g1', g2', g3'⟩ := Rep.in_iff.1 h'
  have Gpart' := Lib.hid g1'
  have Gstmt' := Lib.hid g2'
  have Gpoint' := Lib.hid g3'
  clear h' g1' g2' g3'
  go_enter Tryz.func51, Tryz.ntmps51
  go_wp2_with fail
  refine (implProgramValid_c (HP.out.below bel)).mono ?_
  rintro e w1 ⟨rfl, b1⟩
  have P1 : Box2 w1 w.heap.size (.slice A1 p.arrays.length c1) (.slice A2 p.parts.length c2) := by
    refine ⟨?_, ?_⟩ <;> (rw [b1.cell (by simp [World.setCell]; try omega)]; go_simp)
  have X1 : Box3 w1 (w.heap.size+1) (.int .i64 x.part) (.int .i64 x.stmt) (.slice A3' x.point.length c3') := by
    refine ⟨?_, ?_, ?_⟩ <;> (rw [b1.cell (by simp [World.setCell]; try omega)]; go_simp)
  have S1 : Below w.heap.size w w1 := bel
  clear b1
  cases hv : progOk p with
  | false =>
    have HY := Lib.hid (IC_n1 (x := x) hv)
    clear hv
    go_wp2
    go_ret3
    rw [HY.out]
    exact ⟨none, 0, 0, [], rfl, Rep.ints_nil (Nat.zero_le _), by simp, by simp, S1⟩
  | true =>
  have HV := Lib.hid hv; clear hv
  go_wp2_with fail
  refine (isInstance_c (HP.out.below bel) (HX.out.below bel)).mono ?_
  rintro e w2 ⟨rfl, b2⟩
  have s2 : Below w1.heap.size w1 w2 := bel
  have P2 := P1.to s2; clear P1
  have X2 := X1.to s2; clear X1
  have S2 : Below w.heap.size w w2 := below_tr S1 s2
  clear s2
  clear b2
  cases hi : isInF p x with
  | false =>
    have HY := Lib.hid (IC_n2 (p := p) hi)
    clear hi
    go_wp2
    go_ret3
    rw [HY.out]
    exact ⟨none, 0, 0, [], rfl, Rep.ints_nil (Nat.zero_le _), by simp, by simp, S2⟩
  | true =>
  have HY := Lib.hid (IC_y HV.out hi)
  have HIN := Lib.hid (InOk.of_in hi)
  clear hi
  go_wp2_with fail
  refine (touched_c (HP.out.below (below_tr S2 bel)) (HX.out.below (below_tr S2 bel)) HIN.out HV.out).mono ?_
  rintro e w3 ⟨A6, c6, bs6, rfl, r6, nd6, hb6, b3⟩
  have S3 : Below w.heap.size w w3 := below_tr S2 bel
  go_wp2
  go_ret3
  rw [HY.out]
  exact ⟨A6, _, c6, bs6, rfl, r6, nd6, fun y hy => Nat.le_trans S2.size (hb6 y hy), S3⟩
set_option maxRecDepth 100000 in
set_option maxHeartbeats 8000000 in
theorem specInstanceCells_c (h : Rep w p.d cs bs) (h' : Rep w x.d cs' bs') :
    Calls Tryz.prog 50 #[.agg cs.toArray, .agg cs'.toArray] w (MadeCells w (InstanceCellsF p x)) := by
  have HP := Lib.hid h
  have HX := Lib.hid h'
  obtain ⟨A1, c1, A2, c2, d1, d2, rfl, rfl, g1, g2⟩ := Rep.pgm_iff.1 h
  have Garrays := Lib.hid g1
  have Gparts := Lib.hid g2
  clear h g1 g2
  obtain ⟨A3', c3', d3', rfl, rfl, g1', g2', g3'⟩ := Rep.in_iff.1 h'
  have Gpart' := Lib.hid g1'
  have Gstmt' := Lib.hid g2'
  have Gpoint' := Lib.hid g3'
  clear h' g1' g2' g3'
  go_enter Tryz.func50, Tryz.ntmps50
  go_wp2_with fail
  refine (specProgramValid_c (HP.out.below bel)).mono ?_
  rintro e w1 ⟨rfl, b1⟩
  have P1 : Box2 w1 w.heap.size (.slice A1 p.arrays.length c1) (.slice A2 p.parts.length c2) := by
    refine ⟨?_, ?_⟩ <;> (rw [b1.cell (by simp [World.setCell]; try omega)]; go_simp)
  have X1 : Box3 w1 (w.heap.size+1) (.int .i64 x.part) (.int .i64 x.stmt) (.slice A3' x.point.length c3') := by
    refine ⟨?_, ?_, ?_⟩ <;> (rw [b1.cell (by simp [World.setCell]; try omega)]; go_simp)
  have S1 : Below w.heap.size w w1 := bel
  clear b1
  cases hv : progOk p with
  | false =>
    have HY := Lib.hid (IC_n1 (x := x) hv)
    clear hv
    go_wp2
    go_ret3
    rw [HY.out]
    exact MadeCells.of_grow (r := ([], 0, false)) (Grow.made w1 3 1 S1.size) (Nat.le_refl _) (S1.alloc S1.size _)
  | true =>
  have HV := Lib.hid hv; clear hv
  go_wp2_with fail
  refine (l4In_c (HP.out.below bel) (HX.out.below bel)).mono ?_
  rintro e w2 ⟨rfl, b2⟩
  have s2 : Below w1.heap.size w1 w2 := bel
  have P2 := P1.to s2; clear P1
  have X2 := X1.to s2; clear X1
  have S2 : Below w.heap.size w w2 := below_tr S1 s2
  clear s2
  clear b2
  cases hi : isInF p x with
  | false =>
    have HY := Lib.hid (IC_n2 (p := p) hi)
    clear hi
    go_wp2
    go_ret3
    rw [HY.out]
    exact MadeCells.of_grow (r := ([], 0, false)) (Grow.made w2 3 1 S2.size) (Nat.le_refl _) (S2.alloc S2.size _)
  | true =>
  have HY := Lib.hid (IC_y HV.out hi)
  have hin := InOk.of_in hi
  clear hi
  have hfi := hin.fine HV.out
  have HOK := Lib.hid (progOk_arr HV.out)
  obtain ⟨k, s, hpk, hss, hk, hs, e1, e2⟩ := hin.get
  have HCF := Lib.hid (show CellsF p.arrays x.point p.parts[k].body[s] = ((useF p x).reads, (useF p x).write, true) by
    rw [← e2, CellsF_fine hfi.fine]; rfl)
  have HSV := Lib.hid (show StmtValidF p.parts[k].body[s] ((prtF p x.part).nest.length : Int) = true by rw [← e2]; exact hfi.stm)
  have HPT := Lib.hid hfi.pt
  clear hin hfi e1 e2
  have GP2 := Lib.hid (Gparts.out.below S2)
  have GA2 := Lib.hid (Garrays.out.below S2)
  have GQ2 := Lib.hid (Gpoint'.out.below S2)
  obtain ⟨bf, of, csf, lf, rfl, hblf, hrf, _, _, hcf⟩ := GP2.out.sls_at Prt.d_size (k := k) hk
  have Gf := Lib.hid hrf
  obtain ⟨A1f, c1f, A2f, c2f, d1f, d2f, rfl, rfl, g1f, g2f⟩ := Rep.prt_iff.1 hrf
  have k0f := (hcf 0 _ rfl).1; rw [Nat.add_zero] at k0f
  have k1f := (hcf 1 _ rfl).1
  have Q1f := Lib.hid g1f
  have Q2f := Lib.hid g2f
  clear hcf hrf g1f g2f
  obtain ⟨bg, og, csg, lg, rfl, hblg, hrg, _, _, hcg⟩ := Q2f.out.sls_at Stm.d_size (k := s) hs
  have Gg := Lib.hid hrg
  obtain ⟨A2g, c2g, A5g, c5g, A8g, c8g, A9g, c9g, d2g, d5g, d8g, d9g, rfl, rfl, g1g, g2g, g3g, g4g, g5g, g6g, g7g, g8g, g9g⟩ := Rep.stm_iff.1 hrg
  have k0g := (hcg 0 _ rfl).1; rw [Nat.add_zero] at k0g
  have k1g := (hcg 1 _ rfl).1
  have k2g := (hcg 2 _ rfl).1
  have k3g := (hcg 3 _ rfl).1
  have k4g := (hcg 4 _ rfl).1
  have k5g := (hcg 5 _ rfl).1
  have k6g := (hcg 6 _ rfl).1
  have k7g := (hcg 7 _ rfl).1
  have k8g := (hcg 8 _ rfl).1
  have Q1g := Lib.hid g1g
  have Q2g := Lib.hid g2g
  have Q3g := Lib.hid g3g
  have Q4g := Lib.hid g4g
  have Q5g := Lib.hid g5g
  have Q6g := Lib.hid g6g
  have Q7g := Lib.hid g7g
  have Q8g := Lib.hid g8g
  have Q9g := Lib.hid g9g
  clear hcg hrg g1g g2g g3g g4g g5g g6g g7g g8g g9g
  rw [hpk, hss] at X2
  go_wp2_with fail
  refine wp_region_noPanic ?_
  refine wp_region_held_drew (S := fun w' => w'.cell? ⟨w.heap.size, 0, none⟩ = some (.slice A1 p.arrays.length c1) ∧ w'.cell? ⟨w.heap.size, 1, none⟩ = some (.slice (some ⟨bf, of, none⟩) p.parts.length c2) ∧ w'.cell? ⟨w.heap.size + 1, 0, none⟩ = some (.int .i64 (k : Int)) ∧ w'.cell? ⟨w.heap.size + 1, 1, none⟩ = some (.int .i64 (s : Int)) ∧ w'.cell? ⟨w.heap.size + 1, 2, none⟩ = some (.slice A3' x.point.length c3') ∧ w'.cell? ⟨bf, of + k * 2 + 1, none⟩ = some (.slice (some ⟨bg, og, none⟩) p.parts[k].body.length c2f) ∧ w'.cell? ⟨bg, og + s * 9, none⟩ = some (.string p.parts[k].body[s].write.arr) ∧ w'.cell? ⟨bg, og + s * 9 + 1, none⟩ = some (.slice A2g p.parts[k].body[s].write.subs.length c2g) ∧ w'.cell? ⟨bg, og + s * 9 + 2, none⟩ = some (.int .i64 p.parts[k].body[s].value.kind) ∧ w'.cell? ⟨bg, og + s * 9 + 3, none⟩ = some (.int .i64 p.parts[k].body[s].value.num) ∧ w'.cell? ⟨bg, og + s * 9 + 4, none⟩ = some (.slice A5g p.parts[k].body[s].value.index.coefs.length c5g) ∧ w'.cell? ⟨bg, og + s * 9 + 5, none⟩ = some (.int .i64 p.parts[k].body[s].value.index.const) ∧ w'.cell? ⟨bg, og + s * 9 + 6, none⟩ = some (.string p.parts[k].body[s].value.read.arr) ∧ w'.cell? ⟨bg, og + s * 9 + 7, none⟩ = some (.slice A8g p.parts[k].body[s].value.read.subs.length c8g) ∧ w'.cell? ⟨bg, og + s * 9 + 8, none⟩ = some (.slice A9g p.parts[k].body[s].value.kids.length c9g)) (by kernel_rfl) (⟨P2.1, P2.2, X2.1, X2.2.1, X2.2.2, k1f, k0g, k1g, k2g, k3g, k4g, k5g, k6g, k7g, k8g⟩) (fun hHeld => ?_)
  refine goR 0 hHeld ?_
  refine goR 1 hHeld ?_
  refine goR 2 hHeld ?_
  refine goR 3 hHeld ?_
  refine goR 4 hHeld ?_
  refine goR 5 hHeld ?_
  refine goR 6 hHeld ?_
  refine goR 7 hHeld ?_
  refine goR 8 hHeld ?_
  refine goR 9 hHeld ?_
  refine goR 10 hHeld ?_
  refine goR 11 hHeld ?_
  refine goR 12 hHeld ?_
  refine goR 13 hHeld ?_
  refine goR 14 hHeld ?_
  refine stepR (i := 15) rfl (by kernel_rfl) (wanted_none rfl) (fun K hK => ?_)
  go_simp
  (refine (l4Cells_c (GA2.out.drewN 1) (Gg.out.drewN 1) (GQ2.out.drewN 1) HOK.out HSV.out HPT.out).mono ?_; rintro e w9 ⟨A6, n6, c6, bs6, rfl, r6, nd6, hb6, b9⟩; rw [HCF.out] at r6 ⊢)
  go_wp2_with fail
  refine hK.out _ _ (by obtain ⟨q0_, q1_, q2_, q3_, q4_, q5_, q6_, q7_, q8_, q9_, q10_, q11_, q12_, q13_, q14_⟩ := hHeld; exact ⟨cell_toC q0_ b9, cell_toC q1_ b9, cell_toC q2_ b9, cell_toC q3_ b9, cell_toC q4_ b9, cell_toC q5_ b9, cell_toC q6_ b9, cell_toC q7_ b9, cell_toC q8_ b9, cell_toC q9_ b9, cell_toC q10_ b9, cell_toC q11_ b9, cell_toC q12_ b9, cell_toC q13_ b9, cell_toC q14_ b9⟩) (fun hHeld => ?_)
  clear hK K
  try simp only [Act.put, List.setIfInBounds_toArray, List.set_cons_zero, List.set_cons_succ]
  refine goR 16 hHeld ?_
  refine goR 17 hHeld ?_
  refine goR 18 hHeld ?_
  refine goR 19 hHeld ?_
  refine goR 20 hHeld ?_
  refine goR 21 hHeld ?_
  refine wpAnyH_done (by kernel_rfl) ?_ _
  refine NoPanic.normal ?_
  have T2 : Below w2.heap.size w2 w9 := of_drew b9
  go_wp2
  go_ret3
  rw [HY.out]
  exact ⟨A6, n6, c6, bs6, rfl, r6, nd6, fun y hy => Nat.le_trans S2.size (hb6 y hy), below_tr S2 T2⟩
end
end Go.Proofs.YtgimggpmnemkbaaGreat
