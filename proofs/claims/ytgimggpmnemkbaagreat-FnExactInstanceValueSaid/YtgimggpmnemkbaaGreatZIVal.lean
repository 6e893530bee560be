/- InstanceValue, on both sides. -/
import Derived.Test.YtgimggpmnemkbaaGreatZVal
import Derived.Test.YtgimggpmnemkbaaGreatZIsIn
set_option linter.all false
set_option linter.unusedSimpArgs false
set_option linter.unusedVariables false
namespace Go.Proofs.YtgimggpmnemkbaaGreat
open Go.ChangeShapes Go.WideShapes Go.ChangeAt Go.RowKit Go.Deep

def InstanceValueF (p : Pgm) (m : List Int) (x : In) : Int × Bool := if MemoryValidF p m && isInF p x then (valF (stmF p x).value p.arrays m x.point, true) else (0, false)
theorem IV_n1 {p : Pgm} {m : List Int} {x : In} (h : MemoryValidF p m = false) : InstanceValueF p m x = (0, false) := by unfold InstanceValueF; rw [h]; rfl
theorem IV_n2 {p : Pgm} {m : List Int} {x : In} (h : isInF p x = false) : InstanceValueF p m x = (0, false) := by unfold InstanceValueF; rw [h, Bool.and_false]; rfl
theorem IV_y {p : Pgm} {m : List Int} {x : In} (h : MemoryValidF p m = true) (h2 : isInF p x = true) : InstanceValueF p m x = (valF (stmF p x).value p.arrays m x.point, true) := by unfold InstanceValueF; rw [h, h2]; rfl
/-- what the evaluation needs -/
structure IvOk (p : Pgm) (m : List Int) (x : In) : Prop where
  prog : progOk p = true
  inn : InOk p x
  mb : MemB m
  ml : (m.length : Int) = cellsF p.arrays
  vb : VB (stmF p x).value p.arrays m x.point
  pt : PtS x.point
theorem IvOk.of {p : Pgm} {m : List Int} {x : In} (h : MemoryValidF p m = true) (h2 : isInF p x = true) : IvOk p m x := by
  simp only [MemoryValidF, Bool.and_eq_true, decide_eq_true_iff, Bool.not_eq_true'] at h
  have hin := InOk.of_in h2
  have hf := hin.fine h.1
  have hs := StB.of hf.stm hf.pt
  exact ⟨h.1, hin, MemB.of h.2.2, h.2.1, ⟨⟨5, _, (stmtValid_parts hf.stm).2.1⟩, (fine_cells hf.fine).2, hs.r⟩, hf.pt⟩
theorem stm_cells {w : World} {y : Stm} {cs : List Value} {bs : List Nat} (h : Rep w y.d cs bs) : ∃ (A2 A5 A8 A9 : Option Addr) (c2 c5 c8 c9 : Nat) (bs2 bs3 : List Nat), cs = [.string y.write.arr, .slice A2 y.write.subs.length c2, .int .i64 y.value.kind, .int .i64 y.value.num, .slice A5 y.value.index.coefs.length c5, .int .i64 y.value.index.const, .string y.value.read.arr, .slice A8 y.value.read.subs.length c8, .slice A9 y.value.kids.length c9] ∧
    Rep w y.write.d [.string y.write.arr, .slice A2 y.write.subs.length c2] bs2 ∧ Rep w y.value.d [.int .i64 y.value.kind, .int .i64 y.value.num, .slice A5 y.value.index.coefs.length c5, .int .i64 y.value.index.const, .string y.value.read.arr, .slice A8 y.value.read.subs.length c8, .slice A9 y.value.kids.length c9] bs3 := by
  obtain ⟨A22, c22, A52, c52, A82, c82, A92, c92, d22, d52, d82, d92, rfl, rfl, g12, g22, g32, g42, g52, g62, g72, g82, g92⟩ := Rep.stm_iff.1 h
  have Gwrite2 := Lib.hid ((Rep.acc_iff (x := y.write)).2 ⟨_, _, _, rfl, rfl, g12, g22⟩)
  have Gvalue2 := Lib.hid ((Rep.ex_iff (x := y.value)).2 ⟨_, _, _, _, _, _, _, _, _, rfl, rfl, g32, g42, g52, g62, g72, g82, g92⟩)
  clear h g12 g22 g32 g42 g52 g62 g72 g82 g92
  exact ⟨_, _, _, _, _, _, _, _, _, _, rfl, Gwrite2.out, Gvalue2.out⟩

section
variable {w : World} {p : Pgm} {m : List Int} {x : In} {cs cs' : List Value} {B : Option Addr} {n d : Nat} {bs bs' bs2 : List Nat}
theorem run_field_value (a b c d e f g h i : Value) (w : World) : (Instr.field 87 (.agg #[a, b, c, d, e, f, g, h, i]) 1).run Tryz.prog w = .ok (.agg #[c, d, e, f, g, h, i]) w := by kernel_rfl
set_option maxRecDepth 100000 in
set_option maxHeartbeats 8000000 in
theorem implInstanceValue_c (h : Rep w p.d cs bs) (hm : Rep w (ints m) [.slice B n d] bs2) (h' : Rep w x.d cs' bs') :
    Calls Tryz.prog 21 #[.agg cs.toArray, .slice B n d, .agg cs'.toArray] w fun e w' => e = .returned (.tuple #[.int .i64 (InstanceValueF p m x).1, .bool (InstanceValueF p m x).2]) ∧ Below w.heap.size w w' := by
  have HP := Lib.hid h
  have HX := Lib.hid h'
  have HM := Lib.hid hm; clear hm
  obtain ⟨A1, c1, A2, c2, d1, d2, rfl, rfl, g1, g2⟩ := Rep.pgm_iff.1 h
  have Garrays := Lib.hid g1
  have Gparts := Lib.hid g2
  clear h g1 g2
  obtain ⟨A3', c3', d3', rfl, rfl, g1', g2', g3'⟩ := Rep.in_iff.1 h'
  have Gpart' := Lib.hid g1'
  have Gstmt' := Lib.hid g2'
  have Gpoint' := Lib.hid g3'
  clear h' g1' g2' g3'
  go_enter Tryz.func21, Tryz.ntmps21
  go_wp2_with fail
  refine (implMemoryValid_c (HP.out.below bel) (HM.out.below bel)).mono ?_
  rintro e w1 ⟨rfl, b1⟩
  have P1 : Box2 w1 w.heap.size (.slice A1 p.arrays.length c1) (.slice A2 p.parts.length c2) := by
    refine ⟨?_, ?_⟩ <;> (rw [b1.cell (by simp [World.setCell]; try omega)]; go_simp)
  have X1 : Box3 w1 (w.heap.size+1) (.int .i64 x.part) (.int .i64 x.stmt) (.slice A3' x.point.length c3') := by
    refine ⟨?_, ?_, ?_⟩ <;> (rw [b1.cell (by simp [World.setCell]; try omega)]; go_simp)
  have S1 : Below w.heap.size w w1 := bel
  clear b1
  cases hv : MemoryValidF p m with
  | false =>
    have HY := Lib.hid (IV_n1 (x := x) hv)
    clear hv
    go_wp2
    go_ret2
    rw [HY.out]
    exact ⟨rfl, S1⟩
  | true =>
  have HV := Lib.hid hv; clear hv
  go_wp2_with fail
  refine (isInstance_c (HP.out.below bel) (HX.out.below bel)).mono ?_
  rintro e w2 ⟨rfl, b2⟩
  have s2 : Below w1.heap.size w1 w2 := bel
  have P2 := P1.to s2; clear P1
  have X2 := X1.to s2; clear X1
  have S2 : Below w.heap.size w w2 := below_tr S1 s2
  clear s2
  clear b2
  cases hi : isInF p x with
  | false =>
    have HY := Lib.hid (IV_n2 (m := m) hi)
    clear hi
    go_wp2
    go_ret2
    rw [HY.out]
    exact ⟨rfl, S2⟩
  | true =>
  have HY := Lib.hid (IV_y HV.out hi)
  have HK := Lib.hid (IvOk.of HV.out hi)
  clear hi HV
  have HP2 := Lib.hid (HP.out.below S2)
  have HX2 := Lib.hid (HX.out.below S2)
  have HM2 := Lib.hid (HM.out.below S2)
  have GQ2 := Lib.hid (Gpoint'.out.below S2)
  go_wp2_with fail
  refine wp_region_noPanic ?_
  refine wp_region_held_drew (S := fun w' => Box2 w' w.heap.size (.slice A1 p.arrays.length c1) (.slice A2 p.parts.length c2) ∧ Box3 w' (w.heap.size+1) (.int .i64 x.part) (.int .i64 x.stmt) (.slice A3' x.point.length c3')) (by kernel_rfl) (⟨P2, X2⟩) (fun hHeld => ?_)
  refine goR 0 hHeld ?_
  refine goR 1 hHeld ?_
  refine goR 2 hHeld ?_
  refine goR 3 hHeld ?_
  refine goR 6 hHeld ?_
  refine goR 7 hHeld ?_
  refine stepR (i := 4) rfl (by kernel_rfl) (wanted_none rfl) (fun K hK => ?_)
  go_simp
  (refine (stmt_c (HP2.out.drewN 1) (HX2.out.drewN 1) HK.out.inn).mono ?_; rintro e w3 ⟨cs2, bs3, rfl, r3, b3⟩; obtain ⟨A2_, A5_, A8_, A9_, c2_, c5_, c8_, c9_, bs4, bs5, rfl, _, rv⟩ := stm_cells r3; have a3 := of_drew b3; have hfd := run_field_value)
  go_wp2_with fail
  refine hK.out _ _ (⟨hHeld.1.to b3, hHeld.2.to b3⟩) (fun hHeld => ?_)
  clear hK K
  try simp only [Act.put, List.setIfInBounds_toArray, List.set_cons_zero, List.set_cons_succ]
  refine goR 5 hHeld ?_
  refine stepR (i := 8) rfl (by kernel_rfl) (wanted_none rfl) (fun K hK => ?_)
  go_simp
  (refine (value_c _ _ p m x.point _ _ _ _ _ _ _ _ _ _ _ _ (HP2.out.below a3) (HM2.out.below a3) rv (GQ2.out.below a3) (progOk_arr HK.out.prog) HK.out.mb HK.out.ml HK.out.vb HK.out.pt).mono ?_; rintro e w4 ⟨rfl, b4⟩)
  go_wp2_with fail
  refine hK.out _ _ (⟨hHeld.1.to b4, hHeld.2.to b4⟩) (fun hHeld => ?_)
  clear hK K
  try simp only [Act.put, List.setIfInBounds_toArray, List.set_cons_zero, List.set_cons_succ]
  refine goR 9 hHeld ?_
  refine goR 10 hHeld ?_
  refine wpAnyH_done (by kernel_rfl) ?_ _
  refine NoPanic.normal ?_
  go_wp2
  go_ret2
  rw [HY.out]
  exact ⟨rfl, below_tr (below_tr S2 a3) b4⟩
set_option maxRecDepth 100000 in
set_option maxHeartbeats 8000000 in
theorem specInstanceValue_c (h : Rep w p.d cs bs) (hm : Rep w (ints m) [.slice B n d] bs2) (h' : Rep w x.d cs' bs') :
    Calls Tryz.prog 17 #[.agg cs.toArray, .slice B n d, .agg cs'.toArray] w fun e w' => e = .returned (.tuple #[.int .i64 (InstanceValueF p m x).1, .bool (InstanceValueF p m x).2]) ∧ Below w.heap.size w w' := by
  have HP := Lib.hid h
  have HX := Lib.hid h'
  have HM := Lib.hid hm; clear hm
  obtain ⟨A1, c1, A2, c2, d1, d2, rfl, rfl, g1, g2⟩ := Rep.pgm_iff.1 h
  have Garrays := Lib.hid g1
  have Gparts := Lib.hid g2
  clear h g1 g2
  obtain ⟨A3', c3', d3', rfl, rfl, g1', g2', g3'⟩ := Rep.in_iff.1 h'
  have Gpart' := Lib.hid g1'
  have Gstmt' := Lib.hid g2'
  have Gpoint' := Lib.hid g3'
  clear h' g1' g2' g3'
  go_enter Tryz.func17, Tryz.ntmps17
  go_wp2_with fail
  refine (specMemoryValid_c (HP.out.below bel) (HM.out.below bel)).mono ?_
  rintro e w1 ⟨rfl, b1⟩
  have P1 : Box2 w1 w.heap.size (.slice A1 p.arrays.length c1) (.slice A2 p.parts.length c2) := by
    refine ⟨?_, ?_⟩ <;> (rw [b1.cell (by simp [World.setCell]; try omega)]; go_simp)
  have X1 : Box3 w1 (w.heap.size+1) (.int .i64 x.part) (.int .i64 x.stmt) (.slice A3' x.point.length c3') := by
    refine ⟨?_, ?_, ?_⟩ <;> (rw [b1.cell (by simp [World.setCell]; try omega)]; go_simp)
  have S1 : Below w.heap.size w w1 := bel
  clear b1
  cases hv : MemoryValidF p m with
  | false =>
    have HY := Lib.hid (IV_n1 (x := x) hv)
    clear hv
    go_wp2
    go_ret2
    rw [HY.out]
    exact ⟨rfl, S1⟩
  | true =>
  have HV := Lib.hid hv; clear hv
  go_wp2_with fail
  refine (l4In_c (HP.out.below bel) (HX.out.below bel)).mono ?_
  rintro e w2 ⟨rfl, b2⟩
  have s2 : Below w1.heap.size w1 w2 := bel
  have P2 := P1.to s2; clear P1
  have X2 := X1.to s2; clear X1
  have S2 : Below w.heap.size w w2 := below_tr S1 s2
  clear s2
  clear b2
  cases hi : isInF p x with
  | false =>
    have HY := Lib.hid (IV_n2 (m := m) hi)
    clear hi
    go_wp2
    go_ret2
    rw [HY.out]
    exact ⟨rfl, S2⟩
  | true =>
  have hy := IV_y HV.out hi
  have HK := Lib.hid (IvOk.of HV.out hi)
  clear hi HV
  obtain ⟨k, s, hpk, hss, hk, hs, e1, e2⟩ := HK.out.inn.get
  rw [e2] at hy
  have HY := Lib.hid hy; clear hy
  have HVB := Lib.hid (show VB p.parts[k].body[s].value p.arrays m x.point by rw [← e2]; exact HK.out.vb)
  clear e1 e2
  have GP2 := Lib.hid (Gparts.out.below S2)
  have GA2 := Lib.hid (Garrays.out.below S2)
  have HM2 := Lib.hid (HM.out.below S2)
  have GQ2 := Lib.hid (Gpoint'.out.below S2)
  obtain ⟨be, oe, cse, le, rfl, hble, hre, _, _, hce⟩ := GP2.out.sls_at Prt.d_size (k := k) hk
  have Ge := Lib.hid hre
  obtain ⟨A1e, c1e, A2e, c2e, d1e, d2e, rfl, rfl, g1e, g2e⟩ := Rep.prt_iff.1 hre
  have k0e := (hce 0 _ rfl).1; rw [Nat.add_zero] at k0e
  have k1e := (hce 1 _ rfl).1
  have Q1e := Lib.hid g1e
  have Q2e := Lib.hid g2e
  clear hce hre g1e g2e
  obtain ⟨bf, of, csf, lf, rfl, hblf, hrf, _, _, hcf⟩ := Q2e.out.sls_at Stm.d_size (k := s) hs
  have Gf := Lib.hid hrf
  obtain ⟨A2f, c2f, A5f, c5f, A8f, c8f, A9f, c9f, d2f, d5f, d8f, d9f, rfl, rfl, g1f, g2f, g3f, g4f, g5f, g6f, g7f, g8f, g9f⟩ := Rep.stm_iff.1 hrf
  have k0f := (hcf 0 _ rfl).1; rw [Nat.add_zero] at k0f
  have k1f := (hcf 1 _ rfl).1
  have k2f := (hcf 2 _ rfl).1
  have k3f := (hcf 3 _ rfl).1
  have k4f := (hcf 4 _ rfl).1
  have k5f := (hcf 5 _ rfl).1
  have k6f := (hcf 6 _ rfl).1
  have k7f := (hcf 7 _ rfl).1
  have k8f := (hcf 8 _ rfl).1
  have Q1f := Lib.hid g1f
  have Q2f := Lib.hid g2f
  have Q3f := Lib.hid g3f
  have Q4f := Lib.hid g4f
  have Q5f := Lib.hid g5f
  have Q6f := Lib.hid g6f
  have Q7f := Lib.hid g7f
  have Q8f := Lib.hid g8f
  have Q9f := Lib.hid g9f
  clear hcf hrf g1f g2f g3f g4f g5f g6f g7f g8f g9f
  rw [hpk, hss] at X2
  obtain ⟨A2_, A5_, A8_, A9_, c2_, c5_, c8_, c9_, bs4, bs5, hcs, _, rv⟩ := stm_cells Gf.out
  simp only [List.cons.injEq, Value.slice.injEq, and_true, true_and] at hcs
  obtain ⟨⟨rfl, rfl⟩, ⟨rfl, rfl⟩, ⟨rfl, rfl⟩, rfl, rfl⟩ := hcs
  have RV := Lib.hid rv; clear rv
  go_wp2_with fail
  refine wp_region_noPanic ?_
  refine wp_region_held_drew (S := fun w' => (w'.cell? ⟨w.heap.size, 0, none⟩ = some (.slice A1 p.arrays.length c1) ∧ w'.cell? ⟨w.heap.size, 1, none⟩ = some (.slice (some ⟨be, oe, none⟩) p.parts.length c2)) ∧ (w'.cell? ⟨w.heap.size + 1, 0, none⟩ = some (.int .i64 (k : Int)) ∧ w'.cell? ⟨w.heap.size + 1, 1, none⟩ = some (.int .i64 (s : Int)) ∧ w'.cell? ⟨w.heap.size + 1, 2, none⟩ = some (.slice A3' x.point.length c3')) ∧ w'.cell? ⟨be, oe + k * 2 + 1, none⟩ = some (.slice (some ⟨bf, of, none⟩) p.parts[k].body.length c2e) ∧ w'.cell? ⟨bf, of + s * 9 + 2, none⟩ = some (.int .i64 p.parts[k].body[s].value.kind) ∧ w'.cell? ⟨bf, of + s * 9 + 3, none⟩ = some (.int .i64 p.parts[k].body[s].value.num) ∧ w'.cell? ⟨bf, of + s * 9 + 4, none⟩ = some (.slice A5f p.parts[k].body[s].value.index.coefs.length c5f) ∧ w'.cell? ⟨bf, of + s * 9 + 5, none⟩ = some (.int .i64 p.parts[k].body[s].value.index.const) ∧ w'.cell? ⟨bf, of + s * 9 + 6, none⟩ = some (.string p.parts[k].body[s].value.read.arr) ∧ w'.cell? ⟨bf, of + s * 9 + 7, none⟩ = some (.slice A8f p.parts[k].body[s].value.read.subs.length c8f) ∧ w'.cell? ⟨bf, of + s * 9 + 8, none⟩ = some (.slice A9f p.parts[k].body[s].value.kids.length c9f)) (by kernel_rfl) (⟨P2, X2, k1e, k2f, k3f, k4f, k5f, k6f, k7f, k8f⟩) (fun hHeld => ?_)
  refine goR 0 hHeld ?_
  refine goR 1 hHeld ?_
  refine goR 2 hHeld ?_
  refine goR 3 hHeld ?_
  refine goR 4 hHeld ?_
  refine goR 5 hHeld ?_
  refine goR 6 hHeld ?_
  refine goR 7 hHeld ?_
  refine goR 8 hHeld ?_
  refine goR 9 hHeld ?_
  refine goR 10 hHeld ?_
  refine goR 11 hHeld ?_
  refine goR 12 hHeld ?_
  refine goR 13 hHeld ?_
  refine goR 14 hHeld ?_
  refine goR 15 hHeld ?_
  refine goR 16 hHeld ?_
  refine stepR (i := 17) rfl (by kernel_rfl) (wanted_none rfl) (fun K hK => ?_)
  go_simp
  (refine (l5Eval_c _ _ p.arrays m x.point _ _ _ _ _ _ _ _ _ _ _ _ _ _ (GA2.out.drewN 1) (HM2.out.drewN 1) (RV.out.drewN 1) (GQ2.out.drewN 1) (progOk_arr HK.out.prog) HK.out.mb HK.out.ml HVB.out HK.out.pt).mono ?_; rintro e w4 ⟨rfl, b4⟩)
  go_wp2_with fail
  refine hK.out _ _ (by obtain ⟨⟨h1, h2⟩, ⟨h3, h4, h5⟩, h6, h7, h8, h9, h10, h11, h12, h13⟩ := hHeld; exact ⟨⟨cell_to h1 b4, cell_to h2 b4⟩, ⟨cell_to h3 b4, cell_to h4 b4, cell_to h5 b4⟩, cell_to h6 b4, cell_to h7 b4, cell_to h8 b4, cell_to h9 b4, cell_to h10 b4, cell_to h11 b4, cell_to h12 b4, cell_to h13 b4⟩) (fun hHeld => ?_)
  clear hK K
  try simp only [Act.put, List.setIfInBounds_toArray, List.set_cons_zero, List.set_cons_succ]
  refine goR 18 hHeld ?_
  refine goR 19 hHeld ?_
  refine wpAnyH_done (by kernel_rfl) ?_ _
  refine NoPanic.normal ?_
  go_wp2
  go_ret2
  rw [HY.out]
  exact ⟨rfl, below_tr S2 (of_drew b4)⟩
end
end Go.Proofs.YtgimggpmnemkbaaGreat
