/- Values of expressions, on both sides: value, l5Eval; instances: stmt, isInstance, l4In. -/
import Derived.Test.YtgimggpmnemkbaaGreatZValF
import Derived.Test.YtgimggpmnemkbaaGreatZInstsS
set_option linter.all false
set_option linter.unusedSimpArgs false
set_option linter.unusedVariables false
namespace Go.Proofs.YtgimggpmnemkbaaGreat
open Go.ChangeShapes Go.WideShapes Go.ChangeAt Go.RowKit Go.Deep

theorem modulo_c {w : World} {n : Int} (h : -1000000000000000000 ≤ n ∧ n ≤ 1000000000000000000) :
    Calls Tryz.prog 116 #[.int .i64 n] w fun e w' => e = .returned (.int .i64 (wrapF n)) ∧ w = w' := by
  have h1 := tmod_bd n
  have HW := Lib.hid (show (Int.tmod n 1000 + 999 + 1) % 1000 = wrapF n by rw [← Int.tmod_eq_emod_of_nonneg (by omega)]; exact tmod_wrap n)
  go_enter Tryz.func116, Tryz.ntmps116
  go_wp2
  go_ret
  exact ⟨ret_int HW.out, rfl⟩
theorem l5Wrap_c {w : World} {n : Int} (h : -1000000000000000000 ≤ n ∧ n ≤ 1000000000000000000) :
    Calls Tryz.prog 108 #[.int .i64 n] w fun e w' => e = .returned (.int .i64 (wrapF n)) ∧ w = w' := by
  have h1 := tmod_bd n
  by_cases h3 : Int.tmod n 1000 < 0
  · have HW := Lib.hid (tmod_neg n h3)
    go_enter Tryz.func108, Tryz.ntmps108
    go_wp2
    go_ret
    exact ⟨ret_int HW.out, rfl⟩
  · have HW := Lib.hid (tmod_pos n h3)
    go_enter Tryz.func108, Tryz.ntmps108
    go_wp2
    go_ret
    exact ⟨ret_int HW.out, rfl⟩

def ValEx (x : Ex) : Prop := ∀ (w : World) (p : Pgm) (m q : List Int) (cs cs' : List Value) (bs bs1 bs2 bs3 : List Nat) (A B : Option Addr) (n c k d : Nat), Rep w p.d cs bs → Rep w (ints m) [.slice A n c] bs1 → Rep w x.d cs' bs2 → Rep w (ints q) [.slice B k d] bs3 → arrsOk p.arrays = true → MemB m → (m.length : Int) = cellsF p.arrays → VB x p.arrays m q → PtS q →
    Calls Tryz.prog 68 #[.agg cs.toArray, .slice A n c, .agg cs'.toArray, .slice B k d] w fun e w' => e = .returned (.int .i64 (valF x p.arrays m q)) ∧ Below w.heap.size w w'
set_option maxRecDepth 100000 in
set_option maxHeartbeats 4000000 in
theorem value_r {x : Ex} (hrec : ∀ y ∈ x.kids, ValEx y) : ValEx x := by
  intro w p m q cs cs' bs bs1 bs2 bs3 A B n c k d h hm h' hq hok hmb hml hvb hps
  have HREC := Lib.hid hrec; clear hrec
  have HV := Lib.hid (valF_eq x p.arrays m q)
  have HP := Lib.hid h
  have hcm := hm.ints_len
  obtain ⟨rfl, hm1, hm2⟩ := hcm
  have HM := Lib.hid hm; clear hm
  have HQ := Lib.hid hq; clear hq
  have HOK := Lib.hid hok; clear hok
  have HMB := Lib.hid hmb; clear hmb
  have HPS := Lib.hid hps; clear hps
  have HML := Lib.hid hml; clear hml
  have HVR := Lib.hid hvb.rd
  have HVE := Lib.hid hvb.ev
  obtain ⟨hkk, hk1, hk2, hk3⟩ := hvb.parts
  clear hvb
  obtain ⟨A1, c1, A2, c2, d1, d2, rfl, rfl, g1, g2⟩ := Rep.pgm_iff.1 h
  have Garrays := Lib.hid g1
  have Gparts := Lib.hid g2
  clear h g1 g2
  obtain ⟨A3', c3', A6', c6', A7', c7', d3', d6', d7', rfl, rfl, g1', g2', g3', g4', g5', g6', g7'⟩ := Rep.ex_iff.1 h'
  have Gkind' := Lib.hid g1'
  have Gnum' := Lib.hid g2'
  have Gindex' := Lib.hid ((Rep.aff_iff2 (x := x.index)).2 ⟨_, _, _, rfl, rfl, g3', g4'⟩)
  have Gread' := Lib.hid ((Rep.acc_iff (x := x.read)).2 ⟨_, _, _, rfl, rfl, g5', g6'⟩)
  have Gkids' := Lib.hid g7'
  clear h' g1' g2' g3' g4' g5' g6' g7'
  have HE := Lib.hid (And.intro hk1 (And.intro hk2 hk3)); clear hk1 hk2 hk3
  by_cases e1 : x.kind = 1
  · have q1 : (x.kind == 1) = true := ieq_t e1
    have HX := Lib.hid (HV.out.trans (if_pos e1)); clear HV
    clear e1 hkk
    go_enter Tryz.func68, Tryz.ntmps68
    go_wp2
    go_ret
    exact ⟨ret_int HX.out.symm, bel⟩
  have q1 : (x.kind == 1) = false := ieq_f e1
  by_cases e2 : x.kind = 2
  · have q2 : (x.kind == 2) = true := ieq_t e2
    have HX := Lib.hid (HV.out.trans ((if_neg e1).trans (if_pos e2))); clear HV
    have hev := HPS.out _ (HE.out.2.1 e2)
    have hb := hev.ev q.length
    have h4 := hev.len4
    have HEV := Lib.hid hev; clear hev
    have HB := Lib.hid (show -1000000000000000000 ≤ evF x.index q ∧ evF x.index q ≤ 1000000000000000000 by unfold evF; omega)
    clear e1 e2 hkk hb h4
    go_enter Tryz.func68, Tryz.ntmps68
    go_wp2_with fail
    refine (eval_d (Gindex'.out.below bel) (HQ.out.below bel) HEV.out).mono ?_
    rintro e w1 ⟨rfl, b1⟩
    have S1 : Below w.heap.size w w1 := bel
    go_wp2_with fail
    refine (modulo_c HB.out).mono ?_
    rintro e w' ⟨rfl, rfl⟩
    go_wp2
    go_ret
    exact ⟨ret_int HX.out.symm, S1⟩
  have q2 : (x.kind == 2) = false := ieq_f e2
  by_cases e3 : x.kind = 3
  · have q3 : (x.kind == 3) = true := ieq_t e3
    have HX := Lib.hid (HV.out.trans ((if_neg e1).trans ((if_neg e2).trans (if_pos e3)))); clear HV
    have hmem := HE.out.2.2 e3
    have HEV := Lib.hid (HVE.out _ hmem).2
    have hr0 := HVR.out _ hmem
    have hr1 := (cellF_bd (a := x.read) (pt := q) HOK.out).2
    rw [← HML.out] at hr1
    obtain ⟨j, hj⟩ := Int.eq_ofNat_of_zero_le hr0
    rw [hj] at hr1
    have hlt : j < m.length := by omega
    have HJ := Lib.hid hj
    have HY := Lib.hid (HX.out.trans (by rw [hj, Int.toNat_natCast])); clear HX
    clear e1 e2 e3 hkk hmem hr0 hr1 hj
    obtain ⟨b5, o5, rfl, _, hbl5, hc5, _⟩ := HM.out.ints_at hlt
    go_enter Tryz.func68, Tryz.ntmps68
    go_wp2_with fail
    refine (cell_c (HP.out.below bel) (Gread'.out.below bel) (HQ.out.below bel) HOK.out HEV.out).mono ?_
    rintro e w1 ⟨rfl, b1⟩
    rw [HJ.out]
    have S1 : Below w.heap.size w w1 := bel
    have hc6 := (S1.cell (p := ⟨b5, o5 + j, none⟩) hbl5).trans hc5
    clear b1 hc5
    go_wp2
    go_ret
    exact ⟨ret_int HY.out.symm, S1⟩
  have q3 : (x.kind == 3) = false := ieq_f e3
  have hk4 := hkk.resolve_left (fun h => by omega)
  have HX := Lib.hid (HV.out.trans ((if_neg e1).trans ((if_neg e2).trans (if_neg e3)))); clear HV
  clear e1 e2 e3 hkk HE
  obtain ⟨⟨ha, hb⟩, hl2, hvk⟩ := hk4
  have l0 : 0 < x.kids.length := by omega
  have l1 : 1 < x.kids.length := by omega
  have HVK := Lib.hid hvk; clear hvk hl2
  have v0 := val_bd x.kids[0] p.arrays m q HMB.out (HVK.out _ (List.getElem_mem l0))
  have v1 := val_bd x.kids[1] p.arrays m q HMB.out (HVK.out _ (List.getElem_mem l1))
  rw [valsF_gi l0, valsF_gi l1] at HX
  obtain ⟨u0, hu0⟩ : ∃ u, u = valF x.kids[0] p.arrays m q := ⟨_, rfl⟩
  obtain ⟨u1, hu1⟩ : ∃ u, u = valF x.kids[1] p.arrays m q := ⟨_, rfl⟩
  rw [← hu0] at v0 HX
  rw [← hu1] at v1 HX
  have HU0 := Lib.hid hu0; clear hu0
  have HU1 := Lib.hid hu1; clear hu1
  obtain ⟨W, hW⟩ : ∃ W, W = (w.alloc (.cells #[.slice A1 p.arrays.length c1, .slice A2 p.parts.length c2] 36)).alloc (.cells #[.int .i64 x.kind, .int .i64 x.num, .slice A3' x.index.coefs.length c3', .int .i64 x.index.const, .string x.read.arr, .slice A6' x.read.subs.length c6', .slice A7' x.kids.length c7'] 85) := ⟨_, rfl⟩
  have P0 : Box2 W w.heap.size (.slice A1 p.arrays.length c1) (.slice A2 p.parts.length c2) := by
    rw [hW]; refine ⟨?_, ?_⟩ <;> go_simp
  have E0 : Box7 W (w.heap.size+1) (.int .i64 x.kind) (.int .i64 x.num) (.slice A3' x.index.coefs.length c3') (.int .i64 x.index.const) (.string x.read.arr) (.slice A6' x.read.subs.length c6') (.slice A7' x.kids.length c7') := by
    rw [hW]; refine ⟨?_, ?_, ?_, ?_, ?_, ?_, ?_⟩ <;> go_simp
  have B0 : Below w.heap.size w W := by rw [hW]; exact bel
  have HW := Lib.hid hW; clear hW
  have GK := Lib.hid (Gkids'.out.below B0)
  have HP0 := Lib.hid (HP.out.below B0)
  have HM0 := Lib.hid (HM.out.below B0)
  have HQ0 := Lib.hid (HQ.out.below B0)
  clear Gindex' Gread' Gkids' Gkind' Gnum' HP HM HQ Garrays Gparts
  have GK2 := Lib.hid GK.out
  obtain ⟨be, oe, cse, le, rfl, hble, hre, _, _, hce⟩ := GK.out.sls_at Ex.d_size (k := 0) l0
  have Ge := Lib.hid hre
  obtain ⟨A3e, c3e, A6e, c6e, A7e, c7e, d3e, d6e, d7e, rfl, rfl, g1e, g2e, g3e, g4e, g5e, g6e, g7e⟩ := Rep.ex_iff.1 hre
  have k0e := (hce 0 _ rfl).1; rw [Nat.add_zero] at k0e
  have k1e := (hce 1 _ rfl).1
  have k2e := (hce 2 _ rfl).1
  have k3e := (hce 3 _ rfl).1
  have k4e := (hce 4 _ rfl).1
  have k5e := (hce 5 _ rfl).1
  have k6e := (hce 6 _ rfl).1
  have Q1e := Lib.hid g1e
  have Q2e := Lib.hid g2e
  have Q3e := Lib.hid g3e
  have Q4e := Lib.hid g4e
  have Q5e := Lib.hid g5e
  have Q6e := Lib.hid g6e
  have Q7e := Lib.hid g7e
  clear hce hre g1e g2e g3e g4e g5e g6e g7e
  simp only [Nat.zero_mul, Nat.add_zero] at k0e k1e k2e k3e k4e k5e k6e
  obtain ⟨bf, of, csf, lf, heqf, hblf, hrf, _, _, hcf⟩ := GK2.out.sls_at Ex.d_size (k := 1) l1
  obtain ⟨rfl, rfl⟩ : be = bf ∧ oe = of := by simpa using heqf
  have Gf := Lib.hid hrf
  obtain ⟨A3f, c3f, A6f, c6f, A7f, c7f, d3f, d6f, d7f, rfl, rfl, g1f, g2f, g3f, g4f, g5f, g6f, g7f⟩ := Rep.ex_iff.1 hrf
  have k0f := (hcf 0 _ rfl).1; rw [Nat.add_zero] at k0f
  have k1f := (hcf 1 _ rfl).1
  have k2f := (hcf 2 _ rfl).1
  have k3f := (hcf 3 _ rfl).1
  have k4f := (hcf 4 _ rfl).1
  have k5f := (hcf 5 _ rfl).1
  have k6f := (hcf 6 _ rfl).1
  have Q1f := Lib.hid g1f
  have Q2f := Lib.hid g2f
  have Q3f := Lib.hid g3f
  have Q4f := Lib.hid g4f
  have Q5f := Lib.hid g5f
  have Q6f := Lib.hid g6f
  have Q7f := Lib.hid g7f
  clear hcf hrf g1f g2f g3f g4f g5f g6f g7f
  simp only [Nat.one_mul] at k0f k1f k2f k3f k4f k5f k6f
  have H0 := HREC.out _ (List.getElem_mem l0)
  have H1 := HREC.out _ (List.getElem_mem l1)
  have HR0 := Lib.hid H0; clear H0
  have HR1 := Lib.hid H1; clear H1
  have hi1 : ((1 : Int) < (x.kids.length : Int)) = True := eq_true (by omega)
  go_enter Tryz.func68, Tryz.ntmps68
  go_wp2
  rw [← HW.out]
  refine wp_region_noPanic ?_
  refine wp_region_held_drew (S := fun w' => Box2 w' w.heap.size (.slice A1 p.arrays.length c1) (.slice A2 p.parts.length c2) ∧ (Box7 w' (w.heap.size+1) (.int .i64 x.kind) (.int .i64 x.num) (.slice A3' x.index.coefs.length c3') (.int .i64 x.index.const) (.string x.read.arr) (.slice A6' x.read.subs.length c6') (.slice (some ⟨be, oe, none⟩) x.kids.length c7')) ∧ (w'.cell? ⟨be, oe, none⟩ = some (.int .i64 x.kids[0].kind) ∧ w'.cell? ⟨be, oe + 1, none⟩ = some (.int .i64 x.kids[0].num) ∧ w'.cell? ⟨be, oe + 2, none⟩ = some (.slice A3e x.kids[0].index.coefs.length c3e) ∧ w'.cell? ⟨be, oe + 3, none⟩ = some (.int .i64 x.kids[0].index.const) ∧ w'.cell? ⟨be, oe + 4, none⟩ = some (.string x.kids[0].read.arr) ∧ w'.cell? ⟨be, oe + 5, none⟩ = some (.slice A6e x.kids[0].read.subs.length c6e) ∧ w'.cell? ⟨be, oe + 6, none⟩ = some (.slice A7e x.kids[0].kids.length c7e)) ∧ (w'.cell? ⟨be, oe + 7, none⟩ = some (.int .i64 x.kids[1].kind) ∧ w'.cell? ⟨be, oe + 7 + 1, none⟩ = some (.int .i64 x.kids[1].num) ∧ w'.cell? ⟨be, oe + 7 + 2, none⟩ = some (.slice A3f x.kids[1].index.coefs.length c3f) ∧ w'.cell? ⟨be, oe + 7 + 3, none⟩ = some (.int .i64 x.kids[1].index.const) ∧ w'.cell? ⟨be, oe + 7 + 4, none⟩ = some (.string x.kids[1].read.arr) ∧ w'.cell? ⟨be, oe + 7 + 5, none⟩ = some (.slice A6f x.kids[1].read.subs.length c6f) ∧ w'.cell? ⟨be, oe + 7 + 6, none⟩ = some (.slice A7f x.kids[1].kids.length c7f))) (by kernel_rfl) (⟨P0, E0, ⟨k0e, k1e, k2e, k3e, k4e, k5e, k6e⟩, ⟨k0f, k1f, k2f, k3f, k4f, k5f, k6f⟩⟩) (fun hHeld => ?_)
  refine takeR (i := 0) (v := ?_) rfl rfl (by kernel_rfl) (by kernel_rfl) (by kernel_rfl) (fun _ _ _ h => h) ?_ hHeld ?_
  rotate_left 1
  · intro w hSw; (try dsimp only at hSw); go_simp
    try simp only [hi1, if_true]
    try with_reducible rfl
  simp only [Act.put, List.setIfInBounds_toArray, List.set_cons_zero, List.set_cons_succ]
  refine takeR (i := 1) (v := ?_) rfl rfl (by kernel_rfl) (by kernel_rfl) (by kernel_rfl) (fun _ _ _ h => h) ?_ hHeld ?_
  rotate_left 1
  · intro w hSw; (try dsimp only at hSw); go_simp
    try simp only [hi1, if_true]
    try with_reducible rfl
  simp only [Act.put, List.setIfInBounds_toArray, List.set_cons_zero, List.set_cons_succ]
  refine takeR (i := 2) (v := ?_) rfl rfl (by kernel_rfl) (by kernel_rfl) (by kernel_rfl) (fun _ _ _ h => h) ?_ hHeld ?_
  rotate_left 1
  · intro w hSw; (try dsimp only at hSw); go_simp
    try simp only [hi1, if_true]
    try with_reducible rfl
  simp only [Act.put, List.setIfInBounds_toArray, List.set_cons_zero, List.set_cons_succ]
  refine takeR (i := 3) (v := ?_) rfl rfl (by kernel_rfl) (by kernel_rfl) (by kernel_rfl) (fun _ _ _ h => h) ?_ hHeld ?_
  rotate_left 1
  · intro w hSw; (try dsimp only at hSw); go_simp
    try simp only [hi1, if_true]
    try with_reducible rfl
  simp only [Act.put, List.setIfInBounds_toArray, List.set_cons_zero, List.set_cons_succ]
  refine takeR (i := 4) (v := ?_) rfl rfl (by kernel_rfl) (by kernel_rfl) (by kernel_rfl) (fun _ _ _ h => h) ?_ hHeld ?_
  rotate_left 1
  · intro w hSw; (try dsimp only at hSw); go_simp
    try simp only [hi1, if_true]
    try with_reducible rfl
  simp only [Act.put, List.setIfInBounds_toArray, List.set_cons_zero, List.set_cons_succ]
  refine takeR (i := 5) (v := ?_) rfl rfl (by kernel_rfl) (by kernel_rfl) (by kernel_rfl) (fun _ _ _ h => h) ?_ hHeld ?_
  rotate_left 1
  · intro w hSw; (try dsimp only at hSw); go_simp
    try simp only [hi1, if_true]
    try with_reducible rfl
  simp only [Act.put, List.setIfInBounds_toArray, List.set_cons_zero, List.set_cons_succ]
  refine takeR (i := 6) (v := ?_) rfl rfl (by kernel_rfl) (by kernel_rfl) (by kernel_rfl) (fun _ _ _ h => h) ?_ hHeld ?_
  rotate_left 1
  · intro w hSw; (try dsimp only at hSw); go_simp
    try simp only [hi1, if_true]
    try with_reducible rfl
  simp only [Act.put, List.setIfInBounds_toArray, List.set_cons_zero, List.set_cons_succ]
  refine takeR (i := 8) (v := ?_) rfl rfl (by kernel_rfl) (by kernel_rfl) (by kernel_rfl) (fun _ _ _ h => h) ?_ hHeld ?_
  rotate_left 1
  · intro w hSw; (try dsimp only at hSw); go_simp
    try simp only [hi1, if_true]
    try with_reducible rfl
  simp only [Act.put, List.setIfInBounds_toArray, List.set_cons_zero, List.set_cons_succ]
  refine takeR (i := 9) (v := ?_) rfl rfl (by kernel_rfl) (by kernel_rfl) (by kernel_rfl) (fun _ _ _ h => h) ?_ hHeld ?_
  rotate_left 1
  · intro w hSw; (try dsimp only at hSw); go_simp
    try simp only [hi1, if_true]
    try with_reducible rfl
  simp only [Act.put, List.setIfInBounds_toArray, List.set_cons_zero, List.set_cons_succ]
  refine takeR (i := 10) (v := ?_) rfl rfl (by kernel_rfl) (by kernel_rfl) (by kernel_rfl) (fun _ _ _ h => h) ?_ hHeld ?_
  rotate_left 1
  · intro w hSw; (try dsimp only at hSw); go_simp
    try simp only [hi1, if_true]
    try with_reducible rfl
  simp only [Act.put, List.setIfInBounds_toArray, List.set_cons_zero, List.set_cons_succ]
  refine takeR (i := 11) (v := ?_) rfl rfl (by kernel_rfl) (by kernel_rfl) (by kernel_rfl) (fun _ _ _ h => h) ?_ hHeld ?_
  rotate_left 1
  · intro w hSw; (try dsimp only at hSw); go_simp
    try simp only [hi1, if_true]
    try with_reducible rfl
  simp only [Act.put, List.setIfInBounds_toArray, List.set_cons_zero, List.set_cons_succ]
  refine takeR (i := 12) (v := ?_) rfl rfl (by kernel_rfl) (by kernel_rfl) (by kernel_rfl) (fun _ _ _ h => h) ?_ hHeld ?_
  rotate_left 1
  · intro w hSw; (try dsimp only at hSw); go_simp
    try simp only [hi1, if_true]
    try with_reducible rfl
  simp only [Act.put, List.setIfInBounds_toArray, List.set_cons_zero, List.set_cons_succ]
  refine takeR (i := 13) (v := ?_) rfl rfl (by kernel_rfl) (by kernel_rfl) (by kernel_rfl) (fun _ _ _ h => h) ?_ hHeld ?_
  rotate_left 1
  · intro w hSw; (try dsimp only at hSw); go_simp
    try simp only [hi1, if_true]
    try with_reducible rfl
  simp only [Act.put, List.setIfInBounds_toArray, List.set_cons_zero, List.set_cons_succ]
  refine takeR (i := 14) (v := ?_) rfl rfl (by kernel_rfl) (by kernel_rfl) (by kernel_rfl) (fun _ _ _ h => h) ?_ hHeld ?_
  rotate_left 1
  · intro w hSw; (try dsimp only at hSw); go_simp
    try simp only [hi1, if_true]
    try with_reducible rfl
  simp only [Act.put, List.setIfInBounds_toArray, List.set_cons_zero, List.set_cons_succ]
  refine stepR (i := 7) rfl (by kernel_rfl) (wanted_none rfl) (fun K hK => ?_)
  go_simp
  (refine (HR0.out _ p m q _ _ _ _ _ _ _ _ _ _ _ _ (HP0.out.drewN 1) (HM0.out.drewN 1) (Ge.out.drewN 1) (HQ0.out.drewN 1) HOK.out HMB.out HML.out (HVK.out _ (List.getElem_mem l0)) HPS.out).mono ?_; rintro e w1 ⟨rfl, b1⟩; rw [← HU0.out]; replace b1 := of_drew b1)
  go_wp2_with fail
  refine hK.out _ _ (⟨P0.to b1, E0.to b1, ⟨by rw [b1.cell hble]; exact k0e, by rw [b1.cell hble]; exact k1e, by rw [b1.cell hble]; exact k2e, by rw [b1.cell hble]; exact k3e, by rw [b1.cell hble]; exact k4e, by rw [b1.cell hble]; exact k5e, by rw [b1.cell hble]; exact k6e⟩, ⟨by rw [b1.cell hble]; exact k0f, by rw [b1.cell hble]; exact k1f, by rw [b1.cell hble]; exact k2f, by rw [b1.cell hble]; exact k3f, by rw [b1.cell hble]; exact k4f, by rw [b1.cell hble]; exact k5f, by rw [b1.cell hble]; exact k6f⟩⟩) (fun hHeld => ?_)
  clear hK K
  try simp only [Act.put, List.setIfInBounds_toArray, List.set_cons_zero, List.set_cons_succ]
  refine stepR (i := 15) rfl (by kernel_rfl) (wanted_none rfl) (fun K hK => ?_)
  go_simp
  (refine (HR1.out _ p m q _ _ _ _ _ _ _ _ _ _ _ _ (HP0.out.below b1) (HM0.out.below b1) (Gf.out.below b1) (HQ0.out.below b1) HOK.out HMB.out HML.out (HVK.out _ (List.getElem_mem l1)) HPS.out).mono ?_; rintro e w2 ⟨rfl, b2⟩; rw [← HU1.out]; replace b2 := below_tr b1 b2)
  go_wp2_with fail
  refine hK.out _ _ (⟨P0.to b2, E0.to b2, ⟨by rw [b2.cell hble]; exact k0e, by rw [b2.cell hble]; exact k1e, by rw [b2.cell hble]; exact k2e, by rw [b2.cell hble]; exact k3e, by rw [b2.cell hble]; exact k4e, by rw [b2.cell hble]; exact k5e, by rw [b2.cell hble]; exact k6e⟩, ⟨by rw [b2.cell hble]; exact k0f, by rw [b2.cell hble]; exact k1f, by rw [b2.cell hble]; exact k2f, by rw [b2.cell hble]; exact k3f, by rw [b2.cell hble]; exact k4f, by rw [b2.cell hble]; exact k5f, by rw [b2.cell hble]; exact k6f⟩⟩) (fun hHeld => ?_)
  clear hK K
  try simp only [Act.put, List.setIfInBounds_toArray, List.set_cons_zero, List.set_cons_succ]
  refine takeR (i := 16) (v := ?_) rfl rfl (by kernel_rfl) (by kernel_rfl) (by kernel_rfl) (fun _ _ _ h => h) ?_ hHeld ?_
  rotate_left 1
  · intro w hSw; (try dsimp only at hSw); go_simp
    try simp only [hi1, if_true]
    try with_reducible rfl
  simp only [Act.put, List.setIfInBounds_toArray, List.set_cons_zero, List.set_cons_succ]
  refine takeR (i := 17) (v := ?_) rfl rfl (by kernel_rfl) (by kernel_rfl) (by kernel_rfl) (fun _ _ _ h => h) ?_ hHeld ?_
  rotate_left 1
  · intro w hSw; (try dsimp only at hSw); go_simp
    try simp only [hi1, if_true]
    try with_reducible rfl
  simp only [Act.put, List.setIfInBounds_toArray, List.set_cons_zero, List.set_cons_succ]
  refine wpAnyH_done (by kernel_rfl) ?_ _
  refine NoPanic.normal ?_
  have E2 := E0.to b2
  have Sx : Below w.heap.size w w2 := below_tr B0 b2
  clear P0 E0 b1 b2 HR0 HR1 GK GK2
  by_cases e4 : x.kind = 4
  · have q4 : (x.kind == 4) = true := ieq_t e4
    have HY := Lib.hid (HX.out.trans (show opF x.kind u0 u1 = wrapF (u0 + u1) by unfold opF; rw [if_pos e4]))
    go_wp2_with fail
    refine (modulo_c (by omega)).mono ?_
    rintro e w' ⟨rfl, rfl⟩
    go_wp2
    go_ret
    exact ⟨ret_int HY.out.symm, Sx⟩
  have q4 : (x.kind == 4) = false := ieq_f e4
  by_cases e5 : x.kind = 5
  · have q5 : (x.kind == 5) = true := ieq_t e5
    have HY := Lib.hid (HX.out.trans (show opF x.kind u0 u1 = wrapF (u0 - u1) by unfold opF; rw [if_neg e4, if_pos e5]))
    go_wp2_with fail
    refine (modulo_c (by omega)).mono ?_
    rintro e w' ⟨rfl, rfl⟩
    go_wp2
    go_ret
    exact ⟨ret_int HY.out.symm, Sx⟩
  have q5 : (x.kind == 5) = false := ieq_f e5
  have HY := Lib.hid (HX.out.trans (show opF x.kind u0 u1 = wrapF (u0 * u1) by unfold opF; rw [if_neg e4, if_neg e5]))
  have hm1 : 0 ≤ u0 * u1 := Int.mul_nonneg v0.1 v1.1
  have hm2 : u0 * u1 ≤ 999 * 999 := Int.mul_le_mul v0.2 v1.2 v1.1 (by omega)
  go_wp2_with fail
  refine (modulo_c (by omega)).mono ?_
  rintro e w' ⟨rfl, rfl⟩
  go_wp2
  go_ret
  exact ⟨ret_int HY.out.symm, Sx⟩
theorem value_c (x : Ex) : ValEx x := Ex.ind (P := ValEx) (fun x hx => value_r hx) x

def ValExS (x : Ex) : Prop := ∀ (w : World) (xs : List Ar) (m q : List Int) (cs' : List Value) (bs bs1 bs2 bs3 : List Nat) (A B C : Option Addr) (n c k d n1 c1 : Nat), Rep w (sls Ar.d xs) [.slice C n1 c1] bs → Rep w (ints m) [.slice A n c] bs1 → Rep w x.d cs' bs2 → Rep w (ints q) [.slice B k d] bs3 → arrsOk xs = true → MemB m → (m.length : Int) = cellsF xs → VB x xs m q → PtS q →
    Calls Tryz.prog 63 #[.slice C n1 c1, .slice A n c, .agg cs'.toArray, .slice B k d] w fun e w' => e = .returned (.int .i64 (valF x xs m q)) ∧ Below w.heap.size w w'
set_option maxRecDepth 100000 in
set_option maxHeartbeats 4000000 in
theorem l5Eval_r {x : Ex} (hrec : ∀ y ∈ x.kids, ValExS y) : ValExS x := by
  intro w xs m q cs' bs bs1 bs2 bs3 A B C n c k d n1 c1 h hm h' hq hok hmb hml hvb hps
  have HREC := Lib.hid hrec; clear hrec
  have HV := Lib.hid (valF_eq x xs m q)
  have HA := Lib.hid h; clear h
  have hcm := hm.ints_len
  obtain ⟨rfl, hm1, hm2⟩ := hcm
  have HM := Lib.hid hm; clear hm
  have HQ := Lib.hid hq; clear hq
  have HOK := Lib.hid hok; clear hok
  have HMB := Lib.hid hmb; clear hmb
  have HPS := Lib.hid hps; clear hps
  have HML := Lib.hid hml; clear hml
  have HVR := Lib.hid hvb.rd
  have HVE := Lib.hid hvb.ev
  obtain ⟨hkk, hk1, hk2, hk3⟩ := hvb.parts
  clear hvb
  obtain ⟨A3', c3', A6', c6', A7', c7', d3', d6', d7', rfl, rfl, g1', g2', g3', g4', g5', g6', g7'⟩ := Rep.ex_iff.1 h'
  have Gkind' := Lib.hid g1'
  have Gnum' := Lib.hid g2'
  have Gindex' := Lib.hid ((Rep.aff_iff2 (x := x.index)).2 ⟨_, _, _, rfl, rfl, g3', g4'⟩)
  have Gread' := Lib.hid ((Rep.acc_iff (x := x.read)).2 ⟨_, _, _, rfl, rfl, g5', g6'⟩)
  have Gkids' := Lib.hid g7'
  clear h' g1' g2' g3' g4' g5' g6' g7'
  have HE := Lib.hid (And.intro hk1 (And.intro hk2 hk3)); clear hk1 hk2 hk3
  by_cases e1 : x.kind = 1
  · have q1 : (x.kind == 1) = true := ieq_t e1
    have HX := Lib.hid (HV.out.trans (if_pos e1)); clear HV
    clear e1 hkk
    go_enter Tryz.func63, Tryz.ntmps63
    go_wp2
    go_ret
    exact ⟨ret_int HX.out.symm, bel⟩
  have q1 : (x.kind == 1) = false := ieq_f e1
  by_cases e2 : x.kind = 2
  · have q2 : (x.kind == 2) = true := ieq_t e2
    have HX := Lib.hid (HV.out.trans ((if_neg e1).trans (if_pos e2))); clear HV
    have hev := HPS.out _ (HE.out.2.1 e2)
    have hb := hev.ev q.length
    have h4 := hev.len4
    have HEV := Lib.hid hev; clear hev
    have HB := Lib.hid (show -1000000000000000000 ≤ evF x.index q ∧ evF x.index q ≤ 1000000000000000000 by unfold evF; omega)
    clear e1 e2 hkk hb h4
    go_enter Tryz.func63, Tryz.ntmps63
    go_wp2_with fail
    refine (l1Eval_d (Gindex'.out.below bel) (HQ.out.below bel) HEV.out).mono ?_
    rintro e w1 ⟨rfl, b1⟩
    have S1 : Below w.heap.size w w1 := bel
    go_wp2_with fail
    refine (l5Wrap_c HB.out).mono ?_
    rintro e w' ⟨rfl, rfl⟩
    go_wp2
    go_ret
    exact ⟨ret_int HX.out.symm, S1⟩
  have q2 : (x.kind == 2) = false := ieq_f e2
  by_cases e3 : x.kind = 3
  · have q3 : (x.kind == 3) = true := ieq_t e3
    have HX := Lib.hid (HV.out.trans ((if_neg e1).trans ((if_neg e2).trans (if_pos e3)))); clear HV
    have hmem := HE.out.2.2 e3
    have HEV := Lib.hid (HVE.out _ hmem)
    have hr0 := HVR.out _ hmem
    have hr1 := (cellF_bd (a := x.read) (pt := q) HOK.out).2
    rw [← HML.out] at hr1
    obtain ⟨j, hj⟩ := Int.eq_ofNat_of_zero_le hr0
    rw [hj] at hr1
    have hlt : j < m.length := by omega
    have HJ := Lib.hid hj
    have HY := Lib.hid (HX.out.trans (by rw [hj, Int.toNat_natCast])); clear HX
    clear e1 e2 e3 hkk hmem hr0 hr1 hj
    obtain ⟨b5, o5, rfl, _, hbl5, hc5, _⟩ := HM.out.ints_at hlt
    go_enter Tryz.func63, Tryz.ntmps63
    go_wp2_with fail
    refine (l4Cell_c (HA.out.below bel) (Gread'.out.below bel) (HQ.out.below bel) HOK.out HEV.out.2 HEV.out.1).mono ?_
    rintro e w1 ⟨rfl, b1⟩
    rw [HJ.out]
    have S1 : Below w.heap.size w w1 := bel
    have hc6 := (S1.cell (p := ⟨b5, o5 + j, none⟩) hbl5).trans hc5
    clear b1 hc5
    go_wp2
    go_ret
    exact ⟨ret_int HY.out.symm, S1⟩
  have q3 : (x.kind == 3) = false := ieq_f e3
  have hk4 := hkk.resolve_left (fun h => by omega)
  have HX := Lib.hid (HV.out.trans ((if_neg e1).trans ((if_neg e2).trans (if_neg e3)))); clear HV
  clear e1 e2 e3 hkk HE
  obtain ⟨⟨ha, hb⟩, hl2, hvk⟩ := hk4
  have l0 : 0 < x.kids.length := by omega
  have l1 : 1 < x.kids.length := by omega
  have HVK := Lib.hid hvk; clear hvk hl2
  have v0 := val_bd x.kids[0] xs m q HMB.out (HVK.out _ (List.getElem_mem l0))
  have v1 := val_bd x.kids[1] xs m q HMB.out (HVK.out _ (List.getElem_mem l1))
  rw [valsF_gi l0, valsF_gi l1] at HX
  obtain ⟨u0, hu0⟩ : ∃ u, u = valF x.kids[0] xs m q := ⟨_, rfl⟩
  obtain ⟨u1, hu1⟩ : ∃ u, u = valF x.kids[1] xs m q := ⟨_, rfl⟩
  rw [← hu0] at v0 HX
  rw [← hu1] at v1 HX
  have HU0 := Lib.hid hu0; clear hu0
  have HU1 := Lib.hid hu1; clear hu1
  have GK2 := Lib.hid Gkids'.out
  obtain ⟨be, oe, cse, le, rfl, hble, hre, _, _, hce⟩ := Gkids'.out.sls_at Ex.d_size (k := 0) l0
  have Ge := Lib.hid hre
  obtain ⟨A3e, c3e, A6e, c6e, A7e, c7e, d3e, d6e, d7e, rfl, rfl, g1e, g2e, g3e, g4e, g5e, g6e, g7e⟩ := Rep.ex_iff.1 hre
  have k0e := (hce 0 _ rfl).1; rw [Nat.add_zero] at k0e
  have k1e := (hce 1 _ rfl).1
  have k2e := (hce 2 _ rfl).1
  have k3e := (hce 3 _ rfl).1
  have k4e := (hce 4 _ rfl).1
  have k5e := (hce 5 _ rfl).1
  have k6e := (hce 6 _ rfl).1
  have Q1e := Lib.hid g1e
  have Q2e := Lib.hid g2e
  have Q3e := Lib.hid g3e
  have Q4e := Lib.hid g4e
  have Q5e := Lib.hid g5e
  have Q6e := Lib.hid g6e
  have Q7e := Lib.hid g7e
  clear hce hre g1e g2e g3e g4e g5e g6e g7e
  simp only [Nat.zero_mul, Nat.add_zero] at k0e k1e k2e k3e k4e k5e k6e
  obtain ⟨bf, of, csf, lf, heqf, hblf, hrf, _, _, hcf⟩ := GK2.out.sls_at Ex.d_size (k := 1) l1
  obtain ⟨rfl, rfl⟩ : be = bf ∧ oe = of := by simpa using heqf
  have Gf := Lib.hid hrf
  obtain ⟨A3f, c3f, A6f, c6f, A7f, c7f, d3f, d6f, d7f, rfl, rfl, g1f, g2f, g3f, g4f, g5f, g6f, g7f⟩ := Rep.ex_iff.1 hrf
  have k0f := (hcf 0 _ rfl).1; rw [Nat.add_zero] at k0f
  have k1f := (hcf 1 _ rfl).1
  have k2f := (hcf 2 _ rfl).1
  have k3f := (hcf 3 _ rfl).1
  have k4f := (hcf 4 _ rfl).1
  have k5f := (hcf 5 _ rfl).1
  have k6f := (hcf 6 _ rfl).1
  have Q1f := Lib.hid g1f
  have Q2f := Lib.hid g2f
  have Q3f := Lib.hid g3f
  have Q4f := Lib.hid g4f
  have Q5f := Lib.hid g5f
  have Q6f := Lib.hid g6f
  have Q7f := Lib.hid g7f
  clear hcf hrf g1f g2f g3f g4f g5f g6f g7f
  simp only [Nat.one_mul] at k0f k1f k2f k3f k4f k5f k6f
  have H0 := HREC.out _ (List.getElem_mem l0)
  have H1 := HREC.out _ (List.getElem_mem l1)
  have HR0 := Lib.hid H0; clear H0
  have HR1 := Lib.hid H1; clear H1
  go_enter Tryz.func63, Tryz.ntmps63
  go_wp2_with fail
  refine (HR0.out _ xs m q _ _ _ _ _ _ _ _ _ _ _ _ _ _ (HA.out.below bel) (HM.out.below bel) (Ge.out.below bel) (HQ.out.below bel) HOK.out HMB.out HML.out (HVK.out _ (List.getElem_mem l0)) HPS.out).mono ?_
  rintro e w1 ⟨rfl, b1⟩
  rw [← HU0.out]
  have E1 : Box7 w1 w.heap.size (.int .i64 x.kind) (.int .i64 x.num) (.slice A3' x.index.coefs.length c3') (.int .i64 x.index.const) (.string x.read.arr) (.slice A6' x.read.subs.length c6') (.slice (some ⟨be, oe, none⟩) x.kids.length c7') := by
    refine ⟨?_, ?_, ?_, ?_, ?_, ?_, ?_⟩ <;> (rw [b1.cell (by simp [World.setCell]; try omega)]; go_simp)
  have S1 : Below w.heap.size w w1 := bel
  have m0 := cell_to k0f S1
  have m1 := cell_to k1f S1
  have m2 := cell_to k2f S1
  have m3 := cell_to k3f S1
  have m4 := cell_to k4f S1
  have m5 := cell_to k5f S1
  have m6 := cell_to k6f S1
  clear k0e k1e k2e k3e k4e k5e k6e k0f k1f k2f k3f k4f k5f k6f b1
  go_wp2_with fail
  refine (HR1.out _ xs m q _ _ _ _ _ _ _ _ _ _ _ _ _ _ (HA.out.below S1) (HM.out.below S1) (Gf.out.below S1) (HQ.out.below S1) HOK.out HMB.out HML.out (HVK.out _ (List.getElem_mem l1)) HPS.out).mono ?_
  rintro e w2 ⟨rfl, b2⟩
  rw [← HU1.out]
  have E2 := E1.to b2
  have Sx : Below w.heap.size w w2 := below_tr S1 b2
  clear E1 S1 b2 HR0 HR1 m0 m1 m2 m3 m4 m5 m6
  by_cases e4 : x.kind = 4
  · have q4 : (x.kind == 4) = true := ieq_t e4
    have HY := Lib.hid (HX.out.trans (show opF x.kind u0 u1 = wrapF (u0 + u1) by unfold opF; rw [if_pos e4]))
    go_wp2_with fail
    refine (l5Wrap_c (by omega)).mono ?_
    rintro e w' ⟨rfl, rfl⟩
    go_wp2
    go_ret
    exact ⟨ret_int HY.out.symm, Sx⟩
  have q4 : (x.kind == 4) = false := ieq_f e4
  by_cases e5 : x.kind = 5
  · have q5 : (x.kind == 5) = true := ieq_t e5
    have HY := Lib.hid (HX.out.trans (show opF x.kind u0 u1 = wrapF (u0 - u1) by unfold opF; rw [if_neg e4, if_pos e5]))
    go_wp2_with fail
    refine (l5Wrap_c (by omega)).mono ?_
    rintro e w' ⟨rfl, rfl⟩
    go_wp2
    go_ret
    exact ⟨ret_int HY.out.symm, Sx⟩
  have q5 : (x.kind == 5) = false := ieq_f e5
  have HY := Lib.hid (HX.out.trans (show opF x.kind u0 u1 = wrapF (u0 * u1) by unfold opF; rw [if_neg e4, if_neg e5]))
  have hm1 : 0 ≤ u0 * u1 := Int.mul_nonneg v0.1 v1.1
  have hm2 : u0 * u1 ≤ 999 * 999 := Int.mul_le_mul v0.2 v1.2 v1.1 (by omega)
  go_wp2_with fail
  refine (l5Wrap_c (by omega)).mono ?_
  rintro e w' ⟨rfl, rfl⟩
  go_wp2
  go_ret
  exact ⟨ret_int HY.out.symm, Sx⟩
theorem l5Eval_c (x : Ex) : ValExS x := Ex.ind (P := ValExS) (fun x hx => l5Eval_r hx) x
end Go.Proofs.YtgimggpmnemkbaaGreat
