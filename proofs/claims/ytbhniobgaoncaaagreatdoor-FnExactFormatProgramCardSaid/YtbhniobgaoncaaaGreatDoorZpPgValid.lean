/- ProgramValid of the program. -/
import Derived.Test.YtbhniobgaoncaaaGreatDoorZpPartS
import Derived.Test.YtbhniobgaoncaaaGreatDoorZpInsts
set_option linter.all false
set_option linter.unusedSimpArgs false
set_option linter.unusedVariables false
namespace Go.Proofs.YtbhniobgaoncaaaGreatDoor
open Go.ChangeShapes Go.WideShapes Go.ChangeAt Go.RowKit Go.Deep

theorem progOk_1 {p : Pgm} (h : arrsOk p.arrays = false) : progOk p = false := by rw [progOk, progBase, h, Bool.false_and, Bool.false_and]
theorem progOk_2 {p : Pgm} (h : ¬ p.parts.length ≤ 4) : progOk p = false := by rw [progOk, progBase, decide_eq_false h, Bool.and_false, Bool.false_and]
theorem progOk_3 {p : Pgm} (h : p.parts.all (partOk p.arrays) = false) : progOk p = false := by rw [progOk, h, Bool.false_and, Bool.and_false]
theorem progOk_4 {p : Pgm} (h : arrsOk p.arrays = true) (h2 : p.parts.length ≤ 4) (h3 : p.parts.all (partOk p.arrays) = true) : progOk p = decide ((instsF p).length ≤ 120) := by rw [progOk, progBase, h, decide_eq_true h2, h3]; rfl
theorem partN_nat {xs : List Ar} {x : Prt} (h : partOk xs x = true) : ∃ n : Nat, n = (ptsOf x).length * x.body.length ∧ n ≤ 480 ∧ partN xs x = (n : Int) :=
  ⟨_, rfl, part_len h, by rw [partN_yes h]; simp⟩

set_option maxRecDepth 100000 in
set_option maxHeartbeats 4000000 in
theorem specProgramValid_c {w : World} {p : Pgm} {cs : List Value} {bs : List Nat} (h : Rep w p.d cs bs) :
    Calls Tryz.prog 28 #[.agg cs.toArray] w fun e w' => e = .returned (.bool (progOk p)) ∧ Below w.heap.size w w' := by
  obtain ⟨A1, c1, A2, c2, d1, d2, rfl, rfl, g1, g2⟩ := Rep.pgm_iff.1 h
  have Garrays := Lib.hid g1
  have Gparts := Lib.hid g2
  clear h g1 g2
  have hpn : p.parts.length ≤ 9223372036854775807 := Nat.le_trans Gparts.out.sls_len.2.1 Gparts.out.sls_len.2.2
  go_enter Tryz.func28, Tryz.ntmps28
  go_wp2_with fail
  refine (l4Arrays_c (Garrays.out.below bel)).mono ?_
  rintro e w1 ⟨rfl, b1⟩
  have P1 : Box2 w1 w.heap.size (.slice A1 p.arrays.length c1) (.slice A2 p.parts.length c2) := by
    refine ⟨?_, ?_⟩ <;> (rw [b1.cell (by simp [World.setCell]; try omega)]; go_simp)
  have S1 : Below w.heap.size w w1 := bel
  clear b1
  cases hok : arrsOk p.arrays with
  | false =>
    have HX := Lib.hid (progOk_1 hok)
    clear hok
    go_wp2
    go_ret
    exact ⟨ret_bool HX.out.symm, S1⟩
  | true =>
  have HOK := Lib.hid hok; clear hok
  by_cases h4 : p.parts.length ≤ 4
  case neg =>
    have HX := Lib.hid (progOk_2 h4)
    go_wp2
    go_ret
    exact ⟨ret_bool HX.out.symm, S1⟩
  go_wp2
  go_loopw [3, 4] (fun u i wr => ∃ j : Nat, j ≤ p.parts.length ∧ i = .int .i64 j ∧ u = .int .i64 (totTo p.parts j : Nat) ∧ totTo p.parts j ≤ 480 * j ∧ p.parts.all (partOk p.arrays) = (p.parts.drop j).all (partOk p.arrays) ∧ Box2 wr w.heap.size (.slice A1 p.arrays.length c1) (.slice A2 p.parts.length c2) ∧ Below w.heap.size w wr) (fun _ i _ => p.parts.length - (intOf i).toNat)
  case atStart => exact ⟨0, Nat.zero_le _, rfl, int_eq (by rw [totTo_zero]; rfl), by rw [totTo_zero]; omega, rfl, P1, S1⟩
  case round =>
    clear P1 S1
    obtain ⟨j, hj, rfl, rfl, htj, hi, Pr, Sr⟩ := hrel
    have HI := Lib.hid hi; clear hi
    by_cases hlt : j < p.parts.length
    · have HD := Lib.hid (HI.out.trans (all_drop (partOk p.arrays) p.parts j hlt))
      have HT := Lib.hid (totTo_succ hlt)
      obtain ⟨be, oe, cse, le, rfl, hble, hre, _, _, hce⟩ := (Gparts.out.below Sr).sls_at Prt.d_size (k := j) hlt
      have Ge := Lib.hid hre
      obtain ⟨A1e, c1e, A2e, c2e, d1e, d2e, rfl, rfl, g1e, g2e⟩ := Rep.prt_iff.1 hre
      have k0e := (hce 0 _ rfl).1; rw [Nat.add_zero] at k0e
      have k1e := (hce 1 _ rfl).1
      have Q1e := Lib.hid g1e
      have Q2e := Lib.hid g2e
      clear hce hre g1e g2e
      cases hv : partOk p.arrays p.parts[j] with
      | false =>
        have HX := Lib.hid (progOk_3 (p := p) (HD.out.trans (by rw [hv, Bool.false_and])))
        have HV := Lib.hid hv; clear hv
        go_wp2_with fail
        refine wp_region_noPanic ?_
        refine wp_region_held_drew (S := fun w' => (Box2 w' w.heap.size (.slice A1 p.arrays.length c1) (.slice (some ⟨be, oe, none⟩) p.parts.length c2)) ∧ (w'.cell? ⟨be, oe + j * 2, none⟩ = some (.slice A1e p.parts[j].nest.length c1e) ∧ w'.cell? ⟨be, oe + j * 2 + 1, none⟩ = some (.slice A2e p.parts[j].body.length c2e))) (by kernel_rfl) (⟨Pr, k0e, k1e⟩) (fun hHeld => ?_)
        refine goR 0 hHeld ?_
        refine goR 1 hHeld ?_
        refine goR 2 hHeld ?_
        refine goR 3 hHeld ?_
        refine goR 4 hHeld ?_
        refine goR 5 hHeld ?_
        refine goR 6 hHeld ?_
        refine stepR (i := 7) rfl (by kernel_rfl) (wanted_none rfl) (fun K hK => ?_)
        go_simp
        (refine (l4Part_c (Garrays.out.below (below_drewN Sr 1)) (Ge.out.drewN 1) HOK.out).mono ?_; rintro e w2 ⟨he, b2⟩; replace b2 := of_drew b2; rw [HV.out] at he; subst he)
        go_wp2_with fail
        refine hK.out _ _ (⟨Pr.to b2, by rw [b2.cell hble]; exact k0e, by rw [b2.cell hble]; exact k1e⟩) (fun hHeld => ?_)
        clear hK K
        try simp only [Act.put, aq0, aq1, aq2]
        refine goR 8 hHeld ?_
        refine goR 9 hHeld ?_
        refine goR 10 hHeld ?_
        refine goR 11 hHeld ?_
        refine goR 12 hHeld ?_
        refine wpAnyH_done (by kernel_rfl) ?_ _
        refine NoPanic.normal ?_
        go_wp2
        go_ret
        exact ⟨ret_bool HX.out.symm, below_tr Sr b2⟩
      | true =>
        have HX := Lib.hid (HD.out.trans (by rw [hv, Bool.true_and]))
        obtain ⟨nn, hnn, hn480, hpn⟩ := partN_nat hv
        rw [← hnn] at HT
        have HV := Lib.hid hv; clear hv hnn
        have HPN := Lib.hid hpn; clear hpn
        go_wp2_with fail
        refine wp_region_noPanic ?_
        refine wp_region_held_drew (S := fun w' => (Box2 w' w.heap.size (.slice A1 p.arrays.length c1) (.slice (some ⟨be, oe, none⟩) p.parts.length c2)) ∧ (w'.cell? ⟨be, oe + j * 2, none⟩ = some (.slice A1e p.parts[j].nest.length c1e) ∧ w'.cell? ⟨be, oe + j * 2 + 1, none⟩ = some (.slice A2e p.parts[j].body.length c2e))) (by kernel_rfl) (⟨Pr, k0e, k1e⟩) (fun hHeld => ?_)
        refine goR 0 hHeld ?_
        refine goR 1 hHeld ?_
        refine goR 2 hHeld ?_
        refine goR 3 hHeld ?_
        refine goR 4 hHeld ?_
        refine goR 5 hHeld ?_
        refine goR 6 hHeld ?_
        refine stepR (i := 7) rfl (by kernel_rfl) (wanted_none rfl) (fun K hK => ?_)
        go_simp
        (refine (l4Part_c (Garrays.out.below (below_drewN Sr 1)) (Ge.out.drewN 1) HOK.out).mono ?_; rintro e w2 ⟨he, b2⟩; replace b2 := of_drew b2; rw [HV.out, HPN.out] at he; subst he)
        go_wp2_with fail
        refine hK.out _ _ (⟨Pr.to b2, by rw [b2.cell hble]; exact k0e, by rw [b2.cell hble]; exact k1e⟩) (fun hHeld => ?_)
        clear hK K
        try simp only [Act.put, aq0, aq1, aq2]
        refine goR 8 hHeld ?_
        refine goR 9 hHeld ?_
        refine goR 10 hHeld ?_
        refine goR 11 hHeld ?_
        refine goR 12 hHeld ?_
        refine wpAnyH_done (by kernel_rfl) ?_ _
        refine NoPanic.normal ?_
        have P2 := Pr.to b2
        have S2 := below_tr Sr b2
        clear Pr Sr b2 k0e k1e
        go_wp2
        go_roundw
        case rel => exact ⟨j + 1, by omega, by go_num, int_eq (by rw [HT.out]; simp), by rw [HT.out]; omega, HX.out, P2, S2⟩
        case measure => simp [intOf]; omega
    · have hjj : j = p.parts.length := by omega
      subst hjj
      have HX := Lib.hid (progOk_4 HOK.out h4 (show p.parts.all (partOk p.arrays) = true by rw [HI.out, List.drop_length]; rfl))
      have HE := Lib.hid (show totTo p.parts p.parts.length = (instsF p).length from totTo_all _)
      go_wp2
      go_ret
      exact ⟨ret_bool (by rw [HX.out, ← HE.out, decide_eq_decide]; omega), Sr⟩
end Go.Proofs.YtbhniobgaoncaaaGreatDoor
set_option linter.all false
set_option linter.unusedSimpArgs false
set_option linter.unusedVariables false
namespace Go.Proofs.YtbhniobgaoncaaaGreatDoor
open Go.ChangeShapes Go.WideShapes Go.ChangeAt Go.RowKit Go.Deep

set_option maxHeartbeats 1000000 in
theorem implProgramValid_c {w : World} {p : Pgm} {cs : List Value} {bs : List Nat} (h : Rep w p.d cs bs) :
    Calls Tryz.prog 35 #[.agg cs.toArray] w fun e w' => e = .returned (.bool (progOk p)) ∧ Below w.heap.size w w' := by
  have HP := Lib.hid h
  have HX := Lib.hid (InstsF_2 p)
  obtain ⟨A1, c1, A2, c2, d1, d2, rfl, rfl, g1, g2⟩ := Rep.pgm_iff.1 h
  have Garrays := Lib.hid g1
  have Gparts := Lib.hid g2
  clear h g1 g2
  go_enter Tryz.func35, Tryz.ntmps35
  go_wp2_with fail
  refine (instances_c (HP.out.below bel)).mono ?_
  rintro e w1 ⟨A3, n3, c3, bs3, rfl, _, _, _, b1⟩
  rw [HX.out]
  go_wp2
  go_ret
  exact ⟨rfl, bel⟩
end Go.Proofs.YtbhniobgaoncaaaGreatDoor
