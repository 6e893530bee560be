/- FormatStmt of both. -/
import Derived.Test.YtbhniobgaoncaaaDoorTxtF
import Derived.Test.YtbhniobgaoncaaaDoorStmtOk
set_option linter.all false
set_option linter.unusedSimpArgs false
set_option linter.unusedVariables false
namespace Go.Proofs.YtbhniobgaoncaaaDoor
open Go.ChangeShapes Go.WideShapes Go.ChangeAt Go.RowKit Go.Deep

theorem stm_tx {x : Stm} {d : Int} (h : StmtValidF x d = true) : (x.write.arr.size ≤ 1 ∧ SdOk x.write.subs) ∧ exShape x.value d 5 = true := by
  unfold StmtValidF at h
  simp only [Bool.and_eq_true] at h
  exact ⟨acc_sd h.2.1, h.2.2.1⟩
theorem isStmt_t {w : World} {x : Stm} {cs : List Value} {bs : List Nat} (h : Rep w x.d cs bs) : Calls Tryd.prog 47 #[.agg cs.toArray] w fun e w' => e = .returned (.bool (StmtValidF x 4)) ∧ Below w.heap.size w w' := by
  have HH := Lib.hid h
  obtain ⟨A2, c2, A5, c5, A8, c8, A9, c9, d2, d5, d8, d9, rfl, rfl, g1, g2, g3, g4, g5, g6, g7, g8, g9⟩ := Rep.stm_iff.1 h
  have Gwrite := Lib.hid ((Rep.acc_iff (x := x.write)).2 ⟨_, _, _, rfl, rfl, g1, g2⟩)
  have Gvalue := Lib.hid ((Rep.ex_iff (x := x.value)).2 ⟨_, _, _, _, _, _, _, _, _, rfl, rfl, g3, g4, g5, g6, g7, g8, g9⟩)
  clear h g1 g2 g3 g4 g5 g6 g7 g8 g9
  go_enter Tryd.func47, Tryd.ntmps47
  go_wp2_with fail
  refine (implStmtValid_c (HH.out.below bel)).mono ?_
  rintro e w1 ⟨rfl, b1⟩
  go_wp2
  go_ret
  exact ⟨rfl, bel⟩
set_option maxRecDepth 100000 in
set_option maxHeartbeats 4000000 in
theorem stmtText_c {w : World} {x : Stm} {cs : List Value} {bs : List Nat} {d : Int} (h : Rep w x.d cs bs) (hv : StmtValidF x d = true) :
    Calls Tryd.prog 48 #[.agg cs.toArray] w fun e w' => e = .returned (.string (strOf (stmL x))) ∧ Below w.heap.size w w' := by
  have HB := Lib.hid (stm_tx hv); clear hv
  obtain ⟨A2, c2, A5, c5, A8, c8, A9, c9, d2, d5, d8, d9, rfl, rfl, g1, g2, g3, g4, g5, g6, g7, g8, g9⟩ := Rep.stm_iff.1 h
  have Gwrite := Lib.hid ((Rep.acc_iff (x := x.write)).2 ⟨_, _, _, rfl, rfl, g1, g2⟩)
  have Gvalue := Lib.hid ((Rep.ex_iff (x := x.value)).2 ⟨_, _, _, _, _, _, _, _, _, rfl, rfl, g3, g4, g5, g6, g7, g8, g9⟩)
  clear h g1 g2 g3 g4 g5 g6 g7 g8 g9
  have hL1 : (strOf (accL x.write)).size ≤ 99 := by rw [strOf_size]; exact accL_bd HB.out.1.1 HB.out.1.2
  have hL2 : (strOf (exL x.value)).size ≤ 1760 := by rw [strOf_size]; exact exL_le HB.out.2 (by omega)
  obtain ⟨U, hU⟩ : ∃ u, u = strOf (accL x.write) := ⟨_, rfl⟩
  obtain ⟨V, hV⟩ : ∃ u, u = strOf (exL x.value) := ⟨_, rfl⟩
  have HD := Lib.hid (show strOf (stmL x) = (U ++ (⟨#[61]⟩ : ByteArray)) ++ V by
    rw [stmL, hU, hV, ← strOf_app, ← strOf_app, ByteArray.append_assoc]; rfl)
  rw [← hU] at hL1
  rw [← hV] at hL2
  have HU := Lib.hid hU; have HVV := Lib.hid hV
  clear hU hV
  have g1 : (9223372036854775807 < U.size + 1) = False := eq_false (by omega)
  have g2 : (9223372036854775807 < U.size + 1 + V.size) = False := eq_false (by omega)
  go_enter Tryd.func48, Tryd.ntmps48
  go_wp2_with fail
  refine wp_region_noPanic ?_
  refine wp_region_held_drew (S := fun w' => Below w.heap.size w w' ∧ Box9 w' w.heap.size (.string x.write.arr) (.slice A2 x.write.subs.length c2) (.int .i64 x.value.kind) (.int .i64 x.value.num) (.slice A5 x.value.index.coefs.length c5) (.int .i64 x.value.index.const) (.string x.value.read.arr) (.slice A8 x.value.read.subs.length c8) (.slice A9 x.value.kids.length c9)) (by kernel_rfl) (⟨bel, by go_simp, by go_simp, by go_simp, by go_simp, by go_simp, by go_simp, by go_simp, by go_simp, by go_simp⟩) (fun hHeld => ?_)
  refine goR 0 hHeld ?_
  refine goR 1 hHeld ?_
  refine goR 4 hHeld ?_
  refine goR 5 hHeld ?_
  refine stepR (i := 2) rfl (by kernel_rfl) (wanted_none rfl) (fun K hK => ?_)
  go_simp
  (refine (accessText_c (Gwrite.out.below bel) HB.out.1.1 HB.out.1.2).mono ?_; rintro e w4 ⟨rfl, b4⟩; rw [← HU.out]; have S4 : Below w.heap.size w w4 := bel; have B4 : Box9 w4 w.heap.size (.string x.write.arr) (.slice A2 x.write.subs.length c2) (.int .i64 x.value.kind) (.int .i64 x.value.num) (.slice A5 x.value.index.coefs.length c5) (.int .i64 x.value.index.const) (.string x.value.read.arr) (.slice A8 x.value.read.subs.length c8) (.slice A9 x.value.kids.length c9) := by (refine ⟨?_, ?_, ?_, ?_, ?_, ?_, ?_, ?_, ?_⟩ <;> (rw [b4.cell (by simp)]; go_simp)))
  go_wp2_with fail
  refine hK.out _ _ (⟨S4, B4⟩) (fun hHeld => ?_)
  clear hK K
  try simp only [Act.put, List.setIfInBounds_toArray, List.set_cons_zero, List.set_cons_succ]
  refine takeR (i := 3) (v := ?_) rfl rfl (by kernel_rfl) (by kernel_rfl) (by kernel_rfl) (fun _ _ _ h => h) ?_ hHeld ?_
  rotate_left 1
  · intro w hSw; (try dsimp only at hSw); go_simp
    try simp only [g1, g2, if_false]
    try with_reducible rfl
  simp only [Act.put, List.setIfInBounds_toArray, List.set_cons_zero, List.set_cons_succ]
  refine stepR (i := 6) rfl (by kernel_rfl) (wanted_none rfl) (fun K hK => ?_)
  go_simp
  (refine (exprText_c (Gvalue.out.below (by first | exact S4 | exact S4.drew)) (by omega) HB.out.2).mono ?_; rintro e w5 ⟨rfl, b5⟩; rw [← HVV.out]; replace b5 : Below w4.heap.size w4 w5 := (by first | exact b5 | exact of_drew b5); have S5 : Below w.heap.size w w5 := below_tr S4 b5)
  go_wp2_with fail
  refine hK.out _ _ (⟨S5, B4.to b5⟩) (fun hHeld => ?_)
  clear hK K
  try simp only [Act.put, List.setIfInBounds_toArray, List.set_cons_zero, List.set_cons_succ]
  refine takeR (i := 7) (v := ?_) rfl rfl (by kernel_rfl) (by kernel_rfl) (by kernel_rfl) (fun _ _ _ h => h) ?_ hHeld ?_
  rotate_left 1
  · intro w hSw; (try dsimp only at hSw); go_simp
    try simp only [g1, g2, if_false]
    try with_reducible rfl
  simp only [Act.put, List.setIfInBounds_toArray, List.set_cons_zero, List.set_cons_succ]
  refine goR 8 hHeld ?_
  refine wpAnyH_done (by kernel_rfl) ?_ _
  refine NoPanic.normal ?_
  go_wp2
  go_ret
  exact ⟨by rw [HD.out]; first | rfl | (simp only [ByteArray.append_assoc]; rfl), S5⟩
set_option maxRecDepth 100000 in
set_option maxHeartbeats 4000000 in
theorem implFormatStmt_c {w : World} {x : Stm} {cs : List Value} {bs : List Nat} (h : Rep w x.d cs bs) :
    Calls Tryd.prog 20 #[.agg cs.toArray] w fun e w' => e = .returned (.string (FormatStmtF x)) ∧ Below w.heap.size w w' := by
  have HH := Lib.hid h
  obtain ⟨A2, c2, A5, c5, A8, c8, A9, c9, d2, d5, d8, d9, rfl, rfl, g1, g2, g3, g4, g5, g6, g7, g8, g9⟩ := Rep.stm_iff.1 h
  have Gwrite := Lib.hid ((Rep.acc_iff (x := x.write)).2 ⟨_, _, _, rfl, rfl, g1, g2⟩)
  have Gvalue := Lib.hid ((Rep.ex_iff (x := x.value)).2 ⟨_, _, _, _, _, _, _, _, _, rfl, rfl, g3, g4, g5, g6, g7, g8, g9⟩)
  clear h g1 g2 g3 g4 g5 g6 g7 g8 g9
  go_enter Tryd.func20, Tryd.ntmps20
  go_wp2_with fail
  refine (isStmt_t (HH.out.below bel)).mono ?_
  rintro e w1 ⟨rfl, b1⟩
  have P1 : Box9 w1 w.heap.size (.string x.write.arr) (.slice A2 x.write.subs.length c2) (.int .i64 x.value.kind) (.int .i64 x.value.num) (.slice A5 x.value.index.coefs.length c5) (.int .i64 x.value.index.const) (.string x.value.read.arr) (.slice A8 x.value.read.subs.length c8) (.slice A9 x.value.kids.length c9) := by
    refine ⟨?_, ?_, ?_, ?_, ?_, ?_, ?_, ?_, ?_⟩ <;> (rw [b1.cell (by simp [World.setCell]; try omega)]; go_simp)
  have S1 : Below w.heap.size w w1 := bel
  cases hv : StmtValidF x 4 with
  | false =>
    have HE := Lib.hid (show FormatStmtF x = ⟨#[]⟩ by simp [FormatStmtF, hv])
    clear hv
    go_wp2
    go_ret
    exact ⟨by rw [HE.out]; rfl, S1⟩
  | true =>
    have HE := Lib.hid (show FormatStmtF x = strOf (stmL x) by simp [FormatStmtF, hv])
    have HV := Lib.hid hv; clear hv b1
    go_wp2_with fail
    refine (stmtText_c (HH.out.below S1) HV.out).mono ?_
    rintro e w2 ⟨rfl, b2⟩
    have s2 : Below w1.heap.size w1 w2 := bel
    have P2 := P1.to s2; clear P1
    have S2 : Below w.heap.size w w2 := below_tr S1 s2
    clear s2
    go_wp2
    go_ret
    exact ⟨by rw [HE.out]; rfl, S2⟩
set_option maxRecDepth 100000 in
set_option maxHeartbeats 4000000 in
theorem specFormatStmt_c {w : World} {x : Stm} {cs : List Value} {bs : List Nat} (h : Rep w x.d cs bs) :
    Calls Tryd.prog 18 #[.agg cs.toArray] w fun e w' => e = .returned (.string (FormatStmtF x)) ∧ Below w.heap.size w w' := by
  have HH := Lib.hid h
  obtain ⟨A2, c2, A5, c5, A8, c8, A9, c9, d2, d5, d8, d9, rfl, rfl, g1, g2, g3, g4, g5, g6, g7, g8, g9⟩ := Rep.stm_iff.1 h
  have Gwrite := Lib.hid ((Rep.acc_iff (x := x.write)).2 ⟨_, _, _, rfl, rfl, g1, g2⟩)
  have Gvalue := Lib.hid ((Rep.ex_iff (x := x.value)).2 ⟨_, _, _, _, _, _, _, _, _, rfl, rfl, g3, g4, g5, g6, g7, g8, g9⟩)
  clear h g1 g2 g3 g4 g5 g6 g7 g8 g9
  cases hv : StmtValidF x 4 with
  | false =>
    have HE := Lib.hid (show FormatStmtF x = ⟨#[]⟩ by simp [FormatStmtF, hv])
    have HV := Lib.hid hv; clear hv
    go_enter Tryd.func18, Tryd.ntmps18
    go_wp2_with fail
    refine (specStmtValid_c (HH.out.below bel)).mono ?_
    rintro e w1 ⟨rfl, b1⟩
    have P1 : Box9 w1 w.heap.size (.string x.write.arr) (.slice A2 x.write.subs.length c2) (.int .i64 x.value.kind) (.int .i64 x.value.num) (.slice A5 x.value.index.coefs.length c5) (.int .i64 x.value.index.const) (.string x.value.read.arr) (.slice A8 x.value.read.subs.length c8) (.slice A9 x.value.kids.length c9) := by
      refine ⟨?_, ?_, ?_, ?_, ?_, ?_, ?_, ?_, ?_⟩ <;> (rw [b1.cell (by simp [World.setCell]; try omega)]; go_simp)
    have S1 : Below w.heap.size w w1 := bel
    rw [HV.out]
    go_wp2
    go_ret
    exact ⟨by rw [HE.out]; rfl, S1⟩
  | true =>
    have HE := Lib.hid (show FormatStmtF x = strOf (stmL x) by simp [FormatStmtF, hv])
    have HB := Lib.hid (stm_tx hv)
    have HV := Lib.hid hv; clear hv
    have hL1 : (strOf (accL x.write)).size ≤ 99 := by rw [strOf_size]; exact accL_bd HB.out.1.1 HB.out.1.2
    have hL2 : (strOf (exL x.value)).size ≤ 1760 := by rw [strOf_size]; exact exL_le HB.out.2 (by omega)
    obtain ⟨U, hU⟩ : ∃ u, u = strOf (accL x.write) := ⟨_, rfl⟩
    obtain ⟨V, hV⟩ : ∃ u, u = strOf (exL x.value) := ⟨_, rfl⟩
    have HD := Lib.hid (show strOf (stmL x) = (U ++ (⟨#[61]⟩ : ByteArray)) ++ V by
      rw [stmL, hU, hV, ← strOf_app, ← strOf_app, ByteArray.append_assoc]; rfl)
    rw [← hU] at hL1
    rw [← hV] at hL2
    have HU := Lib.hid hU; have HVV := Lib.hid hV
    clear hU hV
    have g1 : (9223372036854775807 < U.size + 1) = False := eq_false (by omega)
    have g2 : (9223372036854775807 < U.size + 1 + V.size) = False := eq_false (by omega)
    go_enter Tryd.func18, Tryd.ntmps18
    go_wp2_with fail
    refine (specStmtValid_c (HH.out.below bel)).mono ?_
    rintro e w2 ⟨rfl, b2⟩
    have P2 : Box9 w2 w.heap.size (.string x.write.arr) (.slice A2 x.write.subs.length c2) (.int .i64 x.value.kind) (.int .i64 x.value.num) (.slice A5 x.value.index.coefs.length c5) (.int .i64 x.value.index.const) (.string x.value.read.arr) (.slice A8 x.value.read.subs.length c8) (.slice A9 x.value.kids.length c9) := by
      refine ⟨?_, ?_, ?_, ?_, ?_, ?_, ?_, ?_, ?_⟩ <;> (rw [b2.cell (by simp [World.setCell]; try omega)]; go_simp)
    have S2 : Below w.heap.size w w2 := bel
    rw [HV.out]
    clear b2
    have lp := lt_of_cell P2.1
    go_wp2_with fail
    refine wp_region_noPanic ?_
    refine wp_region_held_drew (S := fun w' => Below w2.heap.size w2 w' ∧ Box9 w' w.heap.size (.string x.write.arr) (.slice A2 x.write.subs.length c2) (.int .i64 x.value.kind) (.int .i64 x.value.num) (.slice A5 x.value.index.coefs.length c5) (.int .i64 x.value.index.const) (.string x.value.read.arr) (.slice A8 x.value.read.subs.length c8) (.slice A9 x.value.kids.length c9)) (by kernel_rfl) (⟨bel, P2⟩) (fun hHeld => ?_)
    refine goR 0 hHeld ?_
    refine goR 1 hHeld ?_
    refine goR 4 hHeld ?_
    refine goR 5 hHeld ?_
    refine stepR (i := 2) rfl (by kernel_rfl) (wanted_none rfl) (fun K hK => ?_)
    go_simp
    (refine (l3AccessText_c (Gwrite.out.below (below_tr S2 bel)) HB.out.1.1 HB.out.1.2).mono ?_; rintro e w4 ⟨rfl, b4⟩; rw [← HU.out]; have S4 : Below w2.heap.size w2 w4 := bel; have B4 := P2.to S4)
    go_wp2_with fail
    refine hK.out _ _ (⟨S4, B4⟩) (fun hHeld => ?_)
    clear hK K
    try simp only [Act.put, List.setIfInBounds_toArray, List.set_cons_zero, List.set_cons_succ]
    refine takeR (i := 3) (v := ?_) rfl rfl (by kernel_rfl) (by kernel_rfl) (by kernel_rfl) (fun _ _ _ h => h) ?_ hHeld ?_
    rotate_left 1
    · intro w hSw; (try dsimp only at hSw); go_simp
      try simp only [g1, g2, if_false]
      try with_reducible rfl
    simp only [Act.put, List.setIfInBounds_toArray, List.set_cons_zero, List.set_cons_succ]
    refine stepR (i := 6) rfl (by kernel_rfl) (wanted_none rfl) (fun K hK => ?_)
    go_simp
    (refine (l3Text_c (Gvalue.out.below (below_tr S2 (by first | exact S4 | exact S4.drew))) (by omega) HB.out.2).mono ?_; rintro e w5 ⟨rfl, b5⟩; rw [← HVV.out]; replace b5 : Below w4.heap.size w4 w5 := (by first | exact b5 | exact of_drew b5); have S5 : Below w2.heap.size w2 w5 := below_tr S4 b5)
    go_wp2_with fail
    refine hK.out _ _ (⟨S5, B4.to b5⟩) (fun hHeld => ?_)
    clear hK K
    try simp only [Act.put, List.setIfInBounds_toArray, List.set_cons_zero, List.set_cons_succ]
    refine takeR (i := 7) (v := ?_) rfl rfl (by kernel_rfl) (by kernel_rfl) (by kernel_rfl) (fun _ _ _ h => h) ?_ hHeld ?_
    rotate_left 1
    · intro w hSw; (try dsimp only at hSw); go_simp
      try simp only [g1, g2, if_false]
      try with_reducible rfl
    simp only [Act.put, List.setIfInBounds_toArray, List.set_cons_zero, List.set_cons_succ]
    refine goR 8 hHeld ?_
    refine wpAnyH_done (by kernel_rfl) ?_ _
    refine NoPanic.normal ?_
    go_wp2
    go_ret
    exact ⟨by rw [HE.out, HD.out]; first | rfl | (simp only [ByteArray.append_assoc]; rfl), below_tr S2 S5⟩
end Go.Proofs.YtbhniobgaoncaaaDoor
