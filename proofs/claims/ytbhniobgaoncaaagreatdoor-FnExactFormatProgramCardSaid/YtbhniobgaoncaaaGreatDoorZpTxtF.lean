/- Texts of accesses and of expressions, of both. -/
import Derived.Test.YtbhniobgaoncaaaGreatDoorZpTxtE
import Derived.Test.YtbhniobgaoncaaaGreatDoorZpFmtN
import Derived.Test.YtbhniobgaoncaaaGreatDoorZpScanI
set_option linter.all false
set_option linter.unusedSimpArgs false
set_option linter.unusedVariables false
namespace Go.Proofs.YtbhniobgaoncaaaGreatDoor
open Go.ChangeShapes Go.WideShapes Go.ChangeAt Go.RowKit Go.Deep

theorem accL_bd {x : Acc} (h1 : x.arr.size ≤ 1) (h2 : SdOk x.subs) : (accL x).length ≤ 99 := by
  have := sdL_len h2
  unfold accL
  simp only [List.length_append, List.length_cons, List.length_nil]
  have : x.arr.data.toList.length = x.arr.size := Array.length_toList
  omega
theorem acc_sd {x : Acc} {d : Int} (h : accOk x d = true) : x.arr.size ≤ 1 ∧ SdOk x.subs := by
  unfold accOk at h
  simp only [Bool.and_eq_true] at h
  refine ⟨?_, side_sd h.2⟩
  rcases Nat.lt_or_ge 1 x.arr.size with h1 | h1
  · rw [arrOk_ne (by omega)] at h; exact absurd h.1 Bool.false_ne_true
  · exact h1
theorem exL_un (x : Ex) : exL x = if x.kind = 1 then decL x.num.toNat else if x.kind = 2 then [123] ++ (affI x.index ++ [125]) else if x.kind = 3 then accL x.read else [40] ++ (exsL (opL x.kind) x.kids ++ [41]) := by
  cases x; rw [exL]
/-- what a well-formed expression has -/
theorem exTx_parts {x : Ex} {d : Int} {L : Nat} (h : exShape x d L = true) :
    (x.kind = 1 → ∃ n : Nat, n < 100 ∧ x.num = n) ∧ (x.kind = 2 → affOk x.index = true) ∧ (x.kind = 3 → x.read.arr.size ≤ 1 ∧ SdOk x.read.subs) ∧ 1 ≤ L ∧
    (x.kind = 1 ∨ x.kind = 2 ∨ x.kind = 3 ∨ ((4 ≤ x.kind ∧ x.kind ≤ 6) ∧ x.kids.length = 2 ∧ ∀ y ∈ x.kids, exShape y d (L - 1) = true)) := by
  rw [exShape_eq] at h
  simp only [Bool.and_eq_true, decide_eq_true_iff, List.all_eq_true] at h
  obtain ⟨hL, hk, ho, ha⟩ := h
  refine ⟨fun e => ?_, fun e => ?_, fun e => ?_, hL, ?_⟩
  · unfold ownF at ho
    rw [if_neg (by omega), if_neg (by omega), if_pos e] at ho
    simp only [Bool.and_eq_true] at ho
    have := inB_iff.1 ho.1
    exact ⟨x.num.toNat, by omega, by omega⟩
  · unfold ownF at ho
    rw [if_pos e] at ho
    simp only [Bool.and_eq_true] at ho
    exact ho.2.2.1
  · unfold ownF at ho
    rw [if_neg (by omega), if_pos e] at ho
    simp only [Bool.and_eq_true] at ho
    exact acc_sd ho.2.2
  · unfold kidsN at hk
    split at hk
    · rename_i e; rcases e with e | e | e <;> simp [e]
    · split at hk
      · rename_i e
        exact .inr (.inr (.inr ⟨by omega, by omega, ha⟩))
      · omega
theorem two_kids {l : List Ex} (h : l.length = 2) : ∃ a b, l = [a, b] := by
  match l, h with
  | [a, b], _ => exact ⟨a, b, rfl⟩
theorem exL_bd (x : Ex) : ∀ (L : Nat) (d : Int), exShape x d (L + 1) = true → (exL x).length + 3 ≤ 110 * 2 ^ L :=
  Ex.ind (P := fun x => ∀ (L : Nat) (d : Int), exShape x d (L + 1) = true → (exL x).length + 3 ≤ 110 * 2 ^ L) (fun x hx L d h => by
    have hp : 1 ≤ 2 ^ L := Nat.one_le_two_pow
    obtain ⟨p1, p2, p3, _, p4⟩ := exTx_parts h
    rw [exL_un]
    by_cases e1 : x.kind = 1
    · rw [if_pos e1]; have := decL_len x.num.toNat; omega
    · rw [if_neg e1]
      by_cases e2 : x.kind = 2
      · rw [if_pos e2]
        have := affI_len (affOk_bds (p2 e2)).1
        simp only [List.length_append, List.length_cons, List.length_nil]; omega
      · rw [if_neg e2]
        by_cases e3 : x.kind = 3
        · rw [if_pos e3]
          have := accL_bd (p3 e3).1 (p3 e3).2
          omega
        · rw [if_neg e3]
          obtain ⟨_, hl, hk⟩ : (4 ≤ x.kind ∧ x.kind ≤ 6) ∧ x.kids.length = 2 ∧ ∀ y ∈ x.kids, exShape y d (L + 1 - 1) = true := by
            rcases p4 with e | e | e | e
            · exact absurd e e1
            · exact absurd e e2
            · exact absurd e e3
            · exact e
          obtain ⟨a, b, hab⟩ := two_kids hl
          rw [hab] at hx hk ⊢
          have ka := hk a (by simp)
          have kb := hk b (by simp)
          simp only [Nat.add_sub_cancel] at ka kb
          have hL : ∃ M, L = M + 1 := by
            cases L with
            | zero => exact absurd (exTx_parts ka).2.2.2.1 (by simp)
            | succ M => exact ⟨M, rfl⟩
          obtain ⟨M, rfl⟩ := hL
          have ia := hx a (by simp) M d ka
          have ib := hx b (by simp) M d kb
          have ho : (opL x.kind).length = 1 := by unfold opL; split <;> (try split) <;> rfl
          rw [exsL, exrL, exrL]
          simp only [List.length_append, List.length_cons, List.length_nil, ho]
          rw [Nat.pow_succ]; omega) x
theorem exL_le {x : Ex} {d : Int} {L : Nat} (h : exShape x d L = true) (hL : L ≤ 5) : (exL x).length ≤ 1760 := by
  have h1 := (exTx_parts h).2.2.2.1
  obtain ⟨M, rfl⟩ : ∃ M, L = M + 1 := ⟨L - 1, by omega⟩
  have := exL_bd x M d h
  have h2 : 2 ^ M ≤ 2 ^ 4 := Nat.pow_le_pow_right (by decide) (by omega)
  omega
set_option maxRecDepth 100000 in
set_option maxHeartbeats 4000000 in
theorem l3AccessText_c {w : World} {x : Acc} {cs : List Value} {bs : List Nat} (h : Rep w x.d cs bs) (h1 : x.arr.size ≤ 1) (h2 : SdOk x.subs) :
    Calls Tryz.prog 31 #[.agg cs.toArray] w fun e w' => e = .returned (.string (strOf (accL x))) ∧ Below w.heap.size w w' := by
  obtain ⟨A2, c2, d2, rfl, rfl, g1, g2⟩ := Rep.acc_iff.1 h
  have Garr := Lib.hid g1
  have Gsubs := Lib.hid g2
  clear h g1 g2
  have hL1 : (strOf (sideL x.subs)).size ≤ 96 := by rw [strOf_size]; exact sdL_len h2
  obtain ⟨L1, hL1e⟩ : ∃ L, L = strOf (sideL x.subs) := ⟨_, rfl⟩
  have HD := Lib.hid (show strOf (accL x) = ((x.arr ++ (⟨#[91]⟩ : ByteArray)) ++ L1) ++ (⟨#[93]⟩ : ByteArray) by
    rw [accL, hL1e, ← strOf_app, ← strOf_app, ← strOf_app, ← strOf_eq (s := x.arr) rfl]
    simp only [ByteArray.append_assoc]; rfl)
  have HC : ∀ W : World, Below w.heap.size w W → Hid (Calls Tryz.prog 74 #[.slice A2 x.subs.length c2] W fun e w' => e = .returned (.string L1) ∧ Below W.heap.size W w') := fun W hW => Lib.hid (by rw [hL1e]; exact l2SideText_c (Gsubs.out.below hW) h2)
  rw [← hL1e] at hL1
  have g1 : (9223372036854775807 < x.arr.size + 1) = False := eq_false (by omega)
  have g2 : (9223372036854775807 < x.arr.size + 1 + L1.size) = False := eq_false (by omega)
  have g3 : (9223372036854775807 < x.arr.size + 1 + L1.size + 1) = False := eq_false (by omega)
  clear hL1e h2
  go_enter Tryz.func31, Tryz.ntmps31
  go_wp2_with fail
  refine wp_region_noPanic ?_
  refine wp_region_held_drew (S := fun w' => Below w.heap.size w w' ∧ Box2 w' w.heap.size (.string x.arr) (.slice A2 x.subs.length c2)) (by kernel_rfl) (⟨bel, ⟨by go_simp, by go_simp⟩⟩) (fun hHeld => ?_)
  refine goR 0 hHeld ?_
  refine goR 1 hHeld ?_
  refine takeR (i := 2) (v := ?_) rfl rfl (by kernel_rfl) (by kernel_rfl) (by kernel_rfl) (fun _ _ _ h => h) ?_ hHeld ?_
  rotate_left 1
  · intro w hSw; (try dsimp only at hSw); go_simp
    try simp only [g1, g2, g3, if_false]
    try with_reducible rfl
  simp only [Act.put, aq0, aq1, aq2]
  refine goR 3 hHeld ?_
  refine goR 4 hHeld ?_
  refine stepR (i := 5) rfl (by kernel_rfl) (wanted_none rfl) (fun K hK => ?_)
  go_simp
  (refine (HC _ bel).out.mono ?_; rintro e w4 ⟨rfl, b4⟩; have S4 : Below w.heap.size w w4 := bel; have B4 : Box2 w4 w.heap.size (.string x.arr) (.slice A2 x.subs.length c2) := ⟨by (rw [b4.cell (by simp)]; go_simp), by (rw [b4.cell (by simp)]; go_simp)⟩)
  go_wp2_with fail
  refine hK.out _ _ (⟨S4, B4⟩) (fun hHeld => ?_)
  clear hK K
  try simp only [Act.put, aq0, aq1, aq2]
  refine takeR (i := 6) (v := ?_) rfl rfl (by kernel_rfl) (by kernel_rfl) (by kernel_rfl) (fun _ _ _ h => h) ?_ hHeld ?_
  rotate_left 1
  · intro w hSw; (try dsimp only at hSw); go_simp
    try simp only [g1, g2, g3, if_false]
    try with_reducible rfl
  simp only [Act.put, aq0, aq1, aq2]
  refine takeR (i := 7) (v := ?_) rfl rfl (by kernel_rfl) (by kernel_rfl) (by kernel_rfl) (fun _ _ _ h => h) ?_ hHeld ?_
  rotate_left 1
  · intro w hSw; (try dsimp only at hSw); go_simp
    try simp only [g1, g2, g3, if_false]
    try with_reducible rfl
  simp only [Act.put, aq0, aq1, aq2]
  refine goR 8 hHeld ?_
  refine wpAnyH_done (by kernel_rfl) ?_ _
  refine NoPanic.normal ?_
  go_wp2
  go_ret
  exact ⟨by rw [HD.out]; first | rfl | (simp only [ByteArray.append_assoc]; rfl), S4⟩
set_option maxRecDepth 100000 in
set_option maxHeartbeats 4000000 in
theorem accessText_c {w : World} {x : Acc} {cs : List Value} {bs : List Nat} (h : Rep w x.d cs bs) (h1 : x.arr.size ≤ 1) (h2 : SdOk x.subs) :
    Calls Tryz.prog 104 #[.agg cs.toArray] w fun e w' => e = .returned (.string (strOf (accL x))) ∧ Below w.heap.size w w' := by
  obtain ⟨A2, c2, d2, rfl, rfl, g1, g2⟩ := Rep.acc_iff.1 h
  have Garr := Lib.hid g1
  have Gsubs := Lib.hid g2
  clear h g1 g2
  have hL1 : (strOf (sideL x.subs)).size ≤ 96 := by rw [strOf_size]; exact sdL_len h2
  obtain ⟨L1, hL1e⟩ : ∃ L, L = strOf (sideL x.subs) := ⟨_, rfl⟩
  have HD := Lib.hid (show strOf (accL x) = ((x.arr ++ (⟨#[91]⟩ : ByteArray)) ++ L1) ++ (⟨#[93]⟩ : ByteArray) by
    rw [accL, hL1e, ← strOf_app, ← strOf_app, ← strOf_app, ← strOf_eq (s := x.arr) rfl]
    simp only [ByteArray.append_assoc]; rfl)
  have HC : ∀ W : World, Below w.heap.size w W → Hid (Calls Tryz.prog 88 #[.slice A2 x.subs.length c2] W fun e w' => e = .returned (.string L1) ∧ Below W.heap.size W w') := fun W hW => Lib.hid (by rw [hL1e]; exact affinesText_c (Gsubs.out.below hW) h2.1 h2.2)
  rw [← hL1e] at hL1
  have g1 : (9223372036854775807 < x.arr.size + 1) = False := eq_false (by omega)
  have g2 : (9223372036854775807 < x.arr.size + 1 + L1.size) = False := eq_false (by omega)
  have g3 : (9223372036854775807 < x.arr.size + 1 + L1.size + 1) = False := eq_false (by omega)
  clear hL1e h2
  go_enter Tryz.func104, Tryz.ntmps104
  go_wp2_with fail
  refine wp_region_noPanic ?_
  refine wp_region_held_drew (S := fun w' => Below w.heap.size w w' ∧ Box2 w' w.heap.size (.string x.arr) (.slice A2 x.subs.length c2)) (by kernel_rfl) (⟨bel, ⟨by go_simp, by go_simp⟩⟩) (fun hHeld => ?_)
  refine goR 0 hHeld ?_
  refine goR 1 hHeld ?_
  refine takeR (i := 2) (v := ?_) rfl rfl (by kernel_rfl) (by kernel_rfl) (by kernel_rfl) (fun _ _ _ h => h) ?_ hHeld ?_
  rotate_left 1
  · intro w hSw; (try dsimp only at hSw); go_simp
    try simp only [g1, g2, g3, if_false]
    try with_reducible rfl
  simp only [Act.put, aq0, aq1, aq2]
  refine goR 3 hHeld ?_
  refine goR 4 hHeld ?_
  refine stepR (i := 5) rfl (by kernel_rfl) (wanted_none rfl) (fun K hK => ?_)
  go_simp
  (refine (HC _ bel).out.mono ?_; rintro e w4 ⟨rfl, b4⟩; have S4 : Below w.heap.size w w4 := bel; have B4 : Box2 w4 w.heap.size (.string x.arr) (.slice A2 x.subs.length c2) := ⟨by (rw [b4.cell (by simp)]; go_simp), by (rw [b4.cell (by simp)]; go_simp)⟩)
  go_wp2_with fail
  refine hK.out _ _ (⟨S4, B4⟩) (fun hHeld => ?_)
  clear hK K
  try simp only [Act.put, aq0, aq1, aq2]
  refine takeR (i := 6) (v := ?_) rfl rfl (by kernel_rfl) (by kernel_rfl) (by kernel_rfl) (fun _ _ _ h => h) ?_ hHeld ?_
  rotate_left 1
  · intro w hSw; (try dsimp only at hSw); go_simp
    try simp only [g1, g2, g3, if_false]
    try with_reducible rfl
  simp only [Act.put, aq0, aq1, aq2]
  refine takeR (i := 7) (v := ?_) rfl rfl (by kernel_rfl) (by kernel_rfl) (by kernel_rfl) (fun _ _ _ h => h) ?_ hHeld ?_
  rotate_left 1
  · intro w hSw; (try dsimp only at hSw); go_simp
    try simp only [g1, g2, g3, if_false]
    try with_reducible rfl
  simp only [Act.put, aq0, aq1, aq2]
  refine goR 8 hHeld ?_
  refine wpAnyH_done (by kernel_rfl) ?_ _
  refine NoPanic.normal ?_
  go_wp2
  go_ret
  exact ⟨by rw [HD.out]; first | rfl | (simp only [ByteArray.append_assoc]; rfl), S4⟩
def l3TextX (x : Ex) : Prop := ∀ (w : World) (cs : List Value) (bs : List Nat) (L : Nat) (d : Int), Rep w x.d cs bs → L ≤ 5 → exShape x d L = true →
    Calls Tryz.prog 32 #[.agg cs.toArray] w fun e w' => e = .returned (.string (strOf (exL x))) ∧ Below w.heap.size w w'
set_option maxRecDepth 100000 in
set_option maxHeartbeats 8000000 in
theorem l3Text_r {x : Ex} (hrec : ∀ y ∈ x.kids, l3TextX y) : l3TextX x := by
  intro w cs bs L d h hL5 hsh
  have HREC := Lib.hid hrec; clear hrec
  have HV := Lib.hid (exL_un x)
  obtain ⟨p1, p2, p3, _, p4⟩ := exTx_parts hsh
  have HP1 := Lib.hid p1; have HP2 := Lib.hid p2; have HP3 := Lib.hid p3
  clear p1 p2 p3 hsh
  obtain ⟨A3, c3, A6, c6, A7, c7, d3, d6, d7, rfl, rfl, g1, g2, g3, g4, g5, g6, g7⟩ := Rep.ex_iff.1 h
  have Gkind := Lib.hid g1
  have Gnum := Lib.hid g2
  have Gindex := Lib.hid ((Rep.aff_iff2 (x := x.index)).2 ⟨_, _, _, rfl, rfl, g3, g4⟩)
  have Gread := Lib.hid ((Rep.acc_iff (x := x.read)).2 ⟨_, _, _, rfl, rfl, g5, g6⟩)
  have Gkids := Lib.hid g7
  clear h g1 g2 g3 g4 g5 g6 g7
  by_cases e1 : x.kind = 1
  · have q1 : (x.kind == 1) = true := ieq_t e1
    obtain ⟨n, hn, hnum⟩ := HP1.out e1
    have HX := Lib.hid (show strOf (exL x) = strOf (decL n) by rw [HV.out, if_pos e1, hnum, Int.toNat_natCast]); clear HV
    have HN := Lib.hid hnum
    clear e1 p4 hnum
    go_enter Tryz.func32, Tryz.ntmps32
    go_wp2_with fail
    rw [HN.out]
    refine (l16Dec_c hn).mono ?_
    rintro e w1 ⟨rfl, b1⟩
    go_wp2
    go_ret
    exact ⟨by rw [HX.out]; rfl, bel⟩
  have q1 : (x.kind == 1) = false := ieq_f e1
  by_cases e2 : x.kind = 2
  · have q2 : (x.kind == 2) = true := ieq_t e2
    have hb := affOk_bds (HP2.out e2)
    have HB := Lib.hid hb
    have hl := affI_len hb.1
    obtain ⟨T, hT⟩ : ∃ T, T = affI x.index := ⟨_, rfl⟩
    have HX := Lib.hid (show strOf (exL x) = ((⟨#[123]⟩ : ByteArray) ++ strOf T) ++ (⟨#[125]⟩ : ByteArray) by rw [HV.out, if_neg e1, if_pos e2, ← strOf_app, ← strOf_app, ByteArray.append_assoc, hT]; rfl); clear HV
    have HA := Lib.hid (show affS x.index = T by rw [hT]; exact (affI_eq _).symm)
    rw [← hT] at hl
    have hls : (strOf T).size ≤ 23 := by rw [strOf_size]; exact hl
    clear e1 e2 p4 hT hb hl
    go_enter Tryz.func32, Tryz.ntmps32
    go_wp2_with fail
    refine (l1Text_c (Gindex.out.below bel) HB.out.1 HB.out.2.1 HB.out.2.2).mono ?_
    rintro e w1 ⟨rfl, b1⟩
    rw [HA.out]
    have S1 : Below w.heap.size w w1 := bel
    go_wp2
    go_ret
    exact ⟨by rw [HX.out]; first | rfl | (simp only [ByteArray.append_assoc]; rfl), S1⟩
  have q2 : (x.kind == 2) = false := ieq_f e2
  by_cases e3 : x.kind = 3
  · have q3 : (x.kind == 3) = true := ieq_t e3
    have HX := Lib.hid (show strOf (exL x) = strOf (accL x.read) by rw [HV.out, if_neg e1, if_neg e2, if_pos e3]); clear HV
    have HR := Lib.hid (HP3.out e3)
    clear e1 e2 e3 p4
    go_enter Tryz.func32, Tryz.ntmps32
    go_wp2_with fail
    refine (l3AccessText_c (Gread.out.below bel) HR.out.1 HR.out.2).mono ?_
    rintro e w1 ⟨rfl, b1⟩
    have S1 : Below w.heap.size w w1 := bel
    go_wp2
    go_ret
    exact ⟨by rw [HX.out]; first | rfl | (simp only [ByteArray.append_assoc]; rfl), S1⟩
  have q3 : (x.kind == 3) = false := ieq_f e3
  obtain ⟨⟨ha, hb⟩, hl2, hk⟩ := (show _ ∧ _ from (((p4.resolve_left e1).resolve_left e2).resolve_left e3))
  have l0 : 0 < x.kids.length := by omega
  have l1 : 1 < x.kids.length := by omega
  obtain ⟨kk, hk3, hkk⟩ : ∃ kk : Nat, kk < 3 ∧ x.kind - 4 = (kk : Int) := ⟨(x.kind - 4).toNat, by omega, by omega⟩
  have hs0 := hk _ (List.getElem_mem l0)
  have hs1 := hk _ (List.getElem_mem l1)
  have hb0 := exL_le hs0 (by omega)
  have hb1 := exL_le hs1 (by omega)
  have hL4 : L - 1 ≤ 5 := by omega
  obtain ⟨U0, hU0⟩ : ∃ u, u = strOf (exL x.kids[0]) := ⟨_, rfl⟩
  obtain ⟨U1, hU1⟩ : ∃ u, u = strOf (exL x.kids[1]) := ⟨_, rfl⟩
  obtain ⟨SO, hSO⟩ : ∃ u, u = strOf (opL x.kind) := ⟨_, rfl⟩
  have hz0 : U0.size ≤ 1760 := by rw [hU0, strOf_size]; exact hb0
  have hz1 : U1.size ≤ 1760 := by rw [hU1, strOf_size]; exact hb1
  have hzo : SO.size = 1 := by rw [hSO, strOf_size]; unfold opL; split <;> (try split) <;> rfl
  have hsl : (⟨#[43, 45, 42]⟩ : ByteArray).extract kk (kk + 1) = SO := by
    rw [hSO, show x.kind = (kk : Int) + 4 by omega]
    have : ∀ k : Fin 3, (⟨#[43, 45, 42]⟩ : ByteArray).extract k.val (k.val + 1) = strOf (opL ((k.val : Int) + 4)) := by decide
    exact this ⟨kk, hk3⟩
  have HX := Lib.hid (show strOf (exL x) = (((((⟨#[40]⟩ : ByteArray) ++ U0) ++ SO) ++ U1) ++ (⟨#[41]⟩ : ByteArray)) by
    have hkl : x.kids = [x.kids[0], x.kids[1]] := by
      obtain ⟨a, b, hab⟩ := two_kids hl2
      simp only [hab]; rfl
    rw [HV.out, if_neg e1, if_neg e2, if_neg e3, hkl, exsL, exrL, exrL, hU0, hU1, hSO, ← strOf_app, ← strOf_app, ← strOf_app, ← strOf_app, ← strOf_app]
    simp only [ByteArray.append_assoc, List.getElem_cons_zero, List.getElem_cons_succ]; rfl); clear HV
  have HS0 := Lib.hid hs0; have HS1 := Lib.hid hs1
  have HU0 := Lib.hid hU0; have HU1 := Lib.hid hU1
  clear hU0 hU1 hSO hs0 hs1 hb0 hb1 e1 e2 e3 p4 hk hl2
  obtain ⟨W, hW⟩ : ∃ W, W = w.alloc (.cells #[.int .i64 x.kind, .int .i64 x.num, .slice A3 x.index.coefs.length c3, .int .i64 x.index.const, .string x.read.arr, .slice A6 x.read.subs.length c6, .slice A7 x.kids.length c7] 49) := ⟨_, rfl⟩
  have E0 : Box7 W w.heap.size (.int .i64 x.kind) (.int .i64 x.num) (.slice A3 x.index.coefs.length c3) (.int .i64 x.index.const) (.string x.read.arr) (.slice A6 x.read.subs.length c6) (.slice A7 x.kids.length c7) := by
    rw [hW]; refine ⟨?_, ?_, ?_, ?_, ?_, ?_, ?_⟩ <;> go_simp
  have B0 : Below w.heap.size w W := by rw [hW]; exact bel
  have HW := Lib.hid hW; clear hW
  have GK := Lib.hid (Gkids.out.below B0)
  have GK2 := Lib.hid GK.out
  clear Gindex Gread Gkids Gkind Gnum
  obtain ⟨be, oe, cse, le, rfl, hble, hre, _, _, hce⟩ := GK.out.sls_at Ex.d_size (k := 0) l0
  have Ge := Lib.hid hre
  obtain ⟨A3e, c3e, A6e, c6e, A7e, c7e, d3e, d6e, d7e, rfl, rfl, g1e, g2e, g3e, g4e, g5e, g6e, g7e⟩ := Rep.ex_iff.1 hre
  have k0e := (hce 0 _ rfl).1; rw [Nat.add_zero] at k0e
  have k1e := (hce 1 _ rfl).1
  have k2e := (hce 2 _ rfl).1
  have k3e := (hce 3 _ rfl).1
  have k4e := (hce 4 _ rfl).1
  have k5e := (hce 5 _ rfl).1
  have k6e := (hce 6 _ rfl).1
  have Q1e := Lib.hid g1e
  have Q2e := Lib.hid g2e
  have Q3e := Lib.hid g3e
  have Q4e := Lib.hid g4e
  have Q5e := Lib.hid g5e
  have Q6e := Lib.hid g6e
  have Q7e := Lib.hid g7e
  clear hce hre g1e g2e g3e g4e g5e g6e g7e
  simp only [Nat.zero_mul, Nat.add_zero] at k0e k1e k2e k3e k4e k5e k6e
  obtain ⟨bf, of, csf, lf, heqf, hblf, hrf, _, _, hcf⟩ := GK2.out.sls_at Ex.d_size (k := 1) l1
  obtain ⟨rfl, rfl⟩ : be = bf ∧ oe = of := by simpa using heqf
  have Gf := Lib.hid hrf
  obtain ⟨A3f, c3f, A6f, c6f, A7f, c7f, d3f, d6f, d7f, rfl, rfl, g1f, g2f, g3f, g4f, g5f, g6f, g7f⟩ := Rep.ex_iff.1 hrf
  have k0f := (hcf 0 _ rfl).1; rw [Nat.add_zero] at k0f
  have k1f := (hcf 1 _ rfl).1
  have k2f := (hcf 2 _ rfl).1
  have k3f := (hcf 3 _ rfl).1
  have k4f := (hcf 4 _ rfl).1
  have k5f := (hcf 5 _ rfl).1
  have k6f := (hcf 6 _ rfl).1
  have Q1f := Lib.hid g1f
  have Q2f := Lib.hid g2f
  have Q3f := Lib.hid g3f
  have Q4f := Lib.hid g4f
  have Q5f := Lib.hid g5f
  have Q6f := Lib.hid g6f
  have Q7f := Lib.hid g7f
  clear hcf hrf g1f g2f g3f g4f g5f g6f g7f
  simp only [Nat.one_mul] at k0f k1f k2f k3f k4f k5f k6f
  have HR0 := Lib.hid (HREC.out _ (List.getElem_mem l0))
  have HR1 := Lib.hid (HREC.out _ (List.getElem_mem l1))
  have hi0 : ((0 : Int) < (x.kids.length : Int)) = True := eq_true (by omega)
  have hi1 : ((1 : Int) < (x.kids.length : Int)) = True := eq_true (by omega)
  have hw1 : IntKind.i64.wrap (x.kind - 4) = (kk : Int) := by rw [IntKind.wrap_i64]; omega
  have hw0 : IntKind.i64.wrap (kk : Int) = (kk : Int) := by rw [IntKind.wrap_i64]; omega
  have hw2 : IntKind.i64.wrap ((kk : Int) + 1) = (kk : Int) + 1 := by rw [IntKind.wrap_i64]; omega
  have g7 : (0 ≤ (kk : Int) + 1) = True := eq_true (by omega)
  have g8 : ((kk : Int) + 1 ≤ 3) = True := eq_true (by omega)
  have g9 : ((kk : Int) ≤ (kk : Int) + 1) = True := eq_true (by omega)
  have g10 : ((kk : Int) + 1).toNat = kk + 1 := by omega
  have g1 : (9223372036854775807 < 1 + U0.size) = False := eq_false (by omega)
  have g2 : (9223372036854775807 < 1 + U0.size + 1) = False := eq_false (by omega)
  have g3 : (9223372036854775807 < 1 + U0.size + 1 + U1.size) = False := eq_false (by omega)
  have g4 : (9223372036854775807 < 1 + U0.size + 1 + U1.size + 1) = False := eq_false (by omega)
  go_enter Tryz.func32, Tryz.ntmps32
  go_wp2
  rw [← HW.out]
  refine wp_region_noPanic ?_
  refine wp_region_held_drew (S := fun w' => (Box7 w' w.heap.size (.int .i64 x.kind) (.int .i64 x.num) (.slice A3 x.index.coefs.length c3) (.int .i64 x.index.const) (.string x.read.arr) (.slice A6 x.read.subs.length c6) (.slice (some ⟨be, oe, none⟩) x.kids.length c7)) ∧ (w'.cell? ⟨be, oe, none⟩ = some (.int .i64 x.kids[0].kind) ∧ w'.cell? ⟨be, oe + 1, none⟩ = some (.int .i64 x.kids[0].num) ∧ w'.cell? ⟨be, oe + 2, none⟩ = some (.slice A3e x.kids[0].index.coefs.length c3e) ∧ w'.cell? ⟨be, oe + 3, none⟩ = some (.int .i64 x.kids[0].index.const) ∧ w'.cell? ⟨be, oe + 4, none⟩ = some (.string x.kids[0].read.arr) ∧ w'.cell? ⟨be, oe + 5, none⟩ = some (.slice A6e x.kids[0].read.subs.length c6e) ∧ w'.cell? ⟨be, oe + 6, none⟩ = some (.slice A7e x.kids[0].kids.length c7e)) ∧ (w'.cell? ⟨be, oe + 7, none⟩ = some (.int .i64 x.kids[1].kind) ∧ w'.cell? ⟨be, oe + 7 + 1, none⟩ = some (.int .i64 x.kids[1].num) ∧ w'.cell? ⟨be, oe + 7 + 2, none⟩ = some (.slice A3f x.kids[1].index.coefs.length c3f) ∧ w'.cell? ⟨be, oe + 7 + 3, none⟩ = some (.int .i64 x.kids[1].index.const) ∧ w'.cell? ⟨be, oe + 7 + 4, none⟩ = some (.string x.kids[1].read.arr) ∧ w'.cell? ⟨be, oe + 7 + 5, none⟩ = some (.slice A6f x.kids[1].read.subs.length c6f) ∧ w'.cell? ⟨be, oe + 7 + 6, none⟩ = some (.slice A7f x.kids[1].kids.length c7f))) (by kernel_rfl) (⟨E0, ⟨k0e, k1e, k2e, k3e, k4e, k5e, k6e⟩, ⟨k0f, k1f, k2f, k3f, k4f, k5f, k6f⟩⟩) (fun hHeld => ?_)
  refine takeR (i := 0) (v := ?_) rfl rfl (by kernel_rfl) (by kernel_rfl) (by kernel_rfl) (fun _ _ _ h => h) ?_ hHeld ?_
  rotate_left 1
  · intro w hSw; (try dsimp only at hSw); go_simp
    try simp only [hi0, hi1, hw0, hw1, hw2, hkk, g7, g8, g9, g10, hsl, hzo, g1, g2, g3, g4, if_false, if_true, and_self, true_and]
    try with_reducible rfl
  simp only [Act.put, aq0, aq1, aq2]
  refine takeR (i := 1) (v := ?_) rfl rfl (by kernel_rfl) (by kernel_rfl) (by kernel_rfl) (fun _ _ _ h => h) ?_ hHeld ?_
  rotate_left 1
  · intro w hSw; (try dsimp only at hSw); go_simp
    try simp only [hi0, hi1, hw0, hw1, hw2, hkk, g7, g8, g9, g10, hsl, hzo, g1, g2, g3, g4, if_false, if_true, and_self, true_and]
    try with_reducible rfl
  simp only [Act.put, aq0, aq1, aq2]
  refine takeR (i := 2) (v := ?_) rfl rfl (by kernel_rfl) (by kernel_rfl) (by kernel_rfl) (fun _ _ _ h => h) ?_ hHeld ?_
  rotate_left 1
  · intro w hSw; (try dsimp only at hSw); go_simp
    try simp only [hi0, hi1, hw0, hw1, hw2, hkk, g7, g8, g9, g10, hsl, hzo, g1, g2, g3, g4, if_false, if_true, and_self, true_and]
    try with_reducible rfl
  simp only [Act.put, aq0, aq1, aq2]
  refine takeR (i := 3) (v := ?_) rfl rfl (by kernel_rfl) (by kernel_rfl) (by kernel_rfl) (fun _ _ _ h => h) ?_ hHeld ?_
  rotate_left 1
  · intro w hSw; (try dsimp only at hSw); go_simp
    try simp only [hi0, hi1, hw0, hw1, hw2, hkk, g7, g8, g9, g10, hsl, hzo, g1, g2, g3, g4, if_false, if_true, and_self, true_and]
    try with_reducible rfl
  simp only [Act.put, aq0, aq1, aq2]
  refine takeR (i := 6) (v := ?_) rfl rfl (by kernel_rfl) (by kernel_rfl) (by kernel_rfl) (fun _ _ _ h => h) ?_ hHeld ?_
  rotate_left 1
  · intro w hSw; (try dsimp only at hSw); go_simp
    try simp only [hi0, hi1, hw0, hw1, hw2, hkk, g7, g8, g9, g10, hsl, hzo, g1, g2, g3, g4, if_false, if_true, and_self, true_and]
    try with_reducible rfl
  simp only [Act.put, aq0, aq1, aq2]
  refine takeR (i := 7) (v := ?_) rfl rfl (by kernel_rfl) (by kernel_rfl) (by kernel_rfl) (fun _ _ _ h => h) ?_ hHeld ?_
  rotate_left 1
  · intro w hSw; (try dsimp only at hSw); go_simp
    try simp only [hi0, hi1, hw0, hw1, hw2, hkk, g7, g8, g9, g10, hsl, hzo, g1, g2, g3, g4, if_false, if_true, and_self, true_and]
    try with_reducible rfl
  simp only [Act.put, aq0, aq1, aq2]
  refine takeR (i := 8) (v := ?_) rfl rfl (by kernel_rfl) (by kernel_rfl) (by kernel_rfl) (fun _ _ _ h => h) ?_ hHeld ?_
  rotate_left 1
  · intro w hSw; (try dsimp only at hSw); go_simp
    try simp only [hi0, hi1, hw0, hw1, hw2, hkk, g7, g8, g9, g10, hsl, hzo, g1, g2, g3, g4, if_false, if_true, and_self, true_and]
    try with_reducible rfl
  simp only [Act.put, aq0, aq1, aq2]
  refine takeR (i := 9) (v := ?_) rfl rfl (by kernel_rfl) (by kernel_rfl) (by kernel_rfl) (fun _ _ _ h => h) ?_ hHeld ?_
  rotate_left 1
  · intro w hSw; (try dsimp only at hSw); go_simp
    try simp only [hi0, hi1, hw0, hw1, hw2, hkk, g7, g8, g9, g10, hsl, hzo, g1, g2, g3, g4, if_false, if_true, and_self, true_and]
    try with_reducible rfl
  simp only [Act.put, aq0, aq1, aq2]
  refine takeR (i := 10) (v := ?_) rfl rfl (by kernel_rfl) (by kernel_rfl) (by kernel_rfl) (fun _ _ _ h => h) ?_ hHeld ?_
  rotate_left 1
  · intro w hSw; (try dsimp only at hSw); go_simp
    try simp only [hi0, hi1, hw0, hw1, hw2, hkk, g7, g8, g9, g10, hsl, hzo, g1, g2, g3, g4, if_false, if_true, and_self, true_and]
    try with_reducible rfl
  simp only [Act.put, aq0, aq1, aq2]
  refine takeR (i := 11) (v := ?_) rfl rfl (by kernel_rfl) (by kernel_rfl) (by kernel_rfl) (fun _ _ _ h => h) ?_ hHeld ?_
  rotate_left 1
  · intro w hSw; (try dsimp only at hSw); go_simp
    try simp only [hi0, hi1, hw0, hw1, hw2, hkk, g7, g8, g9, g10, hsl, hzo, g1, g2, g3, g4, if_false, if_true, and_self, true_and]
    try with_reducible rfl
  simp only [Act.put, aq0, aq1, aq2]
  refine takeR (i := 12) (v := ?_) rfl rfl (by kernel_rfl) (by kernel_rfl) (by kernel_rfl) (fun _ _ _ h => h) ?_ hHeld ?_
  rotate_left 1
  · intro w hSw; (try dsimp only at hSw); go_simp
    try simp only [hi0, hi1, hw0, hw1, hw2, hkk, g7, g8, g9, g10, hsl, hzo, g1, g2, g3, g4, if_false, if_true, and_self, true_and]
    try with_reducible rfl
  simp only [Act.put, aq0, aq1, aq2]
  refine takeR (i := 13) (v := ?_) rfl rfl (by kernel_rfl) (by kernel_rfl) (by kernel_rfl) (fun _ _ _ h => h) ?_ hHeld ?_
  rotate_left 1
  · intro w hSw; (try dsimp only at hSw); go_simp
    try simp only [hi0, hi1, hw0, hw1, hw2, hkk, g7, g8, g9, g10, hsl, hzo, g1, g2, g3, g4, if_false, if_true, and_self, true_and]
    try with_reducible rfl
  simp only [Act.put, aq0, aq1, aq2]
  refine takeR (i := 15) (v := ?_) rfl rfl (by kernel_rfl) (by kernel_rfl) (by kernel_rfl) (fun _ _ _ h => h) ?_ hHeld ?_
  rotate_left 1
  · intro w hSw; (try dsimp only at hSw); go_simp
    try simp only [hi0, hi1, hw0, hw1, hw2, hkk, g7, g8, g9, g10, hsl, hzo, g1, g2, g3, g4, if_false, if_true, and_self, true_and]
    try with_reducible rfl
  simp only [Act.put, aq0, aq1, aq2]
  refine takeR (i := 16) (v := ?_) rfl rfl (by kernel_rfl) (by kernel_rfl) (by kernel_rfl) (fun _ _ _ h => h) ?_ hHeld ?_
  rotate_left 1
  · intro w hSw; (try dsimp only at hSw); go_simp
    try simp only [hi0, hi1, hw0, hw1, hw2, hkk, g7, g8, g9, g10, hsl, hzo, g1, g2, g3, g4, if_false, if_true, and_self, true_and]
    try with_reducible rfl
  simp only [Act.put, aq0, aq1, aq2]
  refine takeR (i := 17) (v := ?_) rfl rfl (by kernel_rfl) (by kernel_rfl) (by kernel_rfl) (fun _ _ _ h => h) ?_ hHeld ?_
  rotate_left 1
  · intro w hSw; (try dsimp only at hSw); go_simp
    try simp only [hi0, hi1, hw0, hw1, hw2, hkk, g7, g8, g9, g10, hsl, hzo, g1, g2, g3, g4, if_false, if_true, and_self, true_and]
    try with_reducible rfl
  simp only [Act.put, aq0, aq1, aq2]
  refine takeR (i := 18) (v := ?_) rfl rfl (by kernel_rfl) (by kernel_rfl) (by kernel_rfl) (fun _ _ _ h => h) ?_ hHeld ?_
  rotate_left 1
  · intro w hSw; (try dsimp only at hSw); go_simp
    try simp only [hi0, hi1, hw0, hw1, hw2, hkk, g7, g8, g9, g10, hsl, hzo, g1, g2, g3, g4, if_false, if_true, and_self, true_and]
    try with_reducible rfl
  simp only [Act.put, aq0, aq1, aq2]
  refine stepR (i := 4) rfl (by kernel_rfl) (wanted_none rfl) (fun K hK => ?_)
  go_simp
  (refine (HR0.out _ _ _ (L - 1) d (Ge.out.drewN 1) hL4 HS0.out).mono ?_; rintro e w1 ⟨rfl, b1⟩; rw [← HU0.out]; replace b1 := of_drew b1)
  go_wp2_with fail
  refine hK.out _ _ (⟨E0.to b1, ⟨by rw [b1.cell hble]; exact k0e, by rw [b1.cell hble]; exact k1e, by rw [b1.cell hble]; exact k2e, by rw [b1.cell hble]; exact k3e, by rw [b1.cell hble]; exact k4e, by rw [b1.cell hble]; exact k5e, by rw [b1.cell hble]; exact k6e⟩, ⟨by rw [b1.cell hble]; exact k0f, by rw [b1.cell hble]; exact k1f, by rw [b1.cell hble]; exact k2f, by rw [b1.cell hble]; exact k3f, by rw [b1.cell hble]; exact k4f, by rw [b1.cell hble]; exact k5f, by rw [b1.cell hble]; exact k6f⟩⟩) (fun hHeld => ?_)
  clear hK K
  try simp only [Act.put, aq0, aq1, aq2]
  refine takeR (i := 5) (v := ?_) rfl rfl (by kernel_rfl) (by kernel_rfl) (by kernel_rfl) (fun _ _ _ h => h) ?_ hHeld ?_
  rotate_left 1
  · intro w hSw; (try dsimp only at hSw); go_simp
    try simp only [hi0, hi1, hw0, hw1, hw2, hkk, g7, g8, g9, g10, hsl, hzo, g1, g2, g3, g4, if_false, if_true, and_self, true_and]
    try with_reducible rfl
  simp only [Act.put, aq0, aq1, aq2]
  refine takeR (i := 14) (v := ?_) rfl rfl (by kernel_rfl) (by kernel_rfl) (by kernel_rfl) (fun _ _ _ h => h) ?_ hHeld ?_
  rotate_left 1
  · intro w hSw; (try dsimp only at hSw); go_simp
    try simp only [hi0, hi1, hw0, hw1, hw2, hkk, g7, g8, g9, g10, hsl, hzo, g1, g2, g3, g4, if_false, if_true, and_self, true_and]
    try with_reducible rfl
  simp only [Act.put, aq0, aq1, aq2]
  refine stepR (i := 19) rfl (by kernel_rfl) (wanted_none rfl) (fun K hK => ?_)
  go_simp
  (refine (HR1.out _ _ _ (L - 1) d (Gf.out.below b1) hL4 HS1.out).mono ?_; rintro e w2 ⟨rfl, b2⟩; rw [← HU1.out]; replace b2 := below_tr b1 b2)
  go_wp2_with fail
  refine hK.out _ _ (⟨E0.to b2, ⟨by rw [b2.cell hble]; exact k0e, by rw [b2.cell hble]; exact k1e, by rw [b2.cell hble]; exact k2e, by rw [b2.cell hble]; exact k3e, by rw [b2.cell hble]; exact k4e, by rw [b2.cell hble]; exact k5e, by rw [b2.cell hble]; exact k6e⟩, ⟨by rw [b2.cell hble]; exact k0f, by rw [b2.cell hble]; exact k1f, by rw [b2.cell hble]; exact k2f, by rw [b2.cell hble]; exact k3f, by rw [b2.cell hble]; exact k4f, by rw [b2.cell hble]; exact k5f, by rw [b2.cell hble]; exact k6f⟩⟩) (fun hHeld => ?_)
  clear hK K
  try simp only [Act.put, aq0, aq1, aq2]
  refine takeR (i := 20) (v := ?_) rfl rfl (by kernel_rfl) (by kernel_rfl) (by kernel_rfl) (fun _ _ _ h => h) ?_ hHeld ?_
  rotate_left 1
  · intro w hSw; (try dsimp only at hSw); go_simp
    try simp only [hi0, hi1, hw0, hw1, hw2, hkk, g7, g8, g9, g10, hsl, hzo, g1, g2, g3, g4, if_false, if_true, and_self, true_and]
    try with_reducible rfl
  simp only [Act.put, aq0, aq1, aq2]
  refine takeR (i := 21) (v := ?_) rfl rfl (by kernel_rfl) (by kernel_rfl) (by kernel_rfl) (fun _ _ _ h => h) ?_ hHeld ?_
  rotate_left 1
  · intro w hSw; (try dsimp only at hSw); go_simp
    try simp only [hi0, hi1, hw0, hw1, hw2, hkk, g7, g8, g9, g10, hsl, hzo, g1, g2, g3, g4, if_false, if_true, and_self, true_and]
    try with_reducible rfl
  simp only [Act.put, aq0, aq1, aq2]
  refine takeR (i := 22) (v := ?_) rfl rfl (by kernel_rfl) (by kernel_rfl) (by kernel_rfl) (fun _ _ _ h => h) ?_ hHeld ?_
  rotate_left 1
  · intro w hSw; (try dsimp only at hSw); go_simp
    try simp only [hi0, hi1, hw0, hw1, hw2, hkk, g7, g8, g9, g10, hsl, hzo, g1, g2, g3, g4, if_false, if_true, and_self, true_and]
    try with_reducible rfl
  simp only [Act.put, aq0, aq1, aq2]
  refine wpAnyH_done (by kernel_rfl) ?_ _
  refine NoPanic.normal ?_
  have Sx : Below w.heap.size w w2 := below_tr B0 b2
  go_wp2
  go_ret
  exact ⟨by rw [HX.out]; first | rfl | (simp only [ByteArray.append_assoc]; rfl), Sx⟩
theorem l3Text_c {w : World} {x : Ex} {cs : List Value} {bs : List Nat} {L : Nat} {d : Int} (h : Rep w x.d cs bs) (hL : L ≤ 5) (hs : exShape x d L = true) :
    Calls Tryz.prog 32 #[.agg cs.toArray] w fun e w' => e = .returned (.string (strOf (exL x))) ∧ Below w.heap.size w w' :=
  Ex.ind (P := l3TextX) (fun x hx => l3Text_r hx) x w cs bs L d h hL hs
def exprTextX (x : Ex) : Prop := ∀ (w : World) (cs : List Value) (bs : List Nat) (L : Nat) (d : Int), Rep w x.d cs bs → L ≤ 5 → exShape x d L = true →
    Calls Tryz.prog 105 #[.agg cs.toArray] w fun e w' => e = .returned (.string (strOf (exL x))) ∧ Below w.heap.size w w'
set_option maxRecDepth 100000 in
set_option maxHeartbeats 8000000 in
theorem exprText_r {x : Ex} (hrec : ∀ y ∈ x.kids, exprTextX y) : exprTextX x := by
  intro w cs bs L d h hL5 hsh
  have HREC := Lib.hid hrec; clear hrec
  have HV := Lib.hid (exL_un x)
  obtain ⟨p1, p2, p3, _, p4⟩ := exTx_parts hsh
  have HP1 := Lib.hid p1; have HP2 := Lib.hid p2; have HP3 := Lib.hid p3
  clear p1 p2 p3 hsh
  obtain ⟨A3, c3, A6, c6, A7, c7, d3, d6, d7, rfl, rfl, g1, g2, g3, g4, g5, g6, g7⟩ := Rep.ex_iff.1 h
  have Gkind := Lib.hid g1
  have Gnum := Lib.hid g2
  have Gindex := Lib.hid ((Rep.aff_iff2 (x := x.index)).2 ⟨_, _, _, rfl, rfl, g3, g4⟩)
  have Gread := Lib.hid ((Rep.acc_iff (x := x.read)).2 ⟨_, _, _, rfl, rfl, g5, g6⟩)
  have Gkids := Lib.hid g7
  clear h g1 g2 g3 g4 g5 g6 g7
  by_cases e1 : x.kind = 1
  · have q1 : (x.kind == 1) = true := ieq_t e1
    obtain ⟨n, hn, hnum⟩ := HP1.out e1
    have HX := Lib.hid (show strOf (exL x) = strOf (decL n) by rw [HV.out, if_pos e1, hnum, Int.toNat_natCast]); clear HV
    have HN := Lib.hid hnum
    clear e1 p4 hnum
    go_enter Tryz.func105, Tryz.ntmps105
    go_wp2_with fail
    rw [HN.out]
    refine (itoa_c hn).mono ?_
    rintro e w1 ⟨rfl, rfl⟩
    go_wp2
    go_ret
    exact ⟨by rw [HX.out]; rfl, bel⟩
  have q1 : (x.kind == 1) = false := ieq_f e1
  by_cases e2 : x.kind = 2
  · have q2 : (x.kind == 2) = true := ieq_t e2
    have hb := affOk_bds (HP2.out e2)
    have HB := Lib.hid hb
    have hl := affI_len hb.1
    obtain ⟨T, hT⟩ : ∃ T, T = affI x.index := ⟨_, rfl⟩
    have HX := Lib.hid (show strOf (exL x) = ((⟨#[123]⟩ : ByteArray) ++ strOf T) ++ (⟨#[125]⟩ : ByteArray) by rw [HV.out, if_neg e1, if_pos e2, ← strOf_app, ← strOf_app, ByteArray.append_assoc, hT]; rfl); clear HV
    have HA := Lib.hid (show affI x.index = T by rw [hT])
    rw [← hT] at hl
    have hls : (strOf T).size ≤ 23 := by rw [strOf_size]; exact hl
    clear e1 e2 p4 hT hb hl
    go_enter Tryz.func105, Tryz.ntmps105
    go_wp2_with fail
    refine (affineText_c (Gindex.out.below bel) HB.out.1 HB.out.2.1 HB.out.2.2).mono ?_
    rintro e w1 ⟨rfl, b1⟩
    rw [HA.out]
    have S1 : Below w.heap.size w w1 := bel
    go_wp2
    go_ret
    exact ⟨by rw [HX.out]; first | rfl | (simp only [ByteArray.append_assoc]; rfl), S1⟩
  have q2 : (x.kind == 2) = false := ieq_f e2
  by_cases e3 : x.kind = 3
  · have q3 : (x.kind == 3) = true := ieq_t e3
    have HX := Lib.hid (show strOf (exL x) = strOf (accL x.read) by rw [HV.out, if_neg e1, if_neg e2, if_pos e3]); clear HV
    have HR := Lib.hid (HP3.out e3)
    clear e1 e2 e3 p4
    go_enter Tryz.func105, Tryz.ntmps105
    go_wp2_with fail
    refine (accessText_c (Gread.out.below bel) HR.out.1 HR.out.2).mono ?_
    rintro e w1 ⟨rfl, b1⟩
    have S1 : Below w.heap.size w w1 := bel
    go_wp2
    go_ret
    exact ⟨by rw [HX.out]; first | rfl | (simp only [ByteArray.append_assoc]; rfl), S1⟩
  have q3 : (x.kind == 3) = false := ieq_f e3
  obtain ⟨⟨ha, hb⟩, hl2, hk⟩ := (show _ ∧ _ from (((p4.resolve_left e1).resolve_left e2).resolve_left e3))
  have l0 : 0 < x.kids.length := by omega
  have l1 : 1 < x.kids.length := by omega
  obtain ⟨kk, hk3, hkk⟩ : ∃ kk : Nat, kk < 3 ∧ x.kind - 4 = (kk : Int) := ⟨(x.kind - 4).toNat, by omega, by omega⟩
  have hs0 := hk _ (List.getElem_mem l0)
  have hs1 := hk _ (List.getElem_mem l1)
  have hb0 := exL_le hs0 (by omega)
  have hb1 := exL_le hs1 (by omega)
  have hL4 : L - 1 ≤ 5 := by omega
  obtain ⟨U0, hU0⟩ : ∃ u, u = strOf (exL x.kids[0]) := ⟨_, rfl⟩
  obtain ⟨U1, hU1⟩ : ∃ u, u = strOf (exL x.kids[1]) := ⟨_, rfl⟩
  obtain ⟨SO, hSO⟩ : ∃ u, u = strOf (opL x.kind) := ⟨_, rfl⟩
  have hz0 : U0.size ≤ 1760 := by rw [hU0, strOf_size]; exact hb0
  have hz1 : U1.size ≤ 1760 := by rw [hU1, strOf_size]; exact hb1
  have hzo : SO.size = 1 := by rw [hSO, strOf_size]; unfold opL; split <;> (try split) <;> rfl
  have hsl : (⟨#[43, 45, 42]⟩ : ByteArray).extract kk (kk + 1) = SO := by
    rw [hSO, show x.kind = (kk : Int) + 4 by omega]
    have : ∀ k : Fin 3, (⟨#[43, 45, 42]⟩ : ByteArray).extract k.val (k.val + 1) = strOf (opL ((k.val : Int) + 4)) := by decide
    exact this ⟨kk, hk3⟩
  have HX := Lib.hid (show strOf (exL x) = (((((⟨#[40]⟩ : ByteArray) ++ U0) ++ SO) ++ U1) ++ (⟨#[41]⟩ : ByteArray)) by
    have hkl : x.kids = [x.kids[0], x.kids[1]] := by
      obtain ⟨a, b, hab⟩ := two_kids hl2
      simp only [hab]; rfl
    rw [HV.out, if_neg e1, if_neg e2, if_neg e3, hkl, exsL, exrL, exrL, hU0, hU1, hSO, ← strOf_app, ← strOf_app, ← strOf_app, ← strOf_app, ← strOf_app]
    simp only [ByteArray.append_assoc, List.getElem_cons_zero, List.getElem_cons_succ]; rfl); clear HV
  have HS0 := Lib.hid hs0; have HS1 := Lib.hid hs1
  have HU0 := Lib.hid hU0; have HU1 := Lib.hid hU1
  clear hU0 hU1 hSO hs0 hs1 hb0 hb1 e1 e2 e3 p4 hk hl2
  obtain ⟨W, hW⟩ : ∃ W, W = w.alloc (.cells #[.int .i64 x.kind, .int .i64 x.num, .slice A3 x.index.coefs.length c3, .int .i64 x.index.const, .string x.read.arr, .slice A6 x.read.subs.length c6, .slice A7 x.kids.length c7] 49) := ⟨_, rfl⟩
  have E0 : Box7 W w.heap.size (.int .i64 x.kind) (.int .i64 x.num) (.slice A3 x.index.coefs.length c3) (.int .i64 x.index.const) (.string x.read.arr) (.slice A6 x.read.subs.length c6) (.slice A7 x.kids.length c7) := by
    rw [hW]; refine ⟨?_, ?_, ?_, ?_, ?_, ?_, ?_⟩ <;> go_simp
  have B0 : Below w.heap.size w W := by rw [hW]; exact bel
  have HW := Lib.hid hW; clear hW
  have GK := Lib.hid (Gkids.out.below B0)
  have GK2 := Lib.hid GK.out
  clear Gindex Gread Gkids Gkind Gnum
  obtain ⟨be, oe, cse, le, rfl, hble, hre, _, _, hce⟩ := GK.out.sls_at Ex.d_size (k := 0) l0
  have Ge := Lib.hid hre
  obtain ⟨A3e, c3e, A6e, c6e, A7e, c7e, d3e, d6e, d7e, rfl, rfl, g1e, g2e, g3e, g4e, g5e, g6e, g7e⟩ := Rep.ex_iff.1 hre
  have k0e := (hce 0 _ rfl).1; rw [Nat.add_zero] at k0e
  have k1e := (hce 1 _ rfl).1
  have k2e := (hce 2 _ rfl).1
  have k3e := (hce 3 _ rfl).1
  have k4e := (hce 4 _ rfl).1
  have k5e := (hce 5 _ rfl).1
  have k6e := (hce 6 _ rfl).1
  have Q1e := Lib.hid g1e
  have Q2e := Lib.hid g2e
  have Q3e := Lib.hid g3e
  have Q4e := Lib.hid g4e
  have Q5e := Lib.hid g5e
  have Q6e := Lib.hid g6e
  have Q7e := Lib.hid g7e
  clear hce hre g1e g2e g3e g4e g5e g6e g7e
  simp only [Nat.zero_mul, Nat.add_zero] at k0e k1e k2e k3e k4e k5e k6e
  obtain ⟨bf, of, csf, lf, heqf, hblf, hrf, _, _, hcf⟩ := GK2.out.sls_at Ex.d_size (k := 1) l1
  obtain ⟨rfl, rfl⟩ : be = bf ∧ oe = of := by simpa using heqf
  have Gf := Lib.hid hrf
  obtain ⟨A3f, c3f, A6f, c6f, A7f, c7f, d3f, d6f, d7f, rfl, rfl, g1f, g2f, g3f, g4f, g5f, g6f, g7f⟩ := Rep.ex_iff.1 hrf
  have k0f := (hcf 0 _ rfl).1; rw [Nat.add_zero] at k0f
  have k1f := (hcf 1 _ rfl).1
  have k2f := (hcf 2 _ rfl).1
  have k3f := (hcf 3 _ rfl).1
  have k4f := (hcf 4 _ rfl).1
  have k5f := (hcf 5 _ rfl).1
  have k6f := (hcf 6 _ rfl).1
  have Q1f := Lib.hid g1f
  have Q2f := Lib.hid g2f
  have Q3f := Lib.hid g3f
  have Q4f := Lib.hid g4f
  have Q5f := Lib.hid g5f
  have Q6f := Lib.hid g6f
  have Q7f := Lib.hid g7f
  clear hcf hrf g1f g2f g3f g4f g5f g6f g7f
  simp only [Nat.one_mul] at k0f k1f k2f k3f k4f k5f k6f
  have HR0 := Lib.hid (HREC.out _ (List.getElem_mem l0))
  have HR1 := Lib.hid (HREC.out _ (List.getElem_mem l1))
  have hi0 : ((0 : Int) < (x.kids.length : Int)) = True := eq_true (by omega)
  have hi1 : ((1 : Int) < (x.kids.length : Int)) = True := eq_true (by omega)
  have hw1 : IntKind.i64.wrap (x.kind - 4) = (kk : Int) := by rw [IntKind.wrap_i64]; omega
  have hw0 : IntKind.i64.wrap (kk : Int) = (kk : Int) := by rw [IntKind.wrap_i64]; omega
  have hw2 : IntKind.i64.wrap ((kk : Int) + 1) = (kk : Int) + 1 := by rw [IntKind.wrap_i64]; omega
  have g7 : (0 ≤ (kk : Int) + 1) = True := eq_true (by omega)
  have g8 : ((kk : Int) + 1 ≤ 3) = True := eq_true (by omega)
  have g9 : ((kk : Int) ≤ (kk : Int) + 1) = True := eq_true (by omega)
  have g10 : ((kk : Int) + 1).toNat = kk + 1 := by omega
  have g1 : (9223372036854775807 < 1 + U0.size) = False := eq_false (by omega)
  have g2 : (9223372036854775807 < 1 + U0.size + 1) = False := eq_false (by omega)
  have g3 : (9223372036854775807 < 1 + U0.size + 1 + U1.size) = False := eq_false (by omega)
  have g4 : (9223372036854775807 < 1 + U0.size + 1 + U1.size + 1) = False := eq_false (by omega)
  go_enter Tryz.func105, Tryz.ntmps105
  go_wp2
  rw [← HW.out]
  refine wp_region_noPanic ?_
  refine wp_region_held_drew (S := fun w' => (Box7 w' w.heap.size (.int .i64 x.kind) (.int .i64 x.num) (.slice A3 x.index.coefs.length c3) (.int .i64 x.index.const) (.string x.read.arr) (.slice A6 x.read.subs.length c6) (.slice (some ⟨be, oe, none⟩) x.kids.length c7)) ∧ (w'.cell? ⟨be, oe, none⟩ = some (.int .i64 x.kids[0].kind) ∧ w'.cell? ⟨be, oe + 1, none⟩ = some (.int .i64 x.kids[0].num) ∧ w'.cell? ⟨be, oe + 2, none⟩ = some (.slice A3e x.kids[0].index.coefs.length c3e) ∧ w'.cell? ⟨be, oe + 3, none⟩ = some (.int .i64 x.kids[0].index.const) ∧ w'.cell? ⟨be, oe + 4, none⟩ = some (.string x.kids[0].read.arr) ∧ w'.cell? ⟨be, oe + 5, none⟩ = some (.slice A6e x.kids[0].read.subs.length c6e) ∧ w'.cell? ⟨be, oe + 6, none⟩ = some (.slice A7e x.kids[0].kids.length c7e)) ∧ (w'.cell? ⟨be, oe + 7, none⟩ = some (.int .i64 x.kids[1].kind) ∧ w'.cell? ⟨be, oe + 7 + 1, none⟩ = some (.int .i64 x.kids[1].num) ∧ w'.cell? ⟨be, oe + 7 + 2, none⟩ = some (.slice A3f x.kids[1].index.coefs.length c3f) ∧ w'.cell? ⟨be, oe + 7 + 3, none⟩ = some (.int .i64 x.kids[1].index.const) ∧ w'.cell? ⟨be, oe + 7 + 4, none⟩ = some (.string x.kids[1].read.arr) ∧ w'.cell? ⟨be, oe + 7 + 5, none⟩ = some (.slice A6f x.kids[1].read.subs.length c6f) ∧ w'.cell? ⟨be, oe + 7 + 6, none⟩ = some (.slice A7f x.kids[1].kids.length c7f))) (by kernel_rfl) (⟨E0, ⟨k0e, k1e, k2e, k3e, k4e, k5e, k6e⟩, ⟨k0f, k1f, k2f, k3f, k4f, k5f, k6f⟩⟩) (fun hHeld => ?_)
  refine takeR (i := 0) (v := ?_) rfl rfl (by kernel_rfl) (by kernel_rfl) (by kernel_rfl) (fun _ _ _ h => h) ?_ hHeld ?_
  rotate_left 1
  · intro w hSw; (try dsimp only at hSw); go_simp
    try simp only [hi0, hi1, hw0, hw1, hw2, hkk, g7, g8, g9, g10, hsl, hzo, g1, g2, g3, g4, if_false, if_true, and_self, true_and]
    try with_reducible rfl
  simp only [Act.put, aq0, aq1, aq2]
  refine takeR (i := 1) (v := ?_) rfl rfl (by kernel_rfl) (by kernel_rfl) (by kernel_rfl) (fun _ _ _ h => h) ?_ hHeld ?_
  rotate_left 1
  · intro w hSw; (try dsimp only at hSw); go_simp
    try simp only [hi0, hi1, hw0, hw1, hw2, hkk, g7, g8, g9, g10, hsl, hzo, g1, g2, g3, g4, if_false, if_true, and_self, true_and]
    try with_reducible rfl
  simp only [Act.put, aq0, aq1, aq2]
  refine takeR (i := 2) (v := ?_) rfl rfl (by kernel_rfl) (by kernel_rfl) (by kernel_rfl) (fun _ _ _ h => h) ?_ hHeld ?_
  rotate_left 1
  · intro w hSw; (try dsimp only at hSw); go_simp
    try simp only [hi0, hi1, hw0, hw1, hw2, hkk, g7, g8, g9, g10, hsl, hzo, g1, g2, g3, g4, if_false, if_true, and_self, true_and]
    try with_reducible rfl
  simp only [Act.put, aq0, aq1, aq2]
  refine takeR (i := 3) (v := ?_) rfl rfl (by kernel_rfl) (by kernel_rfl) (by kernel_rfl) (fun _ _ _ h => h) ?_ hHeld ?_
  rotate_left 1
  · intro w hSw; (try dsimp only at hSw); go_simp
    try simp only [hi0, hi1, hw0, hw1, hw2, hkk, g7, g8, g9, g10, hsl, hzo, g1, g2, g3, g4, if_false, if_true, and_self, true_and]
    try with_reducible rfl
  simp only [Act.put, aq0, aq1, aq2]
  refine takeR (i := 6) (v := ?_) rfl rfl (by kernel_rfl) (by kernel_rfl) (by kernel_rfl) (fun _ _ _ h => h) ?_ hHeld ?_
  rotate_left 1
  · intro w hSw; (try dsimp only at hSw); go_simp
    try simp only [hi0, hi1, hw0, hw1, hw2, hkk, g7, g8, g9, g10, hsl, hzo, g1, g2, g3, g4, if_false, if_true, and_self, true_and]
    try with_reducible rfl
  simp only [Act.put, aq0, aq1, aq2]
  refine takeR (i := 7) (v := ?_) rfl rfl (by kernel_rfl) (by kernel_rfl) (by kernel_rfl) (fun _ _ _ h => h) ?_ hHeld ?_
  rotate_left 1
  · intro w hSw; (try dsimp only at hSw); go_simp
    try simp only [hi0, hi1, hw0, hw1, hw2, hkk, g7, g8, g9, g10, hsl, hzo, g1, g2, g3, g4, if_false, if_true, and_self, true_and]
    try with_reducible rfl
  simp only [Act.put, aq0, aq1, aq2]
  refine takeR (i := 8) (v := ?_) rfl rfl (by kernel_rfl) (by kernel_rfl) (by kernel_rfl) (fun _ _ _ h => h) ?_ hHeld ?_
  rotate_left 1
  · intro w hSw; (try dsimp only at hSw); go_simp
    try simp only [hi0, hi1, hw0, hw1, hw2, hkk, g7, g8, g9, g10, hsl, hzo, g1, g2, g3, g4, if_false, if_true, and_self, true_and]
    try with_reducible rfl
  simp only [Act.put, aq0, aq1, aq2]
  refine takeR (i := 9) (v := ?_) rfl rfl (by kernel_rfl) (by kernel_rfl) (by kernel_rfl) (fun _ _ _ h => h) ?_ hHeld ?_
  rotate_left 1
  · intro w hSw; (try dsimp only at hSw); go_simp
    try simp only [hi0, hi1, hw0, hw1, hw2, hkk, g7, g8, g9, g10, hsl, hzo, g1, g2, g3, g4, if_false, if_true, and_self, true_and]
    try with_reducible rfl
  simp only [Act.put, aq0, aq1, aq2]
  refine takeR (i := 11) (v := ?_) rfl rfl (by kernel_rfl) (by kernel_rfl) (by kernel_rfl) (fun _ _ _ h => h) ?_ hHeld ?_
  rotate_left 1
  · intro w hSw; (try dsimp only at hSw); go_simp
    try simp only [hi0, hi1, hw0, hw1, hw2, hkk, g7, g8, g9, g10, hsl, hzo, g1, g2, g3, g4, if_false, if_true, and_self, true_and]
    try with_reducible rfl
  simp only [Act.put, aq0, aq1, aq2]
  refine takeR (i := 12) (v := ?_) rfl rfl (by kernel_rfl) (by kernel_rfl) (by kernel_rfl) (fun _ _ _ h => h) ?_ hHeld ?_
  rotate_left 1
  · intro w hSw; (try dsimp only at hSw); go_simp
    try simp only [hi0, hi1, hw0, hw1, hw2, hkk, g7, g8, g9, g10, hsl, hzo, g1, g2, g3, g4, if_false, if_true, and_self, true_and]
    try with_reducible rfl
  simp only [Act.put, aq0, aq1, aq2]
  refine takeR (i := 13) (v := ?_) rfl rfl (by kernel_rfl) (by kernel_rfl) (by kernel_rfl) (fun _ _ _ h => h) ?_ hHeld ?_
  rotate_left 1
  · intro w hSw; (try dsimp only at hSw); go_simp
    try simp only [hi0, hi1, hw0, hw1, hw2, hkk, g7, g8, g9, g10, hsl, hzo, g1, g2, g3, g4, if_false, if_true, and_self, true_and]
    try with_reducible rfl
  simp only [Act.put, aq0, aq1, aq2]
  refine takeR (i := 14) (v := ?_) rfl rfl (by kernel_rfl) (by kernel_rfl) (by kernel_rfl) (fun _ _ _ h => h) ?_ hHeld ?_
  rotate_left 1
  · intro w hSw; (try dsimp only at hSw); go_simp
    try simp only [hi0, hi1, hw0, hw1, hw2, hkk, g7, g8, g9, g10, hsl, hzo, g1, g2, g3, g4, if_false, if_true, and_self, true_and]
    try with_reducible rfl
  simp only [Act.put, aq0, aq1, aq2]
  refine stepR (i := 4) rfl (by kernel_rfl) (wanted_none rfl) (fun K hK => ?_)
  go_simp
  (refine (HR0.out _ _ _ (L - 1) d (Ge.out.drewN 1) hL4 HS0.out).mono ?_; rintro e w1 ⟨rfl, b1⟩; rw [← HU0.out]; replace b1 := of_drew b1)
  go_wp2_with fail
  refine hK.out _ _ (⟨E0.to b1, ⟨by rw [b1.cell hble]; exact k0e, by rw [b1.cell hble]; exact k1e, by rw [b1.cell hble]; exact k2e, by rw [b1.cell hble]; exact k3e, by rw [b1.cell hble]; exact k4e, by rw [b1.cell hble]; exact k5e, by rw [b1.cell hble]; exact k6e⟩, ⟨by rw [b1.cell hble]; exact k0f, by rw [b1.cell hble]; exact k1f, by rw [b1.cell hble]; exact k2f, by rw [b1.cell hble]; exact k3f, by rw [b1.cell hble]; exact k4f, by rw [b1.cell hble]; exact k5f, by rw [b1.cell hble]; exact k6f⟩⟩) (fun hHeld => ?_)
  clear hK K
  try simp only [Act.put, aq0, aq1, aq2]
  refine takeR (i := 5) (v := ?_) rfl rfl (by kernel_rfl) (by kernel_rfl) (by kernel_rfl) (fun _ _ _ h => h) ?_ hHeld ?_
  rotate_left 1
  · intro w hSw; (try dsimp only at hSw); go_simp
    try simp only [hi0, hi1, hw0, hw1, hw2, hkk, g7, g8, g9, g10, hsl, hzo, g1, g2, g3, g4, if_false, if_true, and_self, true_and]
    try with_reducible rfl
  simp only [Act.put, aq0, aq1, aq2]
  refine takeR (i := 10) (v := ?_) rfl rfl (by kernel_rfl) (by kernel_rfl) (by kernel_rfl) (fun _ _ _ h => h) ?_ hHeld ?_
  rotate_left 1
  · intro w hSw; (try dsimp only at hSw); go_simp
    try simp only [hi0, hi1, hw0, hw1, hw2, hkk, g7, g8, g9, g10, hsl, hzo, g1, g2, g3, g4, if_false, if_true, and_self, true_and]
    try with_reducible rfl
  simp only [Act.put, aq0, aq1, aq2]
  refine stepR (i := 15) rfl (by kernel_rfl) (wanted_none rfl) (fun K hK => ?_)
  go_simp
  (refine (HR1.out _ _ _ (L - 1) d (Gf.out.below b1) hL4 HS1.out).mono ?_; rintro e w2 ⟨rfl, b2⟩; rw [← HU1.out]; replace b2 := below_tr b1 b2)
  go_wp2_with fail
  refine hK.out _ _ (⟨E0.to b2, ⟨by rw [b2.cell hble]; exact k0e, by rw [b2.cell hble]; exact k1e, by rw [b2.cell hble]; exact k2e, by rw [b2.cell hble]; exact k3e, by rw [b2.cell hble]; exact k4e, by rw [b2.cell hble]; exact k5e, by rw [b2.cell hble]; exact k6e⟩, ⟨by rw [b2.cell hble]; exact k0f, by rw [b2.cell hble]; exact k1f, by rw [b2.cell hble]; exact k2f, by rw [b2.cell hble]; exact k3f, by rw [b2.cell hble]; exact k4f, by rw [b2.cell hble]; exact k5f, by rw [b2.cell hble]; exact k6f⟩⟩) (fun hHeld => ?_)
  clear hK K
  try simp only [Act.put, aq0, aq1, aq2]
  refine takeR (i := 16) (v := ?_) rfl rfl (by kernel_rfl) (by kernel_rfl) (by kernel_rfl) (fun _ _ _ h => h) ?_ hHeld ?_
  rotate_left 1
  · intro w hSw; (try dsimp only at hSw); go_simp
    try simp only [hi0, hi1, hw0, hw1, hw2, hkk, g7, g8, g9, g10, hsl, hzo, g1, g2, g3, g4, if_false, if_true, and_self, true_and]
    try with_reducible rfl
  simp only [Act.put, aq0, aq1, aq2]
  refine takeR (i := 17) (v := ?_) rfl rfl (by kernel_rfl) (by kernel_rfl) (by kernel_rfl) (fun _ _ _ h => h) ?_ hHeld ?_
  rotate_left 1
  · intro w hSw; (try dsimp only at hSw); go_simp
    try simp only [hi0, hi1, hw0, hw1, hw2, hkk, g7, g8, g9, g10, hsl, hzo, g1, g2, g3, g4, if_false, if_true, and_self, true_and]
    try with_reducible rfl
  simp only [Act.put, aq0, aq1, aq2]
  refine takeR (i := 18) (v := ?_) rfl rfl (by kernel_rfl) (by kernel_rfl) (by kernel_rfl) (fun _ _ _ h => h) ?_ hHeld ?_
  rotate_left 1
  · intro w hSw; (try dsimp only at hSw); go_simp
    try simp only [hi0, hi1, hw0, hw1, hw2, hkk, g7, g8, g9, g10, hsl, hzo, g1, g2, g3, g4, if_false, if_true, and_self, true_and]
    try with_reducible rfl
  simp only [Act.put, aq0, aq1, aq2]
  refine wpAnyH_done (by kernel_rfl) ?_ _
  refine NoPanic.normal ?_
  have Sx : Below w.heap.size w w2 := below_tr B0 b2
  go_wp2
  go_ret
  exact ⟨by rw [HX.out]; first | rfl | (simp only [ByteArray.append_assoc]; rfl), Sx⟩
theorem exprText_c {w : World} {x : Ex} {cs : List Value} {bs : List Nat} {L : Nat} {d : Int} (h : Rep w x.d cs bs) (hL : L ≤ 5) (hs : exShape x d L = true) :
    Calls Tryz.prog 105 #[.agg cs.toArray] w fun e w' => e = .returned (.string (strOf (exL x))) ∧ Below w.heap.size w w' :=
  Ex.ind (P := exprTextX) (fun x hx => exprText_r hx) x w cs bs L d h hL hs
end Go.Proofs.YtbhniobgaoncaaaGreatDoor
