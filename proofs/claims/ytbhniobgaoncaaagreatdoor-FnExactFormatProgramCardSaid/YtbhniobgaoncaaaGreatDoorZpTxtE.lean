/- Texts of bounds and of nests, of both. -/
import Derived.Test.YtbhniobgaoncaaaGreatDoorZpTxtD
import Derived.Test.YtbhniobgaoncaaaGreatDoorZpNestValid
set_option linter.all false
set_option linter.unusedSimpArgs false
set_option linter.unusedVariables false
namespace Go.Proofs.YtbhniobgaoncaaaGreatDoor
open Go.ChangeShapes Go.WideShapes Go.ChangeAt Go.RowKit Go.Deep

theorem sideL_snoc (a : Aff) : ∀ l : List Aff, sideL (l ++ [a]) = if l = [] then affI a else sideL l ++ ([44] ++ affI a)
  | [] => rfl
  | [b] => by simp [sideL]
  | b :: d :: l => by
    have ih := sideL_snoc a (d :: l)
    rw [if_neg (by simp)] at ih ⊢
    show sideL (b :: (d :: l ++ [a])) = _
    rw [List.cons_append, sideL, ← List.cons_append, ih]
    simp [sideL]
/-- few bounds, each valid -/
def SdOk (al : List Aff) : Prop := al.length ≤ 4 ∧ ∀ a ∈ al, affOk a = true
set_option maxRecDepth 100000 in
set_option maxHeartbeats 4000000 in
theorem l2SideText_c {xs : List Aff} {w : World} {A : Option Addr} {n c : Nat} {bs : List Nat} (h : Rep w (sls Aff.d xs) [.slice A n c] bs) (hs : SdOk xs) :
    Calls Tryz.prog 74 #[.slice A n c] w fun e w' => e = .returned (.string (strOf (sideL xs))) ∧ Below w.heap.size w w' := by
  obtain ⟨hl, hs⟩ := hs
  obtain ⟨rfl, h2, h3⟩ := h.sls_len
  have hn : xs.length ≤ 9223372036854775807 := Nat.le_trans h2 h3
  have H := Lib.hid h; clear h h2 h3
  have HS := Lib.hid hs; clear hs
  go_enter Tryz.func74, Tryz.ntmps74
  go_wp2
  go_loopw [3, 4] (fun u i wr => ∃ j : Nat, j ≤ xs.length ∧ i = .int .i64 j ∧ u = .string (strOf (sideL (xs.take j))) ∧ Below w.heap.size w wr) (fun _ i _ => xs.length - (intOf i).toNat)
  case atStart => exact ⟨0, Nat.zero_le _, rfl, rfl, Below.refl _ _⟩
  case round =>
    obtain ⟨j, hj, rfl, rfl, hb⟩ := hrel
    by_cases hlt : j < xs.length
    · have HX := Lib.hid (affOk_bds (HS.out _ (List.getElem_mem hlt)))
      have htl := affI_len HX.out.1
      have hsl := sideL_len (al := xs.take j) (fun a ha => HS.out a (List.mem_of_mem_take ha))
      rw [List.length_take] at hsl
      have hst := sideL_snoc xs[j] (xs.take j)
      rw [← List.take_succ_eq_append_getElem hlt] at hst
      obtain ⟨be, oe, cse, le, rfl, hble, hre, _, _, hce⟩ := (H.out.below hb).sls_at Aff.d_size (k := j) hlt
      have Ge := Lib.hid hre
      obtain ⟨A1e, c1e, d1e, rfl, rfl, g1e, g2e⟩ := Rep.aff_iff2.1 hre
      have k0e := (hce 0 _ rfl).1; rw [Nat.add_zero] at k0e
      have k1e := (hce 1 _ rfl).1
      have Q1e := Lib.hid g1e
      have Q2e := Lib.hid g2e
      clear hce hre g1e g2e
      have HAF := Lib.hid (affI_eq xs[j])
      have hG : (strOf (affI xs[j])).size ≤ 23 := by rw [strOf_size]; exact htl
      have hS : (strOf (sideL (xs.take j))).size ≤ 100 := by rw [strOf_size]; omega
      have HL := Lib.hid (show Calls Tryz.prog 75 #[.agg #[.slice A1e xs[j].coefs.length c1e, .int .i64 xs[j].const]] wr fun e w' => e = .returned (.string (strOf (affI xs[j]))) ∧ Below wr.heap.size wr w' by rw [HAF.out]; exact l1Text_c Ge.out HX.out.1 HX.out.2.1 HX.out.2.2)
      obtain ⟨G, hGe⟩ : ∃ G, G = affI xs[j] := ⟨_, rfl⟩
      obtain ⟨T, hTe⟩ : ∃ T, T = sideL (xs.take j) := ⟨_, rfl⟩
      rw [← hGe] at HL hG
      rw [← hTe] at hS ⊢
      clear htl hsl
      by_cases h0 : j = 0
      · have hz : ¬ (0 : Int) < (j : Int) := by omega
        have h00 : xs.take j = [] := List.take_eq_nil_iff.2 (.inl h0)
        have HD := Lib.hid (show sideL (xs.take (j + 1)) = T ++ G by rw [hst, if_pos h00, hTe, hGe, h00]; rfl)
        clear hst hGe hTe h00 h0
        have hsum : (strOf T).size + (strOf G).size ≤ 9223372036854775807 := by omega
        go_wp2_with fail
        refine HL.out.mono ?_
        rintro e w1 ⟨rfl, b1⟩
        go_wp2
        go_roundw
        case rel => exact ⟨j + 1, by omega, by go_num, by rw [HD.out, ← strOf_app], below_tr hb b1⟩
        case measure => simp [intOf]; omega
      · have hz : (0 : Int) < (j : Int) := by omega
        have HD := Lib.hid (show sideL (xs.take (j + 1)) = (T ++ [44]) ++ G by rw [hst, if_neg (fun e => by rcases List.take_eq_nil_iff.1 e with e | e; (exact h0 e); (rw [e] at hlt; simp at hlt)), hTe, hGe]; simp)
        clear hst hGe hTe h0
        have hap : strOf T ++ (⟨#[44]⟩ : ByteArray) = strOf (T ++ [44]) := by rw [← strOf_app]; rfl
        have hS2 : (strOf (T ++ [44])).size ≤ 101 := by rw [strOf_size] at hS ⊢; simp; omega
        have hsum : (strOf (T ++ [44])).size + (strOf G).size ≤ 9223372036854775807 := by omega
        go_wp2_with fail
        refine HL.out.mono ?_
        rintro e w1 ⟨rfl, b1⟩
        go_wp2
        go_roundw
        case rel => exact ⟨j + 1, by omega, by go_num, by rw [HD.out, strOf_app], below_tr hb b1⟩
        case measure => simp [intOf]; omega
    · have hjj : j = xs.length := by omega
      subst hjj
      have HT := Lib.hid (show sideL (xs.take xs.length) = sideL xs by rw [List.take_length])
      obtain ⟨T, hTe⟩ : ∃ T, T = sideL (xs.take xs.length) := ⟨_, rfl⟩
      rw [← hTe] at HT ⊢
      clear hTe
      go_wp2
      go_ret
      exact ⟨by rw [← HT.out]; rfl, hb⟩
theorem nestL_snoc {xs : List Lp} {j : Nat} (h : j < xs.length) : nestL (xs.take (j + 1)) = nestL (xs.take j) ++ loopL xs[j] := by
  rw [List.take_succ_eq_append_getElem h, nestL, nestL, List.flatMap_append]; simp
theorem sdL_len {al : List Aff} (h : SdOk al) : (sideL al).length ≤ 96 := by
  have := sideL_len h.2
  have := h.1
  omega
theorem loopL_len {x : Lp} (h1 : SdOk x.lo) (h2 : SdOk x.hi) : (loopL x).length ≤ 198 := by
  have := sdL_len h1
  have := sdL_len h2
  unfold loopL
  simp only [List.length_append, List.length_cons, List.length_nil]; omega
theorem nestL_len {xs : List Lp} (h : ∀ x ∈ xs, SdOk x.lo ∧ SdOk x.hi) : ∀ j, j ≤ xs.length → (nestL (xs.take j)).length ≤ 198 * j
  | 0, _ => by simp [nestL]
  | j + 1, hj => by
    rw [nestL_snoc (show j < xs.length by omega), List.length_append]
    have h1 := nestL_len h j (by omega)
    have h2 := h _ (List.getElem_mem (show j < xs.length by omega))
    have h3 := loopL_len h2.1 h2.2
    omega
set_option maxRecDepth 100000 in
set_option maxHeartbeats 4000000 in
theorem l2Text_c {xs : List Lp} {w : World} {A : Option Addr} {n c : Nat} {bs : List Nat} (h : Rep w (sls Lp.d xs) [.slice A n c] bs) (hl : xs.length ≤ 100) (hs : ∀ x ∈ xs, SdOk x.lo ∧ SdOk x.hi) :
    Calls Tryz.prog 30 #[.slice A n c] w fun e w' => e = .returned (.string (strOf (nestL xs))) ∧ Below w.heap.size w w' := by
  obtain ⟨rfl, h2, h3⟩ := h.sls_len
  have hn : xs.length ≤ 9223372036854775807 := Nat.le_trans h2 h3
  have H := Lib.hid h; clear h h2 h3
  have HS := Lib.hid hs; clear hs
  go_enter Tryz.func30, Tryz.ntmps30
  go_wp2
  go_loopw [3, 4] (fun u i wr => ∃ j : Nat, j ≤ xs.length ∧ i = .int .i64 j ∧ u = .string (strOf (nestL (xs.take j))) ∧ Below w.heap.size w wr) (fun _ i _ => xs.length - (intOf i).toNat)
  case atStart => exact ⟨0, Nat.zero_le _, rfl, rfl, Below.refl _ _⟩
  case round =>
    obtain ⟨j, hj, rfl, rfl, hb⟩ := hrel
    by_cases hlt : j < xs.length
    · have HX := Lib.hid (HS.out _ (List.getElem_mem hlt))
      have hsl := nestL_len HS.out j hj
      have hst := nestL_snoc hlt
      obtain ⟨be, oe, cse, le, rfl, hble, hre, _, _, hce⟩ := (H.out.below hb).sls_at Lp.d_size (k := j) hlt
      have Ge := Lib.hid hre
      obtain ⟨A1e, c1e, A2e, c2e, d1e, d2e, rfl, rfl, g1e, g2e⟩ := Rep.lp_iff.1 hre
      have k0e := (hce 0 _ rfl).1; rw [Nat.add_zero] at k0e
      have k1e := (hce 1 _ rfl).1
      have Q1e := Lib.hid g1e
      have Q2e := Lib.hid g2e
      clear hce hre g1e g2e
      obtain ⟨x, hx⟩ : ∃ x, x = xs[j] := ⟨_, rfl⟩
      rw [← hx] at k0e k1e Q1e Q2e HX hst
      clear hx Ge
      have hL1 : (strOf (sideL x.lo)).size ≤ 96 := by rw [strOf_size]; exact sdL_len HX.out.1
      have hL2 : (strOf (sideL x.hi)).size ≤ 96 := by rw [strOf_size]; exact sdL_len HX.out.2
      have hS : (strOf (nestL (xs.take j))).size ≤ 20000 := by rw [strOf_size]; omega
      obtain ⟨L1, hL1e⟩ : ∃ L, L = strOf (sideL x.lo) := ⟨_, rfl⟩
      obtain ⟨L2, hL2e⟩ : ∃ L, L = strOf (sideL x.hi) := ⟨_, rfl⟩
      obtain ⟨O, hOe⟩ : ∃ L, L = strOf (nestL (xs.take j)) := ⟨_, rfl⟩
      have HD := Lib.hid (show strOf (nestL (xs.take (j + 1))) = O ++ ((((⟨#[102, 111, 114, 32]⟩ : ByteArray) ++ L1) ++ (⟨#[32]⟩ : ByteArray)) ++ L2 ++ (⟨#[10]⟩ : ByteArray)) by
        rw [hst, hOe, hL1e, hL2e, loopL, ← strOf_app, ← strOf_app, ← strOf_app, ← strOf_app, ← strOf_app]
        simp only [ByteArray.append_assoc]; rfl)
      have HC1 : ∀ W : World, Below wr.heap.size wr W → Hid (Calls Tryz.prog 74 #[.slice A1e x.lo.length c1e] W fun e w' => e = .returned (.string L1) ∧ Below W.heap.size W w') := fun W hW => Lib.hid (by rw [hL1e]; exact l2SideText_c (Q1e.out.below hW) HX.out.1)
      have HC2 : ∀ W : World, Below wr.heap.size wr W → Hid (Calls Tryz.prog 74 #[.slice A2e x.hi.length c2e] W fun e w' => e = .returned (.string L2) ∧ Below W.heap.size W w') := fun W hW => Lib.hid (by rw [hL2e]; exact l2SideText_c (Q2e.out.below hW) HX.out.2)
      rw [← hL1e] at hL1
      rw [← hL2e] at hL2
      rw [← hOe] at hS ⊢
      clear hsl hst hL1e hL2e hOe Q1e Q2e
      have g1 : (9223372036854775807 < O.size + 4) = False := eq_false (by omega)
      have g2 : (9223372036854775807 < O.size + 4 + L1.size) = False := eq_false (by omega)
      have g3 : (9223372036854775807 < O.size + 4 + L1.size + 1) = False := eq_false (by omega)
      have g4 : (9223372036854775807 < O.size + 4 + L1.size + 1 + L2.size) = False := eq_false (by omega)
      have g5 : (9223372036854775807 < O.size + 4 + L1.size + 1 + L2.size + 1) = False := eq_false (by omega)
      go_wp2_with fail
      refine wp_region_noPanic ?_
      refine wp_region_held_drew (S := fun w' => Below w.heap.size w w' ∧ Below wr.heap.size wr w' ∧ w'.cell? ⟨be, oe + j * 2, none⟩ = some (.slice A1e x.lo.length c1e) ∧ w'.cell? ⟨be, oe + j * 2 + 1, none⟩ = some (.slice A2e x.hi.length c2e)) (by kernel_rfl) (⟨below_tr hb bel, bel, k0e, k1e⟩) (fun hHeld => ?_)
      refine goR 0 hHeld ?_
      refine takeR (i := 1) (v := ?_) rfl rfl (by kernel_rfl) (by kernel_rfl) (by kernel_rfl) (fun _ _ _ h => h) ?_ hHeld ?_
      rotate_left 1
      · intro w hSw; (try dsimp only at hSw); go_simp
        try simp only [g1, g2, g3, g4, g5, if_false]
        try with_reducible rfl
      simp only [Act.put, aq0, aq1, aq2]
      refine goR 2 hHeld ?_
      refine goR 3 hHeld ?_
      refine goR 4 hHeld ?_
      refine goR 5 hHeld ?_
      refine goR 6 hHeld ?_
      refine goR 10 hHeld ?_
      refine goR 11 hHeld ?_
      refine goR 12 hHeld ?_
      refine goR 13 hHeld ?_
      refine goR 14 hHeld ?_
      refine stepR (i := 7) rfl (by kernel_rfl) (wanted_none rfl) (fun K hK => ?_)
      go_simp
      (refine (HC1 _ bel).out.mono ?_; rintro e w4 ⟨rfl, b4⟩; have S4 : Below wr.heap.size wr w4 := bel)
      go_wp2_with fail
      refine hK.out _ _ (⟨below_tr hb S4, S4, (S4.cell hble).trans k0e, (S4.cell hble).trans k1e⟩) (fun hHeld => ?_)
      clear hK K
      try simp only [Act.put, aq0, aq1, aq2]
      refine takeR (i := 8) (v := ?_) rfl rfl (by kernel_rfl) (by kernel_rfl) (by kernel_rfl) (fun _ _ _ h => h) ?_ hHeld ?_
      rotate_left 1
      · intro w hSw; (try dsimp only at hSw); go_simp
        try simp only [g1, g2, g3, g4, g5, if_false]
        try with_reducible rfl
      simp only [Act.put, aq0, aq1, aq2]
      refine takeR (i := 9) (v := ?_) rfl rfl (by kernel_rfl) (by kernel_rfl) (by kernel_rfl) (fun _ _ _ h => h) ?_ hHeld ?_
      rotate_left 1
      · intro w hSw; (try dsimp only at hSw); go_simp
        try simp only [g1, g2, g3, g4, g5, if_false]
        try with_reducible rfl
      simp only [Act.put, aq0, aq1, aq2]
      refine stepR (i := 15) rfl (by kernel_rfl) (wanted_none rfl) (fun K hK => ?_)
      go_simp
      (refine (HC2 _ (by first | exact S4.drew | exact S4)).out.mono ?_; rintro e w5 ⟨rfl, b5⟩; have S5 : Below wr.heap.size wr w5 := below_tr S4 (by first | exact b5 | exact of_drew b5))
      go_wp2_with fail
      refine hK.out _ _ (⟨below_tr hb S5, S5, (S5.cell hble).trans k0e, (S5.cell hble).trans k1e⟩) (fun hHeld => ?_)
      clear hK K
      try simp only [Act.put, aq0, aq1, aq2]
      refine takeR (i := 16) (v := ?_) rfl rfl (by kernel_rfl) (by kernel_rfl) (by kernel_rfl) (fun _ _ _ h => h) ?_ hHeld ?_
      rotate_left 1
      · intro w hSw; (try dsimp only at hSw); go_simp
        try simp only [g1, g2, g3, g4, g5, if_false]
        try with_reducible rfl
      simp only [Act.put, aq0, aq1, aq2]
      refine takeR (i := 17) (v := ?_) rfl rfl (by kernel_rfl) (by kernel_rfl) (by kernel_rfl) (fun _ _ _ h => h) ?_ hHeld ?_
      rotate_left 1
      · intro w hSw; (try dsimp only at hSw); go_simp
        try simp only [g1, g2, g3, g4, g5, if_false]
        try with_reducible rfl
      simp only [Act.put, aq0, aq1, aq2]
      refine goR 18 hHeld ?_
      refine wpAnyH_done (by kernel_rfl) ?_ _
      refine NoPanic.normal ?_
      rename_i hSE
      go_wp2
      go_roundw
      case rel => exact ⟨j + 1, by omega, by go_num, by rw [HD.out]; try (simp only [ByteArray.append_assoc]), below_tr hb S5⟩
      case measure => simp [intOf]; omega
    · have hjj : j = xs.length := by omega
      subst hjj
      have HT := Lib.hid (show nestL (xs.take xs.length) = nestL xs by rw [List.take_length])
      obtain ⟨T, hTe⟩ : ∃ T, T = nestL (xs.take xs.length) := ⟨_, rfl⟩
      rw [← hTe] at HT ⊢
      clear hTe
      go_wp2
      go_ret
      exact ⟨by rw [← HT.out]; rfl, hb⟩
set_option maxRecDepth 100000 in
set_option maxHeartbeats 4000000 in
theorem nestText_c {xs : List Lp} {w : World} {A : Option Addr} {n c : Nat} {bs : List Nat} (h : Rep w (sls Lp.d xs) [.slice A n c] bs) (hl : xs.length ≤ 100) (hs : ∀ x ∈ xs, SdOk x.lo ∧ SdOk x.hi) :
    Calls Tryz.prog 46 #[.slice A n c] w fun e w' => e = .returned (.string (strOf (nestL xs))) ∧ Below w.heap.size w w' := by
  obtain ⟨rfl, h2, h3⟩ := h.sls_len
  have hn : xs.length ≤ 9223372036854775807 := Nat.le_trans h2 h3
  have H := Lib.hid h; clear h h2 h3
  have HS := Lib.hid hs; clear hs
  go_enter Tryz.func46, Tryz.ntmps46
  go_wp2
  go_loopw [3, 8] (fun u i wr => ∃ j : Nat, j ≤ xs.length ∧ i = .int .i64 j ∧ u = .string (strOf (nestL (xs.take j))) ∧ Below w.heap.size w wr) (fun _ i _ => xs.length - (intOf i).toNat)
  case atStart => exact ⟨0, Nat.zero_le _, rfl, rfl, Below.refl _ _⟩
  case round =>
    obtain ⟨j, hj, rfl, rfl, hb⟩ := hrel
    by_cases hlt : j < xs.length
    · have HX := Lib.hid (HS.out _ (List.getElem_mem hlt))
      have hsl := nestL_len HS.out j hj
      have hst := nestL_snoc hlt
      obtain ⟨be, oe, cse, le, rfl, hble, hre, _, _, hce⟩ := (H.out.below hb).sls_at Lp.d_size (k := j) hlt
      have Ge := Lib.hid hre
      obtain ⟨A1e, c1e, A2e, c2e, d1e, d2e, rfl, rfl, g1e, g2e⟩ := Rep.lp_iff.1 hre
      have k0e := (hce 0 _ rfl).1; rw [Nat.add_zero] at k0e
      have k1e := (hce 1 _ rfl).1
      have Q1e := Lib.hid g1e
      have Q2e := Lib.hid g2e
      clear hce hre g1e g2e
      obtain ⟨x, hx⟩ : ∃ x, x = xs[j] := ⟨_, rfl⟩
      rw [← hx] at k0e k1e Q1e Q2e HX hst
      clear hx Ge
      have hL1 : (strOf (sideL x.lo)).size ≤ 96 := by rw [strOf_size]; exact sdL_len HX.out.1
      have hL2 : (strOf (sideL x.hi)).size ≤ 96 := by rw [strOf_size]; exact sdL_len HX.out.2
      have hS : (strOf (nestL (xs.take j))).size ≤ 20000 := by rw [strOf_size]; omega
      obtain ⟨L1, hL1e⟩ : ∃ L, L = strOf (sideL x.lo) := ⟨_, rfl⟩
      obtain ⟨L2, hL2e⟩ : ∃ L, L = strOf (sideL x.hi) := ⟨_, rfl⟩
      obtain ⟨O, hOe⟩ : ∃ L, L = strOf (nestL (xs.take j)) := ⟨_, rfl⟩
      have HD := Lib.hid (show strOf (nestL (xs.take (j + 1))) = O ++ ((((⟨#[102, 111, 114, 32]⟩ : ByteArray) ++ L1) ++ (⟨#[32]⟩ : ByteArray)) ++ L2 ++ (⟨#[10]⟩ : ByteArray)) by
        rw [hst, hOe, hL1e, hL2e, loopL, ← strOf_app, ← strOf_app, ← strOf_app, ← strOf_app, ← strOf_app]
        simp only [ByteArray.append_assoc]; rfl)
      have HC1 : ∀ W : World, Below wr.heap.size wr W → Hid (Calls Tryz.prog 88 #[.slice A1e x.lo.length c1e] W fun e w' => e = .returned (.string L1) ∧ Below W.heap.size W w') := fun W hW => Lib.hid (by rw [hL1e]; exact affinesText_c (Q1e.out.below hW) HX.out.1.1 HX.out.1.2)
      have HC2 : ∀ W : World, Below wr.heap.size wr W → Hid (Calls Tryz.prog 88 #[.slice A2e x.hi.length c2e] W fun e w' => e = .returned (.string L2) ∧ Below W.heap.size W w') := fun W hW => Lib.hid (by rw [hL2e]; exact affinesText_c (Q2e.out.below hW) HX.out.2.1 HX.out.2.2)
      rw [← hL1e] at hL1
      rw [← hL2e] at hL2
      rw [← hOe] at hS ⊢
      clear hsl hst hL1e hL2e hOe Q1e Q2e
      have g1 : (9223372036854775807 < 4 + L1.size) = False := eq_false (by omega)
      have g2 : (9223372036854775807 < 4 + L1.size + 1) = False := eq_false (by omega)
      have g3 : (9223372036854775807 < 4 + L1.size + 1 + L2.size) = False := eq_false (by omega)
      have g4 : (9223372036854775807 < 4 + L1.size + 1 + L2.size + 1) = False := eq_false (by omega)
      have g5 : (9223372036854775807 < O.size + (4 + L1.size + 1 + L2.size + 1)) = False := eq_false (by omega)
      go_wp2_with fail
      refine wp_region_noPanic ?_
      refine wp_region_held_drew (S := fun w' => Below w.heap.size w w' ∧ Box2 w' wr.heap.size (.slice A1e x.lo.length c1e) (.slice A2e x.hi.length c2e) ∧ Below wr.heap.size wr w') (by kernel_rfl) (⟨below_tr hb bel, ⟨by go_simp, by go_simp⟩, bel⟩) (fun hHeld => ?_)
      refine goR 0 hHeld ?_
      refine goR 1 hHeld ?_
      refine goR 2 hHeld ?_
      refine goR 6 hHeld ?_
      refine goR 7 hHeld ?_
      refine stepR (i := 3) rfl (by kernel_rfl) (wanted_none rfl) (fun K hK => ?_)
      go_simp
      (refine (HC1 _ bel).out.mono ?_; rintro e w4 ⟨rfl, b4⟩; have S4 : Below wr.heap.size wr w4 := bel; have B4 : Box2 w4 wr.heap.size (.slice A1e x.lo.length c1e) (.slice A2e x.hi.length c2e) := ⟨by (rw [b4.cell (by simp)]; go_simp), by (rw [b4.cell (by simp)]; go_simp)⟩)
      go_wp2_with fail
      refine hK.out _ _ (⟨below_tr hb S4, B4, S4⟩) (fun hHeld => ?_)
      clear hK K
      try simp only [Act.put, aq0, aq1, aq2]
      refine takeR (i := 4) (v := ?_) rfl rfl (by kernel_rfl) (by kernel_rfl) (by kernel_rfl) (fun _ _ _ h => h) ?_ hHeld ?_
      rotate_left 1
      · intro w hSw; (try dsimp only at hSw); go_simp
        try simp only [g1, g2, g3, g4, g5, if_false]
        try with_reducible rfl
      simp only [Act.put, aq0, aq1, aq2]
      refine takeR (i := 5) (v := ?_) rfl rfl (by kernel_rfl) (by kernel_rfl) (by kernel_rfl) (fun _ _ _ h => h) ?_ hHeld ?_
      rotate_left 1
      · intro w hSw; (try dsimp only at hSw); go_simp
        try simp only [g1, g2, g3, g4, g5, if_false]
        try with_reducible rfl
      simp only [Act.put, aq0, aq1, aq2]
      refine stepR (i := 8) rfl (by kernel_rfl) (wanted_none rfl) (fun K hK => ?_)
      go_simp
      (refine (HC2 _ (by first | exact S4.drew | exact S4)).out.mono ?_; rintro e w5 ⟨rfl, b5⟩; have S5 : Below wr.heap.size wr w5 := below_tr S4 (by first | exact b5 | exact of_drew b5))
      go_wp2_with fail
      refine hK.out _ _ (⟨below_tr hb S5, B4.to (by first | exact b5 | exact of_drew b5), S5⟩) (fun hHeld => ?_)
      clear hK K
      try simp only [Act.put, aq0, aq1, aq2]
      refine takeR (i := 9) (v := ?_) rfl rfl (by kernel_rfl) (by kernel_rfl) (by kernel_rfl) (fun _ _ _ h => h) ?_ hHeld ?_
      rotate_left 1
      · intro w hSw; (try dsimp only at hSw); go_simp
        try simp only [g1, g2, g3, g4, g5, if_false]
        try with_reducible rfl
      simp only [Act.put, aq0, aq1, aq2]
      refine takeR (i := 10) (v := ?_) rfl rfl (by kernel_rfl) (by kernel_rfl) (by kernel_rfl) (fun _ _ _ h => h) ?_ hHeld ?_
      rotate_left 1
      · intro w hSw; (try dsimp only at hSw); go_simp
        try simp only [g1, g2, g3, g4, g5, if_false]
        try with_reducible rfl
      simp only [Act.put, aq0, aq1, aq2]
      refine takeR (i := 11) (v := ?_) rfl rfl (by kernel_rfl) (by kernel_rfl) (by kernel_rfl) (fun _ _ _ h => h) ?_ hHeld ?_
      rotate_left 1
      · intro w hSw; (try dsimp only at hSw); go_simp
        try simp only [g1, g2, g3, g4, g5, if_false]
        try with_reducible rfl
      simp only [Act.put, aq0, aq1, aq2]
      refine goR 12 hHeld ?_
      refine wpAnyH_done (by kernel_rfl) ?_ _
      refine NoPanic.normal ?_
      rename_i hSE
      go_wp2
      go_roundw
      case rel => exact ⟨j + 1, by omega, by go_num, by rw [HD.out]; try (simp only [ByteArray.append_assoc]), below_tr hb S5⟩
      case measure => simp [intOf]; omega
    · have hjj : j = xs.length := by omega
      subst hjj
      have HT := Lib.hid (show nestL (xs.take xs.length) = nestL xs by rw [List.take_length])
      obtain ⟨T, hTe⟩ : ∃ T, T = nestL (xs.take xs.length) := ⟨_, rfl⟩
      rw [← hTe] at HT ⊢
      clear hTe
      go_wp2
      go_ret
      exact ⟨by rw [← HT.out]; rfl, hb⟩
end Go.Proofs.YtbhniobgaoncaaaGreatDoor
