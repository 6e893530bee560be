/- The reference's text of an affine expression. -/
import Derived.Test.YtbhniobgaoncaaaGreatDoorZpTxtA
import Derived.Test.YtbhniobgaoncaaaGreatDoorZpBasic
set_option linter.all false
set_option linter.unusedSimpArgs false
set_option linter.unusedVariables false
namespace Go.Proofs.YtbhniobgaoncaaaGreatDoor
open Go.ChangeShapes Go.WideShapes Go.ChangeAt Go.RowKit Go.Deep

theorem sgS_len (c : Int) : (sgS c).length = 1 := by unfold sgS; split <;> rfl
theorem bodyL_len {c : Int} {v : Nat} : (bodyL c (nameL v)).length ≤ 4 := by
  unfold bodyL
  have := decL_len c.natAbs
  split <;> simp [nameL] <;> omega
theorem foS_len (cs : List Int) : ∀ v, (foS cs v).length ≤ 5 * v
  | 0 => by simp [foS]
  | v + 1 => by
    have ih := foS_len cs v
    rw [foS, stS]
    split
    · omega
    · have h1 := sgS_len (gi cs v)
      have h2 := bodyL_len (c := gi cs v) (v := v)
      simp only [List.length_append]; omega
set_option maxRecDepth 100000 in
set_option maxHeartbeats 1000000 in
theorem l1Text_c {w : World} {a : Aff} {A : Option Addr} {n c : Nat} {k : Int} {bs : List Nat} (h : Rep w a.d [.slice A n c, .int .i64 k] bs) (h4 : a.coefs.length ≤ 4) (hc9 : ∀ v, (gi a.coefs v).natAbs < 100) (hk : a.const.natAbs < 100) :
    Calls Tryz.prog 75 #[.agg #[.slice A n c, .int .i64 k]] w fun e w' => e = .returned (.string (strOf (affS a))) ∧ Below w.heap.size w w' := by
  obtain ⟨rfl, h1, _⟩ := h.aff
  obtain ⟨rfl, h2, h3⟩ := h1.ints_len
  clear h2 h3 h
  go_enter Tryz.func75, Tryz.ntmps75
  go_wp2
  have P0 : Box2 (w.alloc (.cells #[.slice A a.coefs.length c, .int .i64 a.const] 46)) w.heap.size (.slice A a.coefs.length c) (.int .i64 a.const) := Box2.new w _ _ _
  have H0 : Below w.heap.size w (w.alloc (.cells #[.slice A a.coefs.length c, .int .i64 a.const] 46)) := bel
  obtain ⟨W, hW⟩ : ∃ W, W = w.alloc (.cells #[.slice A a.coefs.length c, .int .i64 a.const] 46) := ⟨_, rfl⟩
  have hWs : W.heap.size = w.heap.size + 1 := by rw [hW]; simp
  rw [← hW] at P0 H0 ⊢
  clear hW
  go_loopw [3, 4] (fun u i wr => ∃ j : Nat, j ≤ a.coefs.length ∧ i = .int .i64 j ∧ u = .string (strOf (foS a.coefs j)) ∧ Below W.heap.size W wr) (fun _ i _ => a.coefs.length - (intOf i).toNat)
  case atStart => exact ⟨0, Nat.zero_le _, rfl, rfl, Below.refl _ _⟩
  case round =>
    obtain ⟨j, hj, rfl, rfl, hb⟩ := hrel
    have PR := P0.to hb
    have SR := below_tr H0 hb
    by_cases hlt : j < a.coefs.length
    · obtain ⟨b, o, rfl, _, hbl, hc, _⟩ := h1.ints_at hlt
      have hcr : wr.cell? ⟨b, o + j, none⟩ = some (.int .i64 (gi a.coefs j)) := (SR.cell hbl).trans hc
      by_cases hz : gi a.coefs j = 0
      · have HD := Lib.hid (show foS a.coefs (j + 1) = foS a.coefs j from by rw [foS, stS, if_pos hz])
        have hz1 : (gi a.coefs j != 0) = false := by simp [hz]
        have HZ := Lib.hid hz; clear hz
        go_wp2
        go_roundw
        case rel => exact ⟨j + 1, by omega, by go_num, by rw [HD.out], hb⟩
        case measure => simp [intOf]; omega
      · have HD := Lib.hid (show foS a.coefs (j + 1) = foS a.coefs j ++ (sgS (gi a.coefs j) ++ bodyL (gi a.coefs j) [(105 + j).toUInt8]) from by rw [foS, stS, if_neg hz]; rfl)
        have hz1 : (gi a.coefs j != 0) = true := by simp [hz]
        have HT : ∀ W : World, Hid (Calls Tryz.prog 123 #[.int .i64 (gi a.coefs j), .string ⟨#[(105 + j).toUInt8]⟩] W fun e w' => e = .returned (.string (strOf (sgS (gi a.coefs j) ++ bodyL (gi a.coefs j) [(105 + j).toUInt8]))) ∧ Below W.heap.size W w') := fun W => Lib.hid (l1Term_1 hz (hc9 j))
        have hfl := foS_len a.coefs j
        have hs0 : (strOf (foS a.coefs j)).size ≤ 20 := by rw [strOf_size]; omega
        have hG : (strOf (sgS (gi a.coefs j) ++ bodyL (gi a.coefs j) [(105 + j).toUInt8])).size ≤ 5 := by
          have := bodyL_len (c := gi a.coefs j) (v := j)
          rw [strOf_size, List.length_append, sgS_len]; unfold nameL at this; omega
        obtain ⟨G, hGe⟩ : ∃ G, G = sgS (gi a.coefs j) ++ bodyL (gi a.coefs j) [(105 + j).toUInt8] := ⟨_, rfl⟩
        rw [← hGe] at HD hG
        simp only [← hGe] at HT
        have hj4 : j < 4 := by omega
        have hsl : (⟨#[105, 106, 107, 108]⟩ : ByteArray).extract j (j + 1) = ⟨#[(105 + j).toUInt8]⟩ := by
          have : ∀ j : Fin 4, (⟨#[105, 106, 107, 108]⟩ : ByteArray).extract j.val (j.val + 1) = ⟨#[(105 + j.val).toUInt8]⟩ := by decide
          exact this ⟨j, hj4⟩
        obtain ⟨dd, hdd⟩ : ∃ dd : UInt8, dd = (105 + j).toUInt8 := ⟨_, rfl⟩
        rw [← hdd] at hsl
        simp only [← hdd] at HT
        have hsum : (strOf (foS a.coefs j)).size + (strOf G).size ≤ 9223372036854775807 := by omega
        have hw1 : IntKind.i64.wrap ((j : Int) + 1) = (j : Int) + 1 := by rw [IntKind.wrap_i64]; omega
        have g1 : (0 ≤ (j : Int) + 1) = True := eq_true (by omega)
        have g2 : ((j : Int) + 1 ≤ 4) = True := eq_true (by omega)
        have g3 : ((j : Int) ≤ (j : Int) + 1) = True := eq_true (by omega)
        have g4 : ((j : Int) + 1).toNat = j + 1 := by omega
        have g5 : (9223372036854775807 < (strOf (foS a.coefs j)).size + (strOf G).size) = False := eq_false (by omega)
        clear hz hfl hGe hdd
        go_wp2_with fail
        refine wp_region_noPanic ?_
        refine wp_region_held_drew (S := fun w' => Below W.heap.size W w' ∧ Box2 w' w.heap.size (.slice (some ⟨b, o, none⟩) a.coefs.length c) (.int .i64 a.const) ∧ w'.cell? ⟨b, o + j, none⟩ = some (.int .i64 (gi a.coefs j))) (by kernel_rfl) (⟨hb.drew, PR, hcr⟩) (fun hHeld => ?_)
        refine goR 0 hHeld ?_
        refine goR 1 hHeld ?_
        refine goR 2 hHeld ?_
        refine goR 3 hHeld ?_
        refine goR 4 hHeld ?_
        refine goR 5 hHeld ?_
        refine goR 6 hHeld ?_
        refine goR 7 hHeld ?_
        refine takeR (i := 8) (v := ?_) rfl rfl (by kernel_rfl) (by kernel_rfl) (by kernel_rfl) (fun _ _ _ h => h) ?_ hHeld ?_
        rotate_left 1
        · intro w hSw; (try dsimp only at hSw); go_simp
          try simp only [hw1, g1, g2, g3, g4, g5, hsl, and_self, if_true, if_false]
          try with_reducible rfl
        simp only [Act.put, aq0, aq1, aq2]
        refine takeR (i := 9) (v := ?_) rfl rfl (by kernel_rfl) (by kernel_rfl) (by kernel_rfl) (fun _ _ _ h => h) ?_ hHeld ?_
        rotate_left 1
        · intro w hSw; (try dsimp only at hSw); go_simp
          try simp only [hw1, g1, g2, g3, g4, g5, hsl, and_self, if_true, if_false]
          try with_reducible rfl
        simp only [Act.put, aq0, aq1, aq2]
        refine stepR (i := 10) rfl (by kernel_rfl) (wanted_none rfl) (fun K hK => ?_)
        go_simp
        (refine (HT _).out.mono ?_; rintro e w4 ⟨rfl, b4⟩; have S4 : Below wr.heap.size wr w4 := bel)
        go_wp2_with fail
        refine hK.out _ _ (⟨below_tr hb S4, PR.to S4, (S4.cell (Nat.lt_of_lt_of_le hbl SR.size)).trans hcr⟩) (fun hHeld => ?_)
        clear hK K
        try simp only [Act.put, aq0, aq1, aq2]
        refine takeR (i := 11) (v := ?_) rfl rfl (by kernel_rfl) (by kernel_rfl) (by kernel_rfl) (fun _ _ _ h => h) ?_ hHeld ?_
        rotate_left 1
        · intro w hSw; (try dsimp only at hSw); go_simp
          try simp only [hw1, g1, g2, g3, g4, g5, hsl, and_self, if_true, if_false]
          try with_reducible rfl
        simp only [Act.put, aq0, aq1, aq2]
        refine goR 12 hHeld ?_
        refine wpAnyH_done (by kernel_rfl) ?_ _
        refine NoPanic.normal ?_
        rename_i hSE
        have SE := hSE.1
        go_wp2
        go_roundw
        case rel => (refine ⟨j + 1, by omega, by go_num, by rw [HD.out, ← strOf_app], ?_⟩; first | exact SE | exact below_tr hb S4)
        case measure => simp [intOf]; omega
    · have hjj : j = a.coefs.length := by omega
      subst hjj
      have HF : Hid (rawS a = cnS (foS a.coefs a.coefs.length) a.const) := Lib.hid rfl
      have hfl := foS_len a.coefs a.coefs.length
      have hs0 : (strOf (foS a.coefs a.coefs.length)).size ≤ 20 := by rw [strOf_size]; omega
      obtain ⟨F, hF⟩ : ∃ F, F = foS a.coefs a.coefs.length := ⟨_, rfl⟩
      rw [← hF] at HF hs0 ⊢
      clear hF hfl
      by_cases hk0 : a.const = 0
      · have HR : Hid (rawS a = F) := Lib.hid (by rw [HF.out, cnS, if_pos hk0])
        have HA : Hid (strOf (affS a) = strOf (cutL F)) := Lib.hid (by rw [affS, HR.out])
        have hk1 : (a.const != 0) = false := by simp [hk0]
        have HK := Lib.hid hk0; clear hk0
        rcases F with _ | ⟨x, t⟩
        · have he : (strOf []).toList.isEmpty = true := by rw [Lib.toList_data, strOf_data]; rfl
          go_wp2
          go_ret
          exact ⟨by rw [HA.out]; rfl, bel⟩
        · have hs1 : (strOf (x :: t)).size = t.length + 1 := strOf_size _
          have he : (strOf (x :: t)).toList.isEmpty = false := by rw [Lib.toList_data, strOf_data]; rfl
          have hx : (strOf (x :: t)).extract 0 1 = ⟨#[x]⟩ := by apply ByteArray.ext; simp [strOf]
          have hx2 : (strOf (x :: t)).extract 1 (t.length + 1) = strOf t := by
            apply ByteArray.ext; apply Array.toList_inj.1; simp [strOf]
          by_cases h43 : x = 43
          · have h4e : (x == 43) = true := by simp [h43]
            have HC : Hid (cutL (x :: t) = t) := Lib.hid (by rw [cutL, if_pos h43])
            clear h43
            go_wp2
            go_ret
            exact ⟨by rw [HA.out, HC.out]; rfl, bel⟩
          · have h4e : (x == 43) = false := by simp [h43]
            have HC : Hid (cutL (x :: t) = x :: t) := Lib.hid (by rw [cutL, if_neg h43])
            clear h43
            go_wp2
            go_ret
            exact ⟨by rw [HA.out, HC.out]; rfl, bel⟩
      · have hk1 : (a.const != 0) = true := by simp [hk0]
        have HK := Lib.hid hk0
        have hGl : (sgS a.const ++ decL a.const.natAbs).length ≤ 3 := by
          have := decL_len a.const.natAbs; rw [List.length_append, sgS_len]; omega
        have hGs : (strOf (sgS a.const ++ decL a.const.natAbs)).size ≤ 3 := by rw [strOf_size]; exact hGl
        obtain ⟨x, t, hxt⟩ : ∃ x t, F ++ (sgS a.const ++ decL a.const.natAbs) = x :: t := by
          rcases hh : F ++ (sgS a.const ++ decL a.const.natAbs) with _ | ⟨x, t⟩
          · have := congrArg List.length hh; rw [List.length_append, List.length_append, sgS_len] at this; simp at this
          · exact ⟨x, t, rfl⟩
        have HR : Hid (rawS a = x :: t) := Lib.hid (by rw [HF.out, cnS, if_neg hk0, hxt])
        have HA : Hid (strOf (affS a) = strOf (cutL (x :: t))) := Lib.hid (by rw [affS, HR.out])
        have HT := Lib.hid (l1Term_0 (w := wr) hk0 hk)
        have hFG : strOf F ++ strOf (sgS a.const ++ decL a.const.natAbs) = strOf (x :: t) := by rw [strOf_app, hxt]
        have hFGs : (strOf F).size + (strOf (sgS a.const ++ decL a.const.natAbs)).size ≤ 9223372036854775807 := by omega
        clear hk0 hxt
        obtain ⟨G, hG⟩ : ∃ G, G = strOf (sgS a.const ++ decL a.const.natAbs) := ⟨_, rfl⟩
        rw [← hG] at HT hFG hGs hFGs
        clear hG hGl hGs hs0
        have hs1 : (strOf (x :: t)).size = t.length + 1 := strOf_size _
        have he : (strOf (x :: t)).toList.isEmpty = false := by rw [Lib.toList_data, strOf_data]; rfl
        have hx : (strOf (x :: t)).extract 0 1 = ⟨#[x]⟩ := by apply ByteArray.ext; simp [strOf]
        have hx2 : (strOf (x :: t)).extract 1 (t.length + 1) = strOf t := by
          apply ByteArray.ext; apply Array.toList_inj.1; simp [strOf]
        by_cases h43 : x = 43
        · have h4e : (x == 43) = true := by simp [h43]
          have HC : Hid (cutL (x :: t) = t) := Lib.hid (by rw [cutL, if_pos h43])
          clear h43
          go_wp2_with fail
          refine (HT.out).mono ?_
          rintro e w1 ⟨rfl, b1⟩
          have S1 : Below w.heap.size w w1 := bel
          clear b1
          go_wp2
          go_ret
          exact ⟨by rw [HA.out, HC.out]; rfl, bel⟩
        · have h4e : (x == 43) = false := by simp [h43]
          have HC : Hid (cutL (x :: t) = x :: t) := Lib.hid (by rw [cutL, if_neg h43])
          clear h43
          go_wp2_with fail
          refine (HT.out).mono ?_
          rintro e w2 ⟨rfl, b2⟩
          have S2 : Below w.heap.size w w2 := bel
          clear b2
          go_wp2
          go_ret
          exact ⟨by rw [HA.out, HC.out]; rfl, bel⟩
end Go.Proofs.YtbhniobgaoncaaaGreatDoor
