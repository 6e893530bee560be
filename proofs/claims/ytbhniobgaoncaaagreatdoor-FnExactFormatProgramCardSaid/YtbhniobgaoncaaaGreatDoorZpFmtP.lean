/- FormatProgram of both. -/
import Derived.Test.YtbhniobgaoncaaaGreatDoorZpTxtP
import Derived.Test.YtbhniobgaoncaaaGreatDoorZpPgValid
set_option linter.all false
set_option linter.unusedSimpArgs false
set_option linter.unusedVariables false
namespace Go.Proofs.YtbhniobgaoncaaaGreatDoor
open Go.ChangeShapes Go.WideShapes Go.ChangeAt Go.RowKit Go.Deep

set_option maxRecDepth 100000 in
set_option maxHeartbeats 4000000 in
theorem implFormatProgram_c {w : World} {p : Pgm} {cs : List Value} {bs : List Nat} (h : Rep w p.d cs bs) :
    Calls Tryz.prog 10 #[.agg cs.toArray] w fun e w' => e = .returned (.string (FormatProgramF p)) ∧ Below w.heap.size w w' := by
  have HH := Lib.hid h
  obtain ⟨A1, c1, A2, c2, d1, d2, rfl, rfl, g1, g2⟩ := Rep.pgm_iff.1 h
  have Garrays := Lib.hid g1
  have Gparts := Lib.hid g2
  clear h g1 g2
  go_enter Tryz.func10, Tryz.ntmps10
  go_wp2_with fail
  refine (implProgramValid_c (HH.out.below bel)).mono ?_
  rintro e w1 ⟨rfl, b1⟩
  have P1 : Box2 w1 w.heap.size (.slice A1 p.arrays.length c1) (.slice A2 p.parts.length c2) := by
    refine ⟨?_, ?_⟩ <;> (rw [b1.cell (by simp [World.setCell]; try omega)]; go_simp)
  have S1 : Below w.heap.size w w1 := bel
  cases hv : progOk p with
  | false =>
    have HE := Lib.hid (show FormatProgramF p = ⟨#[]⟩ by simp [FormatProgramF, hv])
    clear hv
    go_wp2
    go_ret
    exact ⟨by rw [HE.out]; rfl, S1⟩
  | true =>
    have HE := Lib.hid (show FormatProgramF p = strOf (progL p) by simp [FormatProgramF, hv])
    have HV := Lib.hid (pgW_of hv); clear hv b1
    go_wp2_with fail
    refine (programText_c (HH.out.below S1) HV.out).mono ?_
    rintro e w2 ⟨rfl, b2⟩
    have s2 : Below w1.heap.size w1 w2 := bel
    have P2 := P1.to s2; clear P1
    have S2 : Below w.heap.size w w2 := below_tr S1 s2
    clear s2
    go_wp2
    go_ret
    exact ⟨by rw [HE.out]; rfl, S2⟩
set_option maxRecDepth 100000 in
set_option maxHeartbeats 8000000 in
theorem specFormatProgram_c {w : World} {p : Pgm} {cs : List Value} {bs : List Nat} (h : Rep w p.d cs bs) :
    Calls Tryz.prog 8 #[.agg cs.toArray] w fun e w' => e = .returned (.string (FormatProgramF p)) ∧ Below w.heap.size w w' := by
  have HH := Lib.hid h
  obtain ⟨A1, c1, A2, c2, d1, d2, rfl, rfl, g1, g2⟩ := Rep.pgm_iff.1 h
  have Garrays := Lib.hid g1
  have Gparts := Lib.hid g2
  clear h g1 g2
  cases hv : progOk p with
  | false =>
    have HE := Lib.hid (show FormatProgramF p = ⟨#[]⟩ by simp [FormatProgramF, hv])
    have HV := Lib.hid hv; clear hv
    go_enter Tryz.func8, Tryz.ntmps8
    go_wp2_with fail
    refine (specProgramValid_c (HH.out.below bel)).mono ?_
    rintro e w1 ⟨rfl, b1⟩
    have P1 : Box2 w1 w.heap.size (.slice A1 p.arrays.length c1) (.slice A2 p.parts.length c2) := by
      refine ⟨?_, ?_⟩ <;> (rw [b1.cell (by simp [World.setCell]; try omega)]; go_simp)
    have S1 : Below w.heap.size w w1 := bel
    rw [HV.out]
    go_wp2
    go_ret
    exact ⟨by rw [HE.out]; rfl, S1⟩
  | true =>
    have HE := Lib.hid (show FormatProgramF p = strOf (progL p) by simp [FormatProgramF, hv])
    have HP := Lib.hid (pgW_of hv)
    have HV := Lib.hid hv; clear hv
    have hn1 := HP.out.a4; have hn2 := HP.out.p4
    have hm1 : p.arrays.length ≤ 9223372036854775807 := by omega
    have hm2 : p.parts.length ≤ 9223372036854775807 := by omega
    have ht0 : (⟨#[112, 114, 111, 103, 114, 97, 109, 10]⟩ : ByteArray) = strOf (tx1 p 0) := rfl
    have HT0 := Lib.hid ht0; clear ht0
    go_enter Tryz.func8, Tryz.ntmps8
    go_wp2_with fail
    refine (specProgramValid_c (HH.out.below bel)).mono ?_
    rintro e w2 ⟨rfl, b2⟩
    have P2 : Box2 w2 w.heap.size (.slice A1 p.arrays.length c1) (.slice A2 p.parts.length c2) := by
      refine ⟨?_, ?_⟩ <;> (rw [b2.cell (by simp [World.setCell]; try omega)]; go_simp)
    have S2 : Below w.heap.size w w2 := bel
    rw [HV.out]
    have GA := Lib.hid (Garrays.out.below S2)
    have GP := Lib.hid (Gparts.out.below S2)
    clear b2
    go_wp2
    rw [HT0.out]
    go_loopw [3, 4] (fun u i wr => ∃ j : Nat, j ≤ p.arrays.length ∧ i = .int .i64 j ∧ u = .string (strOf (tx1 p j)) ∧ Below w2.heap.size w2 wr) (fun _ i _ => p.arrays.length - (intOf i).toNat)
    case atStart => exact ⟨0, Nat.zero_le _, rfl, rfl, Below.refl _ _⟩
    case round =>
      obtain ⟨j, hj, rfl, rfl, hb⟩ := hrel
      have PR := P2.to hb
      by_cases hlt : j < p.arrays.length
      · have HX := Lib.hid (HP.out.ar _ (List.getElem_mem hlt))
        have hst := tx1_snoc hlt
        have htl := tx1_len HP.out j
        obtain ⟨be, oe, cse, le, rfl, hble, hre, _, _, hce⟩ := (GA.out.below hb).sls_at Ar.d_size (k := j) hlt
        have Ge := Lib.hid hre
        obtain ⟨A2e, c2e, d2e, rfl, rfl, g1e, g2e⟩ := Rep.ar_iff.1 hre
        have k0e := (hce 0 _ rfl).1; rw [Nat.add_zero] at k0e
        have k1e := (hce 1 _ rfl).1
        have Q1e := Lib.hid g1e
        have Q2e := Lib.hid g2e
        clear hce hre g1e g2e
        obtain ⟨x, hx⟩ : ∃ x, x = p.arrays[j] := ⟨_, rfl⟩
        rw [← hx] at k0e k1e Q1e Q2e HX hst
        clear hx Ge
        have hns := arN_size HX.out
        have hdl := HX.out.d2
        have hdn : x.dims.length ≤ 9223372036854775807 := by omega
        obtain ⟨T, hT⟩ : ∃ T, T = tx1 p j := ⟨_, rfl⟩
        rw [← hT] at hst htl ⊢
        have HST := Lib.hid hst
        clear hT hst
        have hsT : (strOf T).size ≤ 100 := by rw [strOf_size]; exact htl
        have HD0 := Lib.hid (show (strOf T ++ (⟨#[97, 114, 114, 97, 121, 32]⟩ : ByteArray)) ++ x.name = strOf (T ++ arH x) by
          rw [← strOf_app, arH, ← strOf_app, ← strOf_eq (s := x.name) rfl, ByteArray.append_assoc]; rfl)
        have hal : (arH x).length ≤ 7 := by
          have : x.name.data.toList.length = x.name.size := Array.length_toList
          unfold arH; simp only [List.length_append, List.length_cons, List.length_nil]; omega
        obtain ⟨wo, rfl⟩ : ∃ wo, wo = wr := ⟨_, rfl⟩
        go_wp2
        rw [HD0.out]
        go_loopw [3, 5] (fun u i wr => ∃ q : Nat, q ≤ x.dims.length ∧ i = .int .i64 q ∧ u = .string (strOf ((T ++ arH x) ++ (x.dims.take q).flatMap dmT)) ∧ Below wo.heap.size wo wr) (fun _ i _ => x.dims.length - (intOf i).toNat)
        case atStart => exact ⟨0, Nat.zero_le _, rfl, by simp, Below.refl _ _⟩
        case round =>
          obtain ⟨q, hq, rfl, rfl, hb2⟩ := hrel
          have PR2 := PR.to hb2
          have m0 := (hb2.cell hble).trans k0e
          have m1 := (hb2.cell hble).trans k1e
          have hdt := flt_take dmT (N := 3) (M := 2) (l := x.dims) (fun d _ => dmT_len d) hdl q
          obtain ⟨Y, hY⟩ : ∃ Y, Y = (T ++ arH x) ++ (x.dims.take q).flatMap dmT := ⟨_, rfl⟩
          have hYl : (strOf Y).size ≤ 113 := by rw [strOf_size, hY]; simp only [List.length_append]; omega
          by_cases hlt2 : q < x.dims.length
          · have hs2 := flt_snoc dmT hlt2
            obtain ⟨b2, o2, rfl, _, hbl2, hc2, _⟩ := Q2e.out.ints_at hlt2
            have hd6 := HX.out.dim _ (List.getElem_mem hlt2)
            obtain ⟨n, hn⟩ : ∃ n : Nat, x.dims[q] = (n : Int) := ⟨x.dims[q].toNat, by omega⟩
            have hn9 : n < 100 := by omega
            have hcr : wr.cell? ⟨b2, o2 + q, none⟩ = some (.int .i64 (n : Int)) := by rw [hb2.cell hbl2, hc2, gi_eq hlt2, hn]
            have HY2 := Lib.hid (show (strOf Y ++ (⟨#[32]⟩ : ByteArray)) ++ strOf (decL n) = strOf ((T ++ arH x) ++ (x.dims.take (q + 1)).flatMap dmT) by
              rw [hs2, hn, ← List.append_assoc, ← hY, ← strOf_app, dmT, Int.toNat_natCast, show (32 :: decL n) = [32] ++ decL n from rfl, ← strOf_app, ByteArray.append_assoc]; rfl)
            have hdn2 : (strOf (decL n)).size ≤ 2 := by rw [strOf_size]; exact decL_len n
            have hsum : (strOf Y).size + 1 + (strOf (decL n)).size ≤ 9223372036854775807 := by omega
            rw [← hY]
            clear hY hs2 hd6 hn hc2
            go_wp2_with fail
            refine (l16Dec_c hn9).mono ?_
            rintro e w3 ⟨rfl, b3⟩
            go_wp2
            go_roundw
            case rel => exact ⟨q + 1, by omega, by go_num, by rw [← HY2.out], below_tr hb2 b3⟩
            case measure => simp [intOf]; omega
          · have hqq : q = x.dims.length := by omega
            have HY2 := Lib.hid (show strOf Y ++ (⟨#[10]⟩ : ByteArray) = strOf (tx1 p (j + 1)) by
              rw [HST.out, hY, hqq, List.take_length, arT, show (⟨#[10]⟩ : ByteArray) = strOf [10] from rfl, strOf_app]
              simp only [List.append_assoc])
            rw [← hY]
            clear hY
            subst hqq
            go_wp2
            go_roundw
            case rel => exact ⟨j + 1, by omega, by go_num, by rw [← HY2.out], below_tr hb hb2⟩
            case measure => simp [intOf]; omega
      · have hjj : j = p.arrays.length := by omega
        have HE1 := Lib.hid (show tx1 p j = tx2 p 0 by rw [hjj, tx1_end])
        subst hjj
        rw [HE1.out]
        obtain ⟨W3, hW3⟩ : ∃ W3, W3 = wr := ⟨_, rfl⟩
        rw [← hW3] at PR hb ⊢
        clear hW3
        go_wp2
        go_loopw [3, 6] (fun u i wr => ∃ k : Nat, k ≤ p.parts.length ∧ i = .int .i64 k ∧ u = .string (strOf (tx2 p k)) ∧ Below W3.heap.size W3 wr) (fun _ i _ => p.parts.length - (intOf i).toNat)
        case atStart => exact ⟨0, Nat.zero_le _, rfl, rfl, Below.refl _ _⟩
        case round =>
          obtain ⟨k, hk, rfl, rfl, hb4⟩ := hrel
          have hbw4 := below_tr hb hb4
          have PR4 := PR.to hb4
          by_cases hlt2 : k < p.parts.length
          · have HX := Lib.hid (HP.out.pr _ (List.getElem_mem hlt2))
            have hst := tx2_snoc hlt2
            have htl := tx2_len HP.out k
            obtain ⟨be, oe, cse, le, rfl, hble, hre, _, _, hce⟩ := (GP.out.below hbw4).sls_at Prt.d_size (k := k) hlt2
            have Ge := Lib.hid hre
            obtain ⟨A1e, c1e, A2e, c2e, d1e, d2e, rfl, rfl, g1e, g2e⟩ := Rep.prt_iff.1 hre
            have k0e := (hce 0 _ rfl).1; rw [Nat.add_zero] at k0e
            have k1e := (hce 1 _ rfl).1
            have Q1e := Lib.hid g1e
            have Q2e := Lib.hid g2e
            clear hce hre g1e g2e
            obtain ⟨x, hx⟩ : ∃ x, x = p.parts[k] := ⟨_, rfl⟩
            rw [← hx] at k0e k1e Q1e Q2e HX hst
            clear hx Ge
            have hb4l := HX.out.b4
            have hbn : x.body.length ≤ 9223372036854775807 := by omega
            have hnl := nest_ln HX.out
            obtain ⟨T, hT⟩ : ∃ T, T = tx2 p k := ⟨_, rfl⟩
            rw [← hT] at hst htl ⊢
            have HST := Lib.hid hst
            clear hT hst
            have hsT : (strOf T).size ≤ 50000 := by rw [strOf_size]; exact htl
            have hsN : (strOf (nestL x.nest)).size ≤ 792 := by rw [strOf_size]; exact hnl
            have hsum : (strOf T).size + 5 + (strOf (nestL x.nest)).size ≤ 9223372036854775807 := by omega
            have HD0 := Lib.hid (show (strOf T ++ (⟨#[112, 97, 114, 116, 10]⟩ : ByteArray)) ++ strOf (nestL x.nest) = strOf (T ++ prH x) by
              rw [← strOf_app, prH, ← strOf_app, ByteArray.append_assoc]; rfl)
            have hphl : (prH x).length ≤ 797 := by unfold prH; simp only [List.length_append, List.length_cons, List.length_nil]; omega
            obtain ⟨wo, rfl⟩ : ∃ wo, wo = wr := ⟨_, rfl⟩
            go_wp2_with fail
            refine (l2Text_c (Q1e.out.below bel) (by have := HX.out.n4; omega) (fun l hl => lp_sd (HX.out.nest l hl))).mono ?_
            rintro e w3 ⟨rfl, b3⟩
            have PR5 := PR4.to b3
            have m0 := (b3.cell hble).trans k0e
            have m1 := (b3.cell hble).trans k1e
            have hble3 := Nat.lt_of_lt_of_le hble b3.size
            go_wp2
            rw [HD0.out]
            go_loopw [3, 7] (fun u i wr => ∃ q : Nat, q ≤ x.body.length ∧ i = .int .i64 q ∧ u = .string (strOf ((T ++ prH x) ++ (x.body.take q).flatMap stT)) ∧ Below w3.heap.size w3 wr) (fun _ i _ => x.body.length - (intOf i).toNat)
            case atStart => exact ⟨0, Nat.zero_le _, rfl, by simp, Below.refl _ _⟩
            case round =>
              obtain ⟨q, hq, rfl, rfl, hb5⟩ := hrel
              have hb6 := below_tr b3 hb5
              have PR6 := PR5.to hb5
              have r0 := (hb5.cell hble3).trans m0
              have r1 := (hb5.cell hble3).trans m1
              have hdt := flt_take stT (N := 1861) (M := 4) (l := x.body) (fun s hs => stT_len (HX.out.body s hs)) hb4l q
              obtain ⟨Y, hY⟩ : ∃ Y, Y = (T ++ prH x) ++ (x.body.take q).flatMap stT := ⟨_, rfl⟩
              have hYl : (strOf Y).size ≤ 60000 := by rw [strOf_size, hY]; simp only [List.length_append]; omega
              by_cases hlt3 : q < x.body.length
              · have hs2 := flt_snoc stT hlt3
                have hsv := HX.out.body _ (List.getElem_mem hlt3)
                obtain ⟨bf, of, csf, lf, rfl, hblf, hrf, _, _, hcf⟩ := (Q2e.out.below hb6).sls_at Stm.d_size (k := q) hlt3
                have Gf := Lib.hid hrf
                obtain ⟨A2f, c2f, A5f, c5f, A8f, c8f, A9f, c9f, d2f, d5f, d8f, d9f, rfl, rfl, g1f, g2f, g3f, g4f, g5f, g6f, g7f, g8f, g9f⟩ := Rep.stm_iff.1 hrf
                have k0f := (hcf 0 _ rfl).1; rw [Nat.add_zero] at k0f
                have k1f := (hcf 1 _ rfl).1
                have k2f := (hcf 2 _ rfl).1
                have k3f := (hcf 3 _ rfl).1
                have k4f := (hcf 4 _ rfl).1
                have k5f := (hcf 5 _ rfl).1
                have k6f := (hcf 6 _ rfl).1
                have k7f := (hcf 7 _ rfl).1
                have k8f := (hcf 8 _ rfl).1
                have Q1f := Lib.hid g1f
                have Q2f := Lib.hid g2f
                have Q3f := Lib.hid g3f
                have Q4f := Lib.hid g4f
                have Q5f := Lib.hid g5f
                have Q6f := Lib.hid g6f
                have Q7f := Lib.hid g7f
                have Q8f := Lib.hid g8f
                have Q9f := Lib.hid g9f
                clear hcf hrf g1f g2f g3f g4f g5f g6f g7f g8f g9f
                obtain ⟨y, hy⟩ : ∃ y, y = x.body[q] := ⟨_, rfl⟩
                rw [← hy] at k0f k1f k2f k3f k4f k5f k6f k7f k8f Gf hs2 hsv
                clear hy
                obtain ⟨X2, x2, X5, x5, X8, x8, X9, x9, d2', d5', d8', d9', he, _, g1, g2, g3, g4, g5, g6, g7, g8, g9⟩ := Rep.stm_iff.1 Gf.out
                simp only [List.cons.injEq, Value.slice.injEq, true_and, and_true] at he
                obtain ⟨⟨rfl, rfl⟩, ⟨rfl, rfl⟩, ⟨rfl, rfl⟩, rfl, rfl⟩ := he
                have GWf := Lib.hid (Rep.acc_iff.2 ⟨_, _, _, rfl, rfl, g1, g2⟩ : Rep wr y.write.d [.string y.write.arr, .slice A2f y.write.subs.length c2f] d2')
                have GVf := Lib.hid (Rep.ex_iff.2 ⟨_, _, _, _, _, _, d5', d8', d9', rfl, rfl, g3, g4, g5, g6, g7, g8, g9⟩ : Rep wr y.value.d [.int .i64 y.value.kind, .int .i64 y.value.num, .slice A5f y.value.index.coefs.length c5f, .int .i64 y.value.index.const, .string y.value.read.arr, .slice A8f y.value.read.subs.length c8f, .slice A9f y.value.kids.length c9f] (d5' ++ d8' ++ d9'))
                clear g1 g2 g3 g4 g5 g6 g7 g8 g9 Gf
                have HB := Lib.hid (stm_tx hsv)
                have hU : (strOf (accL y.write)).size ≤ 99 := by rw [strOf_size]; exact accL_bd HB.out.1.1 HB.out.1.2
                have hV : (strOf (exL y.value)).size ≤ 1760 := by rw [strOf_size]; exact exL_le HB.out.2 (by omega)
                obtain ⟨U, hUe⟩ : ∃ u, u = strOf (accL y.write) := ⟨_, rfl⟩
                obtain ⟨V, hVe⟩ : ∃ u, u = strOf (exL y.value) := ⟨_, rfl⟩
                obtain ⟨YS, hYS⟩ : ∃ u, u = strOf Y := ⟨_, rfl⟩
                have HY2 := Lib.hid (show ((((YS ++ U) ++ (⟨#[61]⟩ : ByteArray)) ++ V) ++ (⟨#[10]⟩ : ByteArray)) = strOf ((T ++ prH x) ++ (x.body.take (q + 1)).flatMap stT) by
                  rw [hs2, ← List.append_assoc, ← hY, ← strOf_app Y, stT, stmL, ← strOf_app, ← strOf_app, ← strOf_app, hUe, hVe, hYS]
                  simp only [ByteArray.append_assoc]; rfl)
                rw [← hUe] at hU
                rw [← hVe] at hV
                rw [← hYS] at hYl
                rw [← hY, ← hYS]
                have HUE := Lib.hid hUe; have HVE := Lib.hid hVe
                clear hY hs2 hsv hUe hVe hYS
                have g1 : (9223372036854775807 < YS.size + U.size) = False := eq_false (by omega)
                have g2 : (9223372036854775807 < YS.size + U.size + 1) = False := eq_false (by omega)
                have g3 : (9223372036854775807 < YS.size + U.size + 1 + V.size) = False := eq_false (by omega)
                have g4 : (9223372036854775807 < YS.size + U.size + 1 + V.size + 1) = False := eq_false (by omega)
                go_wp2
                refine wp_region_noPanic ?_
                refine wp_region_held_drew (S := fun w' => Below wr.heap.size wr w' ∧ Box9 w' wr.heap.size (.string y.write.arr) (.slice A2f y.write.subs.length c2f) (.int .i64 y.value.kind) (.int .i64 y.value.num) (.slice A5f y.value.index.coefs.length c5f) (.int .i64 y.value.index.const) (.string y.value.read.arr) (.slice A8f y.value.read.subs.length c8f) (.slice A9f y.value.kids.length c9f)) (by kernel_rfl) (⟨bel, by go_simp, by go_simp, by go_simp, by go_simp, by go_simp, by go_simp, by go_simp, by go_simp, by go_simp⟩) (fun hHeld => ?_)
                refine goR 0 hHeld ?_
                refine goR 1 hHeld ?_
                refine goR 2 hHeld ?_
                refine goR 6 hHeld ?_
                refine goR 7 hHeld ?_
                refine stepR (i := 3) rfl (by kernel_rfl) (wanted_none rfl) (fun K hK => ?_)
                go_simp
                (refine (l3AccessText_c (GWf.out.below bel) HB.out.1.1 HB.out.1.2).mono ?_; rintro e w4 ⟨rfl, b4⟩; rw [← HUE.out]; have S4 : Below wr.heap.size wr w4 := bel; have B4 : Box9 w4 wr.heap.size (.string y.write.arr) (.slice A2f y.write.subs.length c2f) (.int .i64 y.value.kind) (.int .i64 y.value.num) (.slice A5f y.value.index.coefs.length c5f) (.int .i64 y.value.index.const) (.string y.value.read.arr) (.slice A8f y.value.read.subs.length c8f) (.slice A9f y.value.kids.length c9f) := by (refine ⟨?_, ?_, ?_, ?_, ?_, ?_, ?_, ?_, ?_⟩ <;> (rw [b4.cell (by simp)]; go_simp)))
                go_wp2_with fail
                refine hK.out _ _ (⟨S4, B4⟩) (fun hHeld => ?_)
                clear hK K
                try simp only [Act.put, aq0, aq1, aq2]
                refine takeR (i := 4) (v := ?_) rfl rfl (by kernel_rfl) (by kernel_rfl) (by kernel_rfl) (fun _ _ _ h => h) ?_ hHeld ?_
                rotate_left 1
                · intro w hSw; (try dsimp only at hSw); go_simp
                  try simp only [g1, g2, g3, g4, if_false]
                  try with_reducible rfl
                simp only [Act.put, aq0, aq1, aq2]
                refine takeR (i := 5) (v := ?_) rfl rfl (by kernel_rfl) (by kernel_rfl) (by kernel_rfl) (fun _ _ _ h => h) ?_ hHeld ?_
                rotate_left 1
                · intro w hSw; (try dsimp only at hSw); go_simp
                  try simp only [g1, g2, g3, g4, if_false]
                  try with_reducible rfl
                simp only [Act.put, aq0, aq1, aq2]
                refine stepR (i := 8) rfl (by kernel_rfl) (wanted_none rfl) (fun K hK => ?_)
                go_simp
                (refine (l3Text_c (GVf.out.below (by first | exact S4 | exact S4.drew)) (by omega) HB.out.2).mono ?_; rintro e w5 ⟨rfl, b5⟩; rw [← HVE.out]; replace b5 : Below w4.heap.size w4 w5 := (by first | exact b5 | exact of_drew b5); have S5 : Below wr.heap.size wr w5 := below_tr S4 b5)
                go_wp2_with fail
                refine hK.out _ _ (⟨S5, B4.to b5⟩) (fun hHeld => ?_)
                clear hK K
                try simp only [Act.put, aq0, aq1, aq2]
                refine takeR (i := 9) (v := ?_) rfl rfl (by kernel_rfl) (by kernel_rfl) (by kernel_rfl) (fun _ _ _ h => h) ?_ hHeld ?_
                rotate_left 1
                · intro w hSw; (try dsimp only at hSw); go_simp
                  try simp only [g1, g2, g3, g4, if_false]
                  try with_reducible rfl
                simp only [Act.put, aq0, aq1, aq2]
                refine takeR (i := 10) (v := ?_) rfl rfl (by kernel_rfl) (by kernel_rfl) (by kernel_rfl) (fun _ _ _ h => h) ?_ hHeld ?_
                rotate_left 1
                · intro w hSw; (try dsimp only at hSw); go_simp
                  try simp only [g1, g2, g3, g4, if_false]
                  try with_reducible rfl
                simp only [Act.put, aq0, aq1, aq2]
                refine goR 11 hHeld ?_
                refine wpAnyH_done (by kernel_rfl) ?_ _
                refine NoPanic.normal ?_
                go_wp2
                go_roundw
                case rel => exact ⟨q + 1, by omega, by go_num, by rw [← HY2.out]; try (simp only [ByteArray.append_assoc]), below_tr hb5 S5⟩
                case measure => simp [intOf]; omega
              · have hqq : q = x.body.length := by omega
                have HY2 := Lib.hid (show Y = tx2 p (k + 1) by rw [HST.out, hY, hqq, List.take_length, prT, List.append_assoc])
                rw [← hY]
                clear hY
                subst hqq
                go_wp2
                go_roundw
                case rel => exact ⟨k + 1, by omega, by go_num, by rw [HY2.out], below_tr hb4 hb6⟩
                case measure => simp [intOf]; omega
          · have hkk : k = p.parts.length := by omega
            have HE2 := Lib.hid (show tx2 p k = progL p by rw [hkk, tx2_end])
            subst hkk
            go_wp2
            go_ret
            exact ⟨by rw [HE.out, HE2.out]; rfl, below_tr S2 hbw4⟩
end Go.Proofs.YtbhniobgaoncaaaGreatDoor
