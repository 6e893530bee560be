/- The cell that an access denotes at a point, on both sides. -/
import Derived.Test.YtbhniobgaoncaaaGreatDoorZpArrs
import Derived.Test.YtbhniobgaoncaaaGreatDoorZpTyProgram
import Derived.Test.YtbhniobgaoncaaaGreatDoorZpSqArray
set_option linter.all false
set_option linter.unusedSimpArgs false
set_option linter.unusedVariables false
namespace Go.Proofs.YtbhniobgaoncaaaGreatDoor
open Go.ChangeShapes Go.WideShapes Go.ChangeAt Go.RowKit Go.Deep

theorem cellN_step {xs : List Ar} {a : Acc} {q : List Int} {j : Nat} (h : j < xs.length) : cellN xs a q (xs.length - j) j = if xs[j].name.toList = a.arr.toList then (if 0 ≤ atF a xs[j] q then cellsTo xs j + atF a xs[j] q else -1) else cellN xs a q (xs.length - (j + 1)) (j + 1) := by
  rw [show xs.length - j = (xs.length - (j + 1)) + 1 by omega, cellN, nthA_eq h]
theorem atN_step {subs : List Aff} {dims q : List Int} {k : Nat} {r : Int} (h : k < subs.length) : atN subs dims q (subs.length - k) k r = if 0 ≤ evF subs[k] q ∧ evF subs[k] q < gi dims k then atN subs dims q (subs.length - (k + 1)) (k + 1) (r * gi dims k + evF subs[k] q) else -1 := by
  rw [show subs.length - k = (subs.length - (k + 1)) + 1 by omega, atN, nthAf_eq h]
theorem cellsTo_step {xs : List Ar} {j : Nat} (h : j < xs.length) : cellsTo xs (j + 1) = cellsTo xs j + szF xs[j] := by rw [cellsTo, nthA_eq h]
/-- what the walk of an array's cells needs to know -/
theorem arr_bd {xs : List Ar} (h : arrsOk xs = true) {j : Nat} (hj : j < xs.length) : dimsOk xs[j].dims = true ∧ (0 ≤ cellsTo xs j ∧ cellsTo xs j ≤ 144) ∧ (1 ≤ szF xs[j] ∧ szF xs[j] ≤ 36) := by
  have h1 := arrsOk_at h
  have h2 := h1.2 j hj
  rw [nthA_eq hj] at h2
  have h3 := cellsTo_bd h j (Nat.le_of_lt hj)
  have h4 := prod_bd36 h2 (Nat.le_refl _)
  have := h1.1
  exact ⟨h2, by omega, h4⟩

section
variable {w : World} {bs bs' bs2 : List Nat}
set_option maxRecDepth 100000 in
set_option maxHeartbeats 8000000 in
theorem cell_c {p : Pgm} {a : Acc} {q : List Int} {cs cs' : List Value} {B : Option Addr} {m d : Nat} (h : Rep w p.d cs bs) (h' : Rep w a.d cs' bs') (hq : Rep w (ints q) [.slice B m d] bs2) (hok : arrsOk p.arrays = true) (hs : ∀ s ∈ a.subs, EvBd s q) :
    Calls Tryz.prog 181 #[.agg cs.toArray, .agg cs'.toArray, .slice B m d] w fun e w' => e = .returned (.int .i64 (cellF p.arrays a q)) ∧ Below w.heap.size w w' := by
  obtain ⟨A1, c1, A2, c2, d1, d2, rfl, rfl, g1, g2⟩ := Rep.pgm_iff.1 h
  have Garrays := Lib.hid g1
  have Gparts := Lib.hid g2
  clear h g1 g2
  obtain ⟨A2', c2', d2', rfl, rfl, g1', g2'⟩ := Rep.acc_iff.1 h'
  have Garr' := Lib.hid g1'
  have Gsubs' := Lib.hid g2'
  clear h' g1' g2'
  have hn : p.arrays.length ≤ 9223372036854775807 := Nat.le_trans Garrays.out.sls_len.2.1 Garrays.out.sls_len.2.2
  have hm : a.subs.length ≤ 9223372036854775807 := Nat.le_trans Gsubs'.out.sls_len.2.1 Gsubs'.out.sls_len.2.2
  have HQ := Lib.hid hq; clear hq
  have HOK := Lib.hid hok; clear hok
  have HS := Lib.hid hs; clear hs
  go_enter Tryz.func181, Tryz.ntmps181
  go_wp2
  go_loopw [7, 17] (fun u i wr => ∃ j : Nat, j ≤ p.arrays.length ∧ i = .int .i64 j ∧ u = .int .i64 (cellsTo p.arrays j) ∧ cellF p.arrays a q = cellN p.arrays a q (p.arrays.length - j) j ∧ Box2 wr (w.heap.size+1) (.string a.arr) (.slice A2' a.subs.length c2') ∧ Below w.heap.size w wr) (fun _ i _ => p.arrays.length - (intOf i).toNat)
  case atStart => exact ⟨0, Nat.zero_le _, rfl, rfl, rfl, ⟨by go_simp, by go_simp⟩, bel⟩
  case round =>
    obtain ⟨j, hj, rfl, rfl, hi, Qr, hb⟩ := hrel
    have hlq := lt_of_cell Qr.1
    have HI := Lib.hid hi; clear hi
    by_cases hlt : j < p.arrays.length
    · have HD := Lib.hid (HI.out.trans (cellN_step hlt))
      obtain ⟨hd1, hd2, hd3⟩ := arr_bd HOK.out hlt
      have HDI := Lib.hid hd1; clear hd1
      obtain ⟨be, oe, cse, le, rfl, hble, hre, _, _, hce⟩ := (Garrays.out.below hb).sls_at Ar.d_size (k := j) hlt
      have Ge := Lib.hid hre
      obtain ⟨A2e, c2e, d2e, rfl, rfl, g1e, g2e⟩ := Rep.ar_iff.1 hre
      have k0e := (hce 0 _ rfl).1; rw [Nat.add_zero] at k0e
      have k1e := (hce 1 _ rfl).1
      have Q1e := Lib.hid g1e
      have Q2e := Lib.hid g2e
      clear hce hre g1e g2e
      have hne : p.arrays[j].dims.length ≤ 9223372036854775807 := Nat.le_trans Q2e.out.ints_len.2.1 Q2e.out.ints_len.2.2
      by_cases hnm : p.arrays[j].name.toList = a.arr.toList
      case neg =>
        have hqn : (p.arrays[j].name.toList == a.arr.toList) = false := beq_eq_false_iff_ne.2 hnm
        have HF := Lib.hid (HD.out.trans (if_neg hnm)); clear hnm
        have HT := Lib.hid (cellsTo_step hlt)
        go_wp2_with fail
        refine (size_c (Ge.out.below bel) HDI.out).mono ?_
        rintro e w1 ⟨rfl, b1⟩
        have T1 : Below wr.heap.size wr w1 := bel
        have Q1 := Qr.to T1
        have S1 := below_tr hb T1
        clear b1 T1 Qr k0e k1e
        go_wp2
        go_roundw
        case rel => exact ⟨j + 1, by omega, by go_num, int_eq (by rw [HT.out]), HF.out, Q1, S1⟩
        case measure => simp [intOf]; omega
      have hqn : (p.arrays[j].name.toList == a.arr.toList) = true := beq_iff_eq.2 hnm
      have HF := Lib.hid (HD.out.trans (if_pos hnm)); clear hnm
      by_cases hll : a.subs.length = p.arrays[j].dims.length
      case neg =>
        have hql : ((a.subs.length : Int) != (p.arrays[j].dims.length : Int)) = true := ine_t (by omega)
        have HX := Lib.hid (HF.out.trans (if_neg (by rw [atF, if_neg hll]; omega)))
        clear hll
        go_wp2
        go_ret
        exact ⟨ret_int HX.out.symm, below_tr hb bel⟩
      have hql : ((a.subs.length : Int) != (p.arrays[j].dims.length : Int)) = false := ine_f (by omega)
      have HAT := Lib.hid (show atF a p.arrays[j] q = atN a.subs p.arrays[j].dims q a.subs.length 0 0 by rw [atF, if_pos hll])
      have HLL := Lib.hid hll; clear hll
      have BX : Below wr.heap.size wr (wr.alloc (.cells #[.string p.arrays[j].name, .slice A2e p.arrays[j].dims.length c2e] 63)) := bel
      have QX := Qr.to BX
      have SX := below_tr hb BX
      have R2 := Lib.hid (Q2e.out.below BX)
      obtain ⟨g, hg⟩ : ∃ g, g = wr.heap.size := ⟨_, rfl⟩
      have hgw : w.heap.size ≤ g := by rw [hg]; exact hb.size
      have HG := Lib.hid hg
      go_wp2
      rw [← HG.out]
      go_loopw [10, 40] (fun u i w2 => ∃ (k : Nat) (r : Int), k ≤ a.subs.length ∧ i = .int .i64 k ∧ u = .int .i64 r ∧ 0 ≤ r ∧ r < prodTo p.arrays[j].dims k ∧ atF a p.arrays[j] q = atN a.subs p.arrays[j].dims q (a.subs.length - k) k r ∧ Box2 w2 (w.heap.size+1) (.string a.arr) (.slice A2' a.subs.length c2') ∧ Box2 w2 g (.string p.arrays[j].name) (.slice A2e p.arrays[j].dims.length c2e) ∧ Rep w2 (ints p.arrays[j].dims) [.slice A2e p.arrays[j].dims.length c2e] le ∧ Below w.heap.size w w2) (fun _ i _ => a.subs.length - (intOf i).toNat)
      case atStart => exact ⟨0, 0, Nat.zero_le _, rfl, rfl, by omega, by simp [prodTo], HAT.out, QX, by rw [HG.out]; exact Box2.new _ _ _ _, R2.out, SX⟩
      case round =>
        clear QX SX BX hg Qr k0e k1e
        obtain ⟨k, r, hk, rfl, rfl, hr0, hr1, hat, Q2, X2, hr2, hb2⟩ := hrel
        have hlq2 := lt_of_cell Q2.1
        have hlx2 := lt_of_cell X2.1
        have HA := Lib.hid hat; clear hat
        have HR := Lib.hid hr2; clear hr2
        by_cases hkt : k < a.subs.length
        · have hkd : k < p.arrays[j].dims.length := by rw [← HLL.out]; exact hkt
          have HST := Lib.hid (HA.out.trans (atN_step hkt))
          have hdk := (dims_bd HDI.out).2 k hkd
          obtain ⟨bd, od, hAd, _, hbd, hcd, _⟩ := HR.out.ints_at hkd
          subst hAd
          obtain ⟨bu, ou, csu, lu, rfl, hblu, hru, _, _, hcu⟩ := (Gsubs'.out.below hb2).sls_at Aff.d_size (k := k) hkt
          have Gu := Lib.hid hru
          obtain ⟨A1u, c1u, d1u, rfl, rfl, g1u, g2u⟩ := Rep.aff_iff2.1 hru
          have k0u := (hcu 0 _ rfl).1; rw [Nat.add_zero] at k0u
          have k1u := (hcu 1 _ rfl).1
          have Q1u := Lib.hid g1u
          have Q2u := Lib.hid g2u
          clear hcu hru g1u g2u
          have hev := HS.out _ (List.getElem_mem hkt)
          have hbe := hev.ev q.length
          have hl4 := hev.len4
          obtain ⟨v, hv⟩ : ∃ v, v = evF a.subs[k] q := ⟨_, rfl⟩
          have hvb : -40000000000000 ≤ v ∧ v ≤ 40000000000000 := by rw [hv]; unfold evF; omega
          rw [← hv] at HST
          have HEV := Lib.hid hev
          have HV := Lib.hid hv
          clear hev hbe hl4 hv
          go_wp2_with fail
          refine (eval_d (Gu.out.below bel) (HQ.out.below (below_tr hb2 bel)) HEV.out).mono ?_
          rintro e w3 ⟨rfl, b3⟩
          rw [← HV.out]
          have T3 : Below wr.heap.size wr w3 := bel
          have Q3 := Q2.to T3
          have X3 := X2.to T3
          have R3 := Lib.hid (HR.out.below T3)
          have C3 := (T3.cell (p := ⟨bd, od + k, none⟩) hbd).trans hcd
          have S3 := below_tr hb2 T3
          clear T3 b3 Q2 X2 HR hcd hb2 k0u k1u
          by_cases hin : 0 ≤ v ∧ v < gi p.arrays[j].dims k
          case neg =>
            have HIB := Lib.hid (show inB v 0 (gi p.arrays[j].dims k - 1) = false by
              by_cases h0 : 0 ≤ v
              · exact inB_hi (by omega)
              · exact inB_lo h0)
            have HX := Lib.hid (HF.out.trans (if_neg (by rw [HST.out, if_neg hin]; omega)))
            clear hin
            go_wp2_with fail
            refine (within_c _ _ _ _).mono ?_
            rintro e w' ⟨rfl, rfl⟩
            rw [HIB.out]
            go_wp2
            go_ret
            exact ⟨ret_int HX.out.symm, S3⟩
          have HIB := Lib.hid (show inB v 0 (gi p.arrays[j].dims k - 1) = true from inB_true hin.1 (by omega))
          have HAT2 := Lib.hid (HST.out.trans (if_pos hin))
          have hsb := step_bd HDI.out hkd hr0 hr1 hin.1 hin.2
          clear hin
          go_wp2_with fail
          refine (within_c _ _ _ _).mono ?_
          rintro e w' ⟨rfl, rfl⟩
          rw [HIB.out]
          go_wp2
          go_roundw
          case rel => exact ⟨k + 1, r * gi p.arrays[j].dims k + v, by omega, by go_num, rfl, hsb.2.1, hsb.2.2.1, HAT2.out, Q3, X3, R3.out, S3⟩
          case measure => simp [intOf]; omega
        · have hkk : k = a.subs.length := by omega
          subst hkk
          have hatr := HA.out
          rw [Nat.sub_self] at hatr
          have HX := Lib.hid (HF.out.trans (by rw [hatr, atN, if_pos hr0]))
          have hp36 := prod_bd36 HDI.out (j := a.subs.length) (by rw [HLL.out]; exact Nat.le_refl _)
          clear hatr
          go_wp2
          go_ret
          exact ⟨ret_int HX.out.symm, hb2⟩
    · have hjj : j = p.arrays.length := by omega
      subst hjj
      have HX := Lib.hid (show cellF p.arrays a q = -1 by rw [HI.out, Nat.sub_self]; rfl)
      go_wp2
      go_ret
      exact ⟨ret_int HX.out.symm, hb⟩

set_option maxRecDepth 100000 in
set_option maxHeartbeats 8000000 in
theorem l4Cell_c {xs : List Ar} {a : Acc} {q : List Int} {cs' : List Value} {A B : Option Addr} {n c m d : Nat} (h : Rep w (sls Ar.d xs) [.slice A n c] bs) (h' : Rep w a.d cs' bs') (hq : Rep w (ints q) [.slice B m d] bs2) (hok : arrsOk xs = true) (hs : ∀ s ∈ a.subs, EvBd s q) (hs1 : 1 ≤ a.subs.length) :
    Calls Tryz.prog 171 #[.slice A n c, .agg cs'.toArray, .slice B m d] w fun e w' => e = .returned (.int .i64 (cellF xs a q)) ∧ Below w.heap.size w w' := by
  obtain ⟨rfl, hn1, hn2⟩ := h.sls_len
  have hn : xs.length ≤ 9223372036854775807 := Nat.le_trans hn1 hn2
  clear hn1 hn2
  obtain ⟨A2', c2', d2', rfl, rfl, g1', g2'⟩ := Rep.acc_iff.1 h'
  have Garr' := Lib.hid g1'
  have Gsubs' := Lib.hid g2'
  clear h' g1' g2'
  have hm : a.subs.length ≤ 9223372036854775807 := Nat.le_trans Gsubs'.out.sls_len.2.1 Gsubs'.out.sls_len.2.2
  have HH := Lib.hid h; clear h
  have HQ := Lib.hid hq; clear hq
  have HOK := Lib.hid hok; clear hok
  have HS := Lib.hid hs; clear hs
  go_enter Tryz.func171, Tryz.ntmps171
  go_wp2
  go_loopw [7, 8] (fun u i wr => ∃ j : Nat, j ≤ xs.length ∧ i = .int .i64 j ∧ u = .int .i64 (cellsTo xs j) ∧ cellF xs a q = cellN xs a q (xs.length - j) j ∧ Box2 wr w.heap.size (.string a.arr) (.slice A2' a.subs.length c2') ∧ Below w.heap.size w wr) (fun _ i _ => xs.length - (intOf i).toNat)
  case atStart => exact ⟨0, Nat.zero_le _, rfl, rfl, rfl, ⟨by go_simp, by go_simp⟩, bel⟩
  case round =>
    obtain ⟨j, hj, rfl, rfl, hi, Qr, hb⟩ := hrel
    have hlq := lt_of_cell Qr.1
    have HI := Lib.hid hi; clear hi
    by_cases hlt : j < xs.length
    · have HD := Lib.hid (HI.out.trans (cellN_step hlt))
      obtain ⟨hd1, hd2, hd3⟩ := arr_bd HOK.out hlt
      have HDI := Lib.hid hd1; clear hd1
      obtain ⟨be, oe, cse, le, rfl, hble, hre, _, _, hce⟩ := (HH.out.below hb).sls_at Ar.d_size (k := j) hlt
      have Ge := Lib.hid hre
      obtain ⟨A2e, c2e, d2e, rfl, rfl, g1e, g2e⟩ := Rep.ar_iff.1 hre
      have k0e := (hce 0 _ rfl).1; rw [Nat.add_zero] at k0e
      have k1e := (hce 1 _ rfl).1
      have Q1e := Lib.hid g1e
      have Q2e := Lib.hid g2e
      clear hce hre g1e g2e
      have hne : xs[j].dims.length ≤ 9223372036854775807 := Nat.le_trans Q2e.out.ints_len.2.1 Q2e.out.ints_len.2.2
      by_cases hnm : xs[j].name.toList = a.arr.toList
      case neg =>
        have hqn : (xs[j].name.toList == a.arr.toList) = false := beq_eq_false_iff_ne.2 hnm
        have HF := Lib.hid (HD.out.trans (if_neg hnm)); clear hnm
        have HT := Lib.hid (cellsTo_step hlt)
        go_wp2_with fail
        go_quiet (fail)
        go_wp2_with fail
        refine (l4Size_c (Ge.out.below bel) HDI.out).mono ?_
        rintro e w1 ⟨rfl, b1⟩
        have T1 : Below wr.heap.size wr w1 := bel
        have Q1 := Qr.to T1
        have S1 := below_tr hb T1
        clear b1 T1 Qr k0e k1e
        go_wp2
        go_roundw
        case rel => exact ⟨j + 1, by omega, by go_num, int_eq (by rw [HT.out]), HF.out, Q1, S1⟩
        case measure => simp [intOf]; omega
      have hqn : (xs[j].name.toList == a.arr.toList) = true := beq_iff_eq.2 hnm
      have HF := Lib.hid (HD.out.trans (if_pos hnm)); clear hnm
      go_wp2_with fail
      go_quiet (fail)
      go_wp2
      go_loopw [9, 10] (fun u i w2 => ∃ (k : Nat) (r : Int), k ≤ a.subs.length ∧ i = .int .i64 k ∧ u = .int .i64 r ∧ 0 ≤ r ∧ r < prodTo xs[j].dims k ∧ (a.subs.length = xs[j].dims.length ∨ k = 0) ∧ (a.subs.length = xs[j].dims.length → atF a xs[j] q = atN a.subs xs[j].dims q (a.subs.length - k) k r) ∧ Box2 w2 w.heap.size (.string a.arr) (.slice A2' a.subs.length c2') ∧ Below w.heap.size w w2) (fun _ i _ => a.subs.length - (intOf i).toNat)
      case atStart => exact ⟨0, 0, Nat.zero_le _, rfl, rfl, by omega, by simp [prodTo], .inr rfl, fun e => by rw [atF, if_pos e]; rfl, Qr, below_drewN hb _⟩
      case round =>
        clear Qr k0e k1e
        obtain ⟨k, r, hk, rfl, rfl, hr0, hr1, hk0, hat, Q2, S2⟩ := hrel
        have hlq2 := lt_of_cell Q2.1
        have HA := Lib.hid hat; clear hat
        obtain ⟨bf, of, csf, lf, heqf, hblf, hrf, _, _, hcf⟩ := (HH.out.below S2).sls_at Ar.d_size (k := j) hlt
        obtain ⟨rfl, rfl⟩ : be = bf ∧ oe = of := by simpa using heqf
        have Gf := Lib.hid hrf
        obtain ⟨A2f, c2f, d2f, rfl, rfl, g1f, g2f⟩ := Rep.ar_iff.1 hrf
        have k0f := (hcf 0 _ rfl).1; rw [Nat.add_zero] at k0f
        have k1f := (hcf 1 _ rfl).1
        have Q1f := Lib.hid g1f
        have Q2f := Lib.hid g2f
        clear hcf hrf g1f g2f
        by_cases hkt : k < a.subs.length
        · by_cases hll : a.subs.length = xs[j].dims.length
          case neg =>
            have hql : ((a.subs.length : Int) != (xs[j].dims.length : Int)) = true := ine_t (by omega)
            have HX := Lib.hid (HF.out.trans (if_neg (by rw [atF, if_neg hll]; omega)))
            clear hll hk0
            go_wp2_with fail
            go_quiet (fail)
            go_wp2
            go_ret
            exact ⟨ret_int HX.out.symm, below_drewN S2 _⟩
          have hql : ((a.subs.length : Int) != (xs[j].dims.length : Int)) = false := ine_f (by omega)
          have hkd : k < xs[j].dims.length := by rw [← hll]; exact hkt
          have HST := Lib.hid ((HA.out hll).trans (atN_step hkt))
          have HLL := Lib.hid hll; clear hll hk0
          have hdk := (dims_bd HDI.out).2 k hkd
          obtain ⟨bd, od, hAd, _, hbd, hcd, _⟩ := Q2f.out.ints_at hkd
          have HAD := Lib.hid hAd
          obtain ⟨bu, ou, csu, lu, rfl, hblu, hru, _, _, hcu⟩ := (Gsubs'.out.below S2).sls_at Aff.d_size (k := k) hkt
          have Gu := Lib.hid hru
          obtain ⟨A1u, c1u, d1u, rfl, rfl, g1u, g2u⟩ := Rep.aff_iff2.1 hru
          have k0u := (hcu 0 _ rfl).1; rw [Nat.add_zero] at k0u
          have k1u := (hcu 1 _ rfl).1
          have Q1u := Lib.hid g1u
          have Q2u := Lib.hid g2u
          clear hcu hru g1u g2u
          have hev := HS.out _ (List.getElem_mem hkt)
          have hbe := hev.ev q.length
          have hl4 := hev.len4
          obtain ⟨v, hv⟩ : ∃ v, v = evF a.subs[k] q := ⟨_, rfl⟩
          have hvb : -40000000000000 ≤ v ∧ v ≤ 40000000000000 := by rw [hv]; unfold evF; omega
          rw [← hv] at HST
          have HEV := Lib.hid hev
          have HV := Lib.hid hv
          clear hev hbe hl4 hv hAd
          go_wp2_with fail
          go_quiet (fail)
          go_wp2_with fail
          refine (l1Eval_d (Gu.out.below bel) (HQ.out.below (below_tr S2 bel)) HEV.out).mono ?_
          rintro e w3 ⟨rfl, b3⟩
          rw [← HV.out]
          have T3 : Below wr.heap.size wr w3 := bel
          have Q3 := Q2.to T3
          have C3 := (T3.cell (p := ⟨bd, od + k, none⟩) hbd).trans hcd
          have k1g := (T3.cell hblf).trans k1f
          rw [HAD.out] at k1g
          have S3 := below_tr S2 T3
          clear T3 b3 Q2 hcd k0u k1u k0f k1f
          by_cases hin0 : v < 0
          · have HX := Lib.hid (HF.out.trans (if_neg (by rw [HST.out, if_neg (by omega)]; omega)))
            go_wp2
            go_ret
            exact ⟨ret_int HX.out.symm, S3⟩
          by_cases hin1 : v < gi xs[j].dims k
          case neg =>
            have HX := Lib.hid (HF.out.trans (if_neg (by rw [HST.out, if_neg (by omega)]; omega)))
            go_wp2
            go_ret
            exact ⟨ret_int HX.out.symm, S3⟩
          have HAT2 := Lib.hid (HST.out.trans (if_pos ⟨by omega, hin1⟩))
          have hsb := step_bd HDI.out hkd hr0 hr1 (show 0 ≤ v by omega) hin1
          go_wp2
          go_roundw
          case rel => exact ⟨k + 1, r * gi xs[j].dims k + v, by omega, by go_num, rfl, hsb.2.1, hsb.2.2.1, .inl HLL.out, fun _ => HAT2.out, Q3, S3⟩
          case measure => simp [intOf]; omega
        · have hkk : k = a.subs.length := by omega
          subst hkk
          have hll : a.subs.length = xs[j].dims.length := hk0.resolve_right (by omega)
          have hatr := HA.out hll
          rw [Nat.sub_self] at hatr
          have HX := Lib.hid (HF.out.trans (by rw [hatr, atN, if_pos hr0]))
          have hp36 := prod_bd36 HDI.out (j := a.subs.length) (by omega)
          clear hatr hll hk0
          go_wp2
          go_ret
          exact ⟨ret_int HX.out.symm, S2⟩
    · have hjj : j = xs.length := by omega
      subst hjj
      have HX := Lib.hid (show cellF xs a q = -1 by rw [HI.out, Nat.sub_self]; rfl)
      go_wp2
      go_ret
      exact ⟨ret_int HX.out.symm, hb⟩
end
end Go.Proofs.YtbhniobgaoncaaaGreatDoor
