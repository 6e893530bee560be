/- Cells that are read before they are written, on both sides: InputCells. -/
import Derived.Test.YtgimggpmnemkbaaGreatZFlag
set_option linter.all false
set_option linter.unusedSimpArgs false
set_option linter.unusedVariables false
namespace Go.Proofs.YtgimggpmnemkbaaGreat
open Go.ChangeShapes Go.WideShapes Go.ChangeAt Go.RowKit Go.Deep

theorem InputF_n {p : Pgm} (h : progOk p = false) : InputF p = [] := by unfold InputF; rw [h]; rfl
theorem InputF_y {p : Pgm} (h : progOk p = true) : InputF p = chF (inpB (usesF p) (usesF p).length) (cellsF p.arrays).toNat := by unfold InputF; rw [h]; rfl
theorem InputF_len (p : Pgm) : (InputF p).length ≤ 1000000 := by
  cases h : progOk p with
  | false => rw [InputF_n h]; simp
  | true =>
    rw [InputF_y h]
    have h1 := chF_len (inpB (usesF p) (usesF p).length) (cellsF p.arrays).toNat
    have := cellsF_bd (progOk_arr h)
    omega
/-- behind the first t reads of instance i -/
def inpR (us : List Us) (i t : Nat) (k : Nat) : Bool := inpB us i k || (((nthU us i).reads.take t).contains (k : Int) && !wrB us i k)
theorem inpR_0 (us : List Us) (i k : Nat) : inpR us i 0 k = inpB us i k := by simp [inpR]
theorem inpR_end (us : List Us) (i k : Nat) : inpR us i (nthU us i).reads.length k = inpB us (i + 1) k := by unfold inpR; rw [List.take_length, inpB]
theorem inpR_set {us : List Us} {i t kc : Nat} (ht : t < (nthU us i).reads.length) (hc : (nthU us i).reads[t] = (kc : Int)) (k : Nat) : inpR us i (t + 1) k = if k = kc then (inpR us i t kc || !wrB us i kc) else inpR us i t k := by
  unfold inpR
  rw [List.take_succ_eq_append_getElem ht, hc]
  simp only [List.contains_eq_mem, List.mem_append, List.mem_singleton]
  by_cases e : k = kc
  · subst e
    rw [if_pos rfl]
    simp only [or_true, decide_true, Bool.true_and]
    cases inpB us i k <;> cases decide ((k : Int) ∈ List.take t (nthU us i).reads) <;> cases wrB us i k <;> rfl
  · rw [if_neg e]
    have : ¬ (k : Int) = (kc : Int) := by omega
    simp only [this, or_false]

theorem row_made {w : World} {g n : Nat} {t : TypeId} {v : Value} (h : w.heap.size = g) : (w.alloc (.cells (madeCells #[v] n) t)).rowIs g t n (fun _ => v) := h ▸ World.rowIs_made w _ _ _
set_option maxRecDepth 100000 in
set_option maxHeartbeats 8000000 in
theorem implInputCells_c {w : World} {p : Pgm} {cs : List Value} {bs : List Nat} (h : Rep w p.d cs bs) :
    Calls Tryz.prog 49 #[.agg cs.toArray] w (MadeInts w (InputF p)) := by
  have HP := Lib.hid h
  obtain ⟨A1, c1, A2, c2, d1, d2, rfl, rfl, g1, g2⟩ := Rep.pgm_iff.1 h
  have Garrays := Lib.hid g1
  have Gparts := Lib.hid g2
  clear h g1 g2
  cases hv : progOk p with
  | false =>
    rw [InputF_n hv]
    have HY := Lib.hid ((InstsF_2 p).trans hv)
    clear hv
    go_enter Tryz.func49, Tryz.ntmps49
    go_wp2_with fail
    refine (instances_c (HP.out.below bel)).mono ?_
    rintro e w1 ⟨A3, n3, c3, bs3, rfl, _, _, _, b1⟩
    have S1 : Below w.heap.size w w1 := bel
    rw [HY.out]
    go_wp2
    go_ret
    exact MadeInts.nil S1
  | true =>
    rw [InputF_y hv]
    have HY := Lib.hid ((InstsF_2 p).trans hv)
    have HZ := Lib.hid (InstsF_ok hv)
    have hln := (progOk_all hv).2.2
    have hok := progOk_arr hv
    have HV := Lib.hid hv; clear hv
    have hcb := cellsF_bd hok
    have HOK := Lib.hid hok; clear hok
    obtain ⟨m, hm⟩ : ∃ m, m = (cellsF p.arrays).toNat := ⟨_, rfl⟩
    have hmc : cellsF p.arrays = (m : Int) := by omega
    rw [← hm]
    have HM := Lib.hid hm; clear hm
    have HMC := Lib.hid hmc
    have hmb : m ≤ 144 := by omega
    clear hmc hcb
    have ul := Lib.hid (usesF_len p)
    have hmk := fun W => run_make_row' (P := Tryz.prog) 110 4 (.bool false) 1 Tryz.underlying110 Tryz.infoBool rfl .i64 .i64 m (by omega) (by omega) W
    go_enter Tryz.func49, Tryz.ntmps49
    go_wp2_with fail
    refine (instances_c (HP.out.below bel)).mono ?_
    rintro e w1 ⟨A3, n3, c3, bs3, rfl, r1, _, _, b1⟩
    have P1 : Box2 w1 w.heap.size (.slice A1 p.arrays.length c1) (.slice A2 p.parts.length c2) := by
      refine ⟨?_, ?_⟩ <;> (rw [b1.cell (by simp [World.setCell]; try omega)]; go_simp)
    have S1 : Below w.heap.size w w1 := bel
    clear b1
    rw [HY.out]
    rw [HZ.out] at r1
    obtain ⟨rfl, _, _⟩ := r1.sls_len
    have R1 := Lib.hid r1; clear r1
    have HP1 := Lib.hid (HP.out.below S1)
    go_upto_region 4 with (fail)
    go_cut [5, 6] (fun u5 u6 wc => ∃ g1 g2 : Nat, u5 = .slice (some ⟨g1, 0, none⟩) m m ∧ u6 = .slice (some ⟨g2, 0, none⟩) m m ∧ g1 ≠ g2 ∧ w1.heap.size ≤ g1 ∧ w1.heap.size ≤ g2 ∧ wc.rowIs g1 4 m (fun _ => .bool false) ∧ wc.rowIs g2 4 m (fun _ => .bool false) ∧ Below w1.heap.size w1 wc)
    case first =>
      go_region_held3 (fun w' => Box2 w' w.heap.size (.slice A1 p.arrays.length c1) (.slice A2 p.parts.length c2)) (first | (exact P1.to bel) | skip)
        (first | (go_at_call 86; refine (cells_c (HP1.out.below bel) HOK.out).mono ?_; rintro e w2 ⟨rfl, b2⟩; rw [HMC.out]; have z2 := b2.size; (try simp at z2)))
      all_goals (
        go_wp2_with fail
        go_meet
        exact ⟨_, _, rfl, rfl, by first | omega | (simp; done) | (simp; omega), by first | omega | (simp; omega), by first | omega | (simp; omega), by first | (refine row_made ?_; simp; done) | (refine (row_made ?_).alloc _; simp; done) | exact (row_below (World.rowIs_made _ _ _ _) b2).alloc _, by first | (refine row_made ?_; simp; done) | (refine (row_made ?_).alloc _; simp; done) | exact (row_below (World.rowIs_made _ _ _ _) b2).alloc _, bel⟩)
    case rest =>
      obtain ⟨g1, g2, rfl, rfl, hne, hg1, hg2, hr1, hr2, hbw⟩ := hcut
      rename World => w2
      have P2 := P1.to hbw
      have S2 := below_tr S1 hbw
      have hz1 := S1.size
      have HR1 := Lib.hid hr1
      have HR2 := Lib.hid hr2
      have R2 := Lib.hid (R1.out.below hbw)
      clear hr1 hr2 hmk
      go_wp2
      go_loopw [28] (fun i wr => ∃ j : Nat, j ≤ (instsF p).length ∧ i = .int .i64 j ∧ wr.rowIs g1 4 m (fun k => .bool (wrB (usesF p) j k)) ∧ wr.rowIs g2 4 m (fun k => .bool (inpB (usesF p) j k)) ∧ Below w1.heap.size w1 wr) (fun i _ => (instsF p).length - (intOf i).toNat)
      case atStart => exact ⟨0, Nat.zero_le _, rfl, HR1.out.congr (fun k hk => by simp [wrB]), HR2.out.congr (fun k hk => by simp [inpB]), hbw⟩
      case round =>
        obtain ⟨j, hj, rfl, hrow, hrow2, hb⟩ := hrel
        have Pr := P1.to hb
        have Sr := below_tr S1 hb
        have lp := lt_of_cell Pr.1
        have HROW := Lib.hid hrow; clear hrow
        have HROW2 := Lib.hid hrow2; clear hrow2
        by_cases hlt : j < (instsF p).length
        case neg =>
          have hjj : j = (instsF p).length := by omega
          subst hjj
          have HR := Lib.hid (show wr.rowIs g2 4 m (fun k => .bool (inpB (usesF p) (usesF p).length k)) by rw [ul.out]; exact HROW2.out)
          go_wp2_with fail
          refine (chosen_c HR.out (by omega)).mono ?_
          rintro e w4 h3
          obtain ⟨A4, n4, c4, bs4, rfl, h4⟩ := h3.low Sr
          go_wp2
          go_ret
          exact ⟨A4, n4, c4, bs4, rfl, h4⟩
        have HIN := Lib.hid (InOk.of_mem (List.getElem_mem hlt))
        have HUJ := Lib.hid (usesF_get' hlt)
        have hnu : nthU (usesF p) j = useF p (instsF p)[j] := by rw [nthU_eq (usesF_at hlt), HUJ.out]
        obtain ⟨⟨kw, hkw, hkm⟩, hrd⟩ := use_cells HV.out HIN.out
        rw [← hnu] at hkw hrd
        rw [← HM.out] at hkm
        have HRD := Lib.hid hrd
        have HNU := Lib.hid hnu
        clear hrd hnu
        have HST := Lib.hid (fun k => wrB_set (usesF_at hlt) hkw k)
        have HPr := Lib.hid (HP.out.below Sr)
        obtain ⟨be, oe, cse, le, rfl, hble, hre, _, _, hce⟩ := (R1.out.below hb).sls_at In.d_size (k := j) hlt
        have Ge := Lib.hid hre
        obtain ⟨A3e, c3e, d3e, rfl, rfl, g1e, g2e, g3e⟩ := Rep.in_iff.1 hre
        have k0e := (hce 0 _ rfl).1; rw [Nat.add_zero] at k0e
        have k1e := (hce 1 _ rfl).1
        have k2e := (hce 2 _ rfl).1
        have Q1e := Lib.hid g1e
        have Q2e := Lib.hid g2e
        have Q3e := Lib.hid g3e
        clear hce hre g1e g2e g3e
        go_wp2_with fail
        refine (touched_c (HPr.out.below bel) (Ge.out.below bel) HIN.out HV.out).mono ?_
        rintro e w4 ⟨A6, c6, bs6, rfl, r6, _, hb6, b4⟩
        rw [← HNU.out] at r6 ⊢
        obtain ⟨RD, hRD⟩ : ∃ RD, RD = (nthU (usesF p) j).reads := ⟨_, rfl⟩
        rw [← hRD] at r6 ⊢
        rw [hkw]
        have T4 : Below wr.heap.size wr w4 := bel
        have HB6 := Lib.hid (show ∀ y ∈ bs6, wr.heap.size ≤ y from fun y hy => by have := hb6 y hy; simp at this; omega)
        have hrn : RD.length ≤ 9223372036854775807 := Nat.le_trans r6.ints_len.2.1 r6.ints_len.2.2
        have R6 := Lib.hid r6
        have HW4 := Lib.hid (row_below HROW.out T4)
        have HI4 := Lib.hid (row_below HROW2.out T4)
        have hl1 := HROW.out.lt
        have hl2 := HROW2.out.lt
        have HRDE := Lib.hid hRD
        have S4 : Below w1.heap.size w1 w4 := below_tr hb T4
        clear b4 hb6 r6 hRD
        go_wp2
        go_loopw [40] (fun i wv => ∃ t : Nat, t ≤ RD.length ∧ i = .int .i64 t ∧ wv.rowIs g2 4 m (fun k => .bool (inpR (usesF p) j t k)) ∧ Touch [g2] w4 wv) (fun i _ => RD.length - (intOf i).toNat)
        case atStart => exact ⟨0, Nat.zero_le _, rfl, HI4.out.congr (fun k hk => by rw [inpR_0]), Touch.refl _ _⟩
        case round =>
          obtain ⟨t, ht, rfl, hrow, htt⟩ := hrel
          have HROWI := Lib.hid hrow; clear hrow
          have hw5 := HW4.out.of_block (htt.block g1 HW4.out.lt (by simpa using hne))
          have HW5 := Lib.hid hw5; clear hw5
          by_cases hlt2 : t < RD.length
          case neg =>
            have hjj : t = RD.length := by omega
            subst hjj
            have HI6 := Lib.hid (HROWI.out.congr (g := fun k => .bool (inpB (usesF p) (j + 1) k)) (fun k _ => by rw [HRDE.out, inpR_end]))
            have hck := HW5.out.cell hkm
            have hfz := HW5.out.frozen kw
            have hlg := HW5.out.lt
            have HR3 := Lib.hid ((HW5.out.set kw (.bool true)).congr (g := fun k => .bool (wrB (usesF p) (j + 1) k)) (fun k _ => by rw [HST.out k]; by_cases e : k = kw <;> simp [e]))
            go_wp2
            go_roundw
            case rel => exact ⟨j + 1, by omega, by go_num, HR3.out, HI6.out.of_block (Below.heap_setCell _ _ _ _ (by simpa using Ne.symm hne)), (S4.trans (htt.below S4.size (by simpa using hg2))).setCell (by simpa using hg1) _⟩
            case measure => simp [intOf]; omega
          obtain ⟨kc, hkc, hkcm⟩ := HRD.out _ (by rw [← HRDE.out]; exact List.getElem_mem hlt2)
          rw [← HM.out] at hkcm
          have R7 := R6.out.keep _ (htt.keeps fun y hy => ⟨Rep.lt _ R6.out y hy, by have := HB6.out y hy; simp; omega⟩)
          obtain ⟨b7, o7, rfl, _, hbl7, hc7, _⟩ := R7.ints_at hlt2
          rw [gi_eq hlt2, hkc] at hc7
          have HIS := Lib.hid (fun k => inpR_set (us := usesF p) (i := j) (t := t) (kc := kc) (by rw [← HRDE.out]; exact hlt2) (by simp only [← HRDE.out]; exact hkc) k)
          have hci := HROWI.out.cell hkcm
          have hfi := HROWI.out.frozen kc
          have hli := HROWI.out.lt
          have hcw := HW5.out.cell hkcm
          have hlw := HW5.out.lt
          clear hkc R7
          cases hi : inpR (usesF p) j t kc with
          | true =>
            rw [hi] at hci
            have HR3 := Lib.hid ((HROWI.out.set kc (.bool true)).congr (g := fun k => .bool (inpR (usesF p) j (t + 1) k)) (fun k _ => by rw [HIS.out k]; by_cases e : k = kc <;> simp [e, hi]))
            clear hi
            go_wp2
            go_roundw
            case rel => exact ⟨t + 1, by omega, by go_num, HR3.out, htt.setCell (by simp) _⟩
            case measure => simp [intOf]; omega
          | false =>
            rw [hi] at hci
            obtain ⟨bw, hbw2⟩ : ∃ bw, bw = wrB (usesF p) j kc := ⟨_, rfl⟩
            rw [← hbw2] at hcw
            have HR3 := Lib.hid ((HROWI.out.set kc (.bool (!bw))).congr (g := fun k => .bool (inpR (usesF p) j (t + 1) k)) (fun k _ => by rw [HIS.out k]; by_cases e : k = kc <;> simp [e, hi, hbw2]))
            clear hi hbw2
            go_wp2
            go_roundw
            case rel => exact ⟨t + 1, by omega, by go_num, HR3.out, htt.setCell (by simp) _⟩
            case measure => simp [intOf]; omega
end Go.Proofs.YtgimggpmnemkbaaGreat
