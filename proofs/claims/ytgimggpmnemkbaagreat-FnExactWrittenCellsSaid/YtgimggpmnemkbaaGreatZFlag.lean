/- Flags of cells on both sides: chosen, l5Flagged; WrittenCells. -/
import Derived.Test.YtgimggpmnemkbaaGreatZFlowF
import Derived.Test.YtgimggpmnemkbaaGreatZDeps1
import Derived.Test.YtgimggpmnemkbaaGreatZTotal
import Derived.Test.YtgimggpmnemkbaaGreatZInstsS
import Derived.Test.YtgimggpmnemkbaaGreatZProgValid
set_option linter.all false
set_option linter.unusedSimpArgs false
set_option linter.unusedVariables false
namespace Go.Proofs.YtgimggpmnemkbaaGreat
open Go.ChangeShapes Go.WideShapes Go.ChangeAt Go.RowKit Go.Deep

theorem MadeInts.nil {w w' : World} (hb : Below w.heap.size w w') : MadeInts w [] (.returned (.slice none 0 0)) w' :=
  ⟨none, 0, 0, [], rfl, Rep.ints_nil (Nat.zero_le _), by simp, by simp, hb⟩
theorem MadeInts.made {w w' : World} (hb : Below w.heap.size w w') (e : TypeId) : MadeInts w [] (.returned (.slice (some ⟨w'.heap.size, 0, none⟩) 0 0)) (w'.alloc (.cells #[] e)) := by
  obtain ⟨A, c, bs, he, h1, h2, h3, _⟩ := (Grow.made w' e 1 hb.size).ints (xs := [])
  exact ⟨_, _, _, bs, congrArg _ he, h1, h2, h3, hb.alloc hb.size _⟩
theorem MadeInts.low {w w1 w' : World} {xs : List Int} {e : Ending} (h : MadeInts w1 xs e w') (hb : Below w.heap.size w w1) : MadeInts w xs e w' := by
  obtain ⟨A, n, c, bs, rfl, h1, h2, h3, h4⟩ := h
  exact ⟨A, n, c, bs, rfl, h1, h2, fun b hb' => Nat.le_trans hb.size (h3 b hb'), below_tr hb h4⟩
theorem row_below {w w' : World} {g n : Nat} {t : TypeId} {f : Nat → Value} (h : w.rowIs g t n f) (hb : Below w.heap.size w w') : w'.rowIs g t n f := h.of_block (hb.block g h.lt)

set_option maxRecDepth 100000 in
set_option maxHeartbeats 2000000 in
theorem l5Flagged_c {w : World} {g n : Nat} {f : Nat → Bool} (h : w.rowIs g 4 n (fun k => .bool (f k))) (hn : n ≤ 1000000) :
    Calls Tryz.prog 85 #[.slice (some ⟨g, 0, none⟩) n n] w (MadeInts w (chF f n)) := by
  have H := Lib.hid h; clear h
  go_enter Tryz.func85, Tryz.ntmps85
  go_wp2
  go_loopw [3, 4] (fun u i wr => ∃ j : Nat, j ≤ n ∧ i = .int .i64 j ∧ Grow wr w.heap.size 3 1 u ((chF f j).map D.int) ∧ Below w.heap.size w wr) (fun _ i _ => n - (intOf i).toNat)
  case atStart => exact ⟨0, Nat.zero_le _, rfl, Grow.madeE _ _ rfl (Nat.le_refl _), bel⟩
  case round =>
    obtain ⟨j, hj, rfl, hG, hb⟩ := hrel
    have HG := Lib.hid hG; clear hG
    by_cases hlt : j < n
    case neg =>
      have hjj : j = n := by omega
      subst hjj
      obtain ⟨A3, c3, bs3, he, h1, h2, h3, _⟩ := HG.out.ints
      subst he
      have H1 := Lib.hid h1; clear h1
      go_wp2
      go_ret
      exact ⟨_, _, _, bs3, rfl, H1.out, h2, h3, hb⟩
    obtain ⟨Au, cu, hfu, _, _⟩ := HG.out.form
    rw [List.length_map] at hfu
    have hle := chF_len f j
    obtain ⟨l, hl⟩ : ∃ l, l = chF f j := ⟨_, rfl⟩
    rw [← hl] at HG hfu hle
    have HL := Lib.hid hl; clear hl
    have hrow := row_below H.out hb
    have hck := hrow.cell hlt
    have hlg := hrow.lt
    clear hrow
    cases hf : f j with
    | false =>
      rw [hf] at hck
      have HS := Lib.hid (show chF f (j + 1) = l by rw [chF_no hf, HL.out])
      clear hf
      go_wp2
      go_roundw
      case rel => exact ⟨j + 1, by omega, by go_num, by rw [HS.out]; exact HG.out, hb⟩
      case measure => simp [intOf]; omega
    | true =>
      rw [hf] at hck
      have HS := Lib.hid (show chF f (j + 1) = l ++ [(j : Int)] by rw [chF_yes hf, HL.out])
      have hI := Lib.hid (show I64 (j : Int) by unfold I64; omega)
      have hbz := hb.size
      clear hf
      subst hfu
      go_wp2_with (
        at_builtin
        refine wpList_append_more (w0 := wr) (B := w.heap.size) (xs := l.map D.int) (ys := [D.int (j : Int)]) rfl (.tmp 16) (.tmp 18) _ rfl _ Tryz.underlying26 Tryz.infoInt rfl (by decide) rfl HG.out ?hbw rfl (one_int _ hI.out _) ?hys ?hn ?hf ?hlen ?hba ?_
        case hbw => exact bel
        case hys => intro y hy; simp only [List.mem_singleton] at hy; rw [hy]; rfl
        case hn => simp
        case hf => simp
        case hlen => simp; omega
        case hba => exact hbz
        intro v4 w4 hG4 hg4)
      have HG4 := Lib.hid (show Grow w4 w.heap.size 3 1 v4 ((chF f (j + 1)).map D.int) by rw [HS.out, List.map_append]; exact hG4)
      have S4 : Below w.heap.size w w4 := (hb.alloc hb.size _).trans (hg4.below (Nat.le_trans hbz (by simp)) (fun b hb => (HG.out.own_ge b hb).1))
      clear hG4 hg4
      go_wp2
      go_roundw
      case rel => exact ⟨j + 1, by omega, by go_num, HG4.out, S4⟩
      case measure => simp [intOf]; omega
set_option maxRecDepth 100000 in
set_option maxHeartbeats 2000000 in
theorem chosen_c {w : World} {g n : Nat} {f : Nat → Bool} (h : w.rowIs g 4 n (fun k => .bool (f k))) (hn : n ≤ 1000000) :
    Calls Tryz.prog 88 #[.slice (some ⟨g, 0, none⟩) n n] w (MadeInts w (chF f n)) := by
  have H := Lib.hid h; clear h
  go_enter Tryz.func88, Tryz.ntmps88
  go_wp2
  go_loopw [3, 8] (fun u i wr => ∃ j : Nat, j ≤ n ∧ i = .int .i64 j ∧ Grow wr w.heap.size 3 1 u ((chF f j).map D.int) ∧ Below w.heap.size w wr) (fun _ i _ => n - (intOf i).toNat)
  case atStart => exact ⟨0, Nat.zero_le _, rfl, Grow.nil _ _ _ _, bel⟩
  case round =>
    obtain ⟨j, hj, rfl, hG, hb⟩ := hrel
    have HG := Lib.hid hG; clear hG
    by_cases hlt : j < n
    case neg =>
      have hjj : j = n := by omega
      subst hjj
      obtain ⟨A3, c3, bs3, he, h1, h2, h3, _⟩ := HG.out.ints
      subst he
      have H1 := Lib.hid h1; clear h1
      go_wp2
      go_ret
      exact ⟨_, _, _, bs3, rfl, H1.out, h2, h3, hb⟩
    obtain ⟨Au, cu, hfu, _, _⟩ := HG.out.form
    rw [List.length_map] at hfu
    have hle := chF_len f j
    obtain ⟨l, hl⟩ : ∃ l, l = chF f j := ⟨_, rfl⟩
    rw [← hl] at HG hfu hle
    have HL := Lib.hid hl; clear hl
    have hrow := row_below H.out hb
    have hck := hrow.cell hlt
    have hlg := hrow.lt
    clear hrow
    cases hf : f j with
    | false =>
      rw [hf] at hck
      have HS := Lib.hid (show chF f (j + 1) = l by rw [chF_no hf, HL.out])
      clear hf
      go_wp2
      go_roundw
      case rel => exact ⟨j + 1, by omega, by go_num, by rw [HS.out]; exact HG.out, hb⟩
      case measure => simp [intOf]; omega
    | true =>
      rw [hf] at hck
      have HS := Lib.hid (show chF f (j + 1) = l ++ [(j : Int)] by rw [chF_yes hf, HL.out])
      have hI := Lib.hid (show I64 (j : Int) by unfold I64; omega)
      have hbz := hb.size
      clear hf
      subst hfu
      go_wp2_with (
        at_builtin
        refine wpList_append_more (w0 := wr) (B := w.heap.size) (xs := l.map D.int) (ys := [D.int (j : Int)]) rfl (.tmp 14) (.tmp 16) _ rfl _ Tryz.underlying26 Tryz.infoInt rfl (by decide) rfl HG.out ?hbw rfl (one_int _ hI.out _) ?hys ?hn ?hf ?hlen ?hba ?_
        case hbw => exact bel
        case hys => intro y hy; simp only [List.mem_singleton] at hy; rw [hy]; rfl
        case hn => simp
        case hf => simp
        case hlen => simp; omega
        case hba => exact hbz
        intro v4 w4 hG4 hg4)
      have HG4 := Lib.hid (show Grow w4 w.heap.size 3 1 v4 ((chF f (j + 1)).map D.int) by rw [HS.out, List.map_append]; exact hG4)
      have S4 : Below w.heap.size w w4 := (hb.alloc hb.size _).trans (hg4.below (Nat.le_trans hbz (by simp)) (fun b hb => (HG.out.own_ge b hb).1))
      clear hG4 hg4
      go_wp2
      go_roundw
      case rel => exact ⟨j + 1, by omega, by go_num, HG4.out, S4⟩
      case measure => simp [intOf]; omega

theorem WrittenF_n {p : Pgm} (h : progOk p = false) : WrittenF p = [] := by unfold WrittenF; rw [h]; rfl
theorem WrittenF_y {p : Pgm} (h : progOk p = true) : WrittenF p = chF (wrB (usesF p) (usesF p).length) (cellsF p.arrays).toNat := by unfold WrittenF; rw [h]; rfl
theorem WrittenF_len (p : Pgm) : (WrittenF p).length ≤ 1000000 := by
  cases h : progOk p with
  | false => rw [WrittenF_n h]; simp
  | true =>
    rw [WrittenF_y h]
    have h1 := chF_len (wrB (usesF p) (usesF p).length) (cellsF p.arrays).toNat
    have := cellsF_bd (progOk_arr h)
    omega
/-- the cells that an instance touches are some of the program's -/
theorem use_cells {p : Pgm} {x : In} (hv : progOk p = true) (hx : InOk p x) : (∃ k : Nat, (useF p x).write = (k : Int) ∧ k < (cellsF p.arrays).toNat) ∧ ∀ c ∈ (useF p x).reads, ∃ k : Nat, c = (k : Int) ∧ k < (cellsF p.arrays).toNat := by
  have hf := (hx.fine hv).fine
  have hok := progOk_arr hv
  obtain ⟨h1, h2⟩ := fine_cells hf
  refine ⟨?_, fun c hc => ?_⟩
  · have hb := (cellF_bd (a := (stmF p x).write) (pt := x.point) hok).2
    refine ⟨(cellF p.arrays (stmF p x).write x.point).toNat, ?_, by omega⟩
    show cellF p.arrays (stmF p x).write x.point = _
    omega
  · simp only [useF, rdF_eq, List.mem_map] at hc
    obtain ⟨a, ha, rfl⟩ := hc
    have hb := (cellF_bd (a := a) (pt := x.point) hok).2
    have := h2 a ha
    exact ⟨(cellF p.arrays a x.point).toNat, by omega, by omega⟩
theorem wrB_set {us : List Us} {i kc : Nat} (h : i < us.length) (hk : (nthU us i).write = (kc : Int)) (k : Nat) : wrB us (i + 1) k = if k = kc then true else wrB us i k := by
  rw [wrB_step h, hk]
  by_cases e : k = kc
  · subst e; simp
  · rw [if_neg e, decide_eq_false (by omega), Bool.or_false]

set_option maxRecDepth 100000 in
set_option maxHeartbeats 4000000 in
theorem implWrittenCells_c {w : World} {p : Pgm} {cs : List Value} {bs : List Nat} (h : Rep w p.d cs bs) :
    Calls Tryz.prog 43 #[.agg cs.toArray] w (MadeInts w (WrittenF p)) := by
  have HP := Lib.hid h
  obtain ⟨A1, c1, A2, c2, d1, d2, rfl, rfl, g1, g2⟩ := Rep.pgm_iff.1 h
  have Garrays := Lib.hid g1
  have Gparts := Lib.hid g2
  clear h g1 g2
  cases hv : progOk p with
  | false =>
    rw [WrittenF_n hv]
    have HY := Lib.hid ((InstsF_2 p).trans hv)
    clear hv
    go_enter Tryz.func43, Tryz.ntmps43
    go_wp2_with fail
    refine (instances_c (HP.out.below bel)).mono ?_
    rintro e w1 ⟨A3, n3, c3, bs3, rfl, _, _, _, b1⟩
    have S1 : Below w.heap.size w w1 := bel
    clear b1
    rw [HY.out]
    go_wp2
    go_ret
    exact MadeInts.nil S1
  | true =>
    rw [WrittenF_y hv]
    have HY := Lib.hid ((InstsF_2 p).trans hv)
    have HZ := Lib.hid (InstsF_ok hv)
    have hln := (progOk_all hv).2.2
    have hok := progOk_arr hv
    have HV := Lib.hid hv; clear hv
    have hcb := cellsF_bd hok
    have HOK := Lib.hid hok; clear hok
    obtain ⟨m, hm⟩ : ∃ m, m = (cellsF p.arrays).toNat := ⟨_, rfl⟩
    have hmc : cellsF p.arrays = (m : Int) := by omega
    rw [← hm]
    have HM := Lib.hid hm; clear hm
    have HMC := Lib.hid hmc
    have hmb : m ≤ 144 := by omega
    clear hmc hcb
    have hmk := fun W => run_make_row' (P := Tryz.prog) 110 4 (.bool false) 1 Tryz.underlying110 Tryz.infoBool rfl .i64 .i64 m (by omega) (by omega) W
    go_enter Tryz.func43, Tryz.ntmps43
    go_wp2_with fail
    refine (instances_c (HP.out.below bel)).mono ?_
    rintro e w2 ⟨A3, n3, c3, bs3, rfl, r2, _, _, b2⟩
    have P2 : Box2 w2 w.heap.size (.slice A1 p.arrays.length c1) (.slice A2 p.parts.length c2) := by
      refine ⟨?_, ?_⟩ <;> (rw [b2.cell (by simp [World.setCell]; try omega)]; go_simp)
    have S2 : Below w.heap.size w w2 := bel
    clear b2
    rw [HY.out]
    rw [HZ.out] at r2
    obtain ⟨rfl, _, _⟩ := r2.sls_len
    have R1 := Lib.hid r2; clear r2
    go_wp2_with fail
    refine (cells_c (HP.out.below bel) HOK.out).mono ?_
    rintro e w3 ⟨rfl, b3⟩
    have s3 : Below w2.heap.size w2 w3 := bel
    have P3 := P2.to s3; clear P2
    have S3 : Below w.heap.size w w3 := below_tr S2 s3
    clear s3
    rw [HMC.out]
    have R2 := Lib.hid (R1.out.below b3); clear b3
    have ul := Lib.hid (usesF_len p)
    go_wp2
    go_loopw [22] (fun i wr => ∃ j : Nat, j ≤ (instsF p).length ∧ i = .int .i64 j ∧ wr.rowIs w3.heap.size 4 m (fun k => .bool (wrB (usesF p) j k)) ∧ Below w3.heap.size w3 wr) (fun i _ => (instsF p).length - (intOf i).toNat)
    case atStart => exact ⟨0, Nat.zero_le _, rfl, (World.rowIs_made _ _ _ _).congr (fun k hk => by simp [wrB]), bel⟩
    case round =>
      obtain ⟨j, hj, rfl, hrow, hb⟩ := hrel
      have Pr := P3.to hb
      have Sr := below_tr S3 hb
      have lp := lt_of_cell Pr.1
      have HROW := Lib.hid hrow; clear hrow
      by_cases hlt : j < (instsF p).length
      case neg =>
        have hjj : j = (instsF p).length := by omega
        subst hjj
        have HR := Lib.hid (show wr.rowIs w3.heap.size 4 m (fun k => .bool (wrB (usesF p) (usesF p).length k)) by rw [ul.out]; exact HROW.out)
        go_wp2_with fail
        refine (chosen_c HR.out (by omega)).mono ?_
        rintro e w4 h3
        obtain ⟨A4, n4, c4, bs4, rfl, h4⟩ := h3.low Sr
        go_wp2
        go_ret
        exact ⟨A4, n4, c4, bs4, rfl, h4⟩
      have HIN := Lib.hid (InOk.of_mem (List.getElem_mem hlt))
      have HUJ := Lib.hid (usesF_get' hlt)
      obtain ⟨⟨kw, hkw, hkm⟩, _⟩ := use_cells HV.out HIN.out
      rw [← HM.out] at hkm
      have HST := Lib.hid (fun k => wrB_set (usesF_at hlt) (by rw [nthU_eq (usesF_at hlt), HUJ.out]; exact hkw) k)
      obtain ⟨be, oe, cse, le, rfl, hble, hre, _, _, hce⟩ := (R2.out.below hb).sls_at In.d_size (k := j) hlt
      have Ge := Lib.hid hre
      obtain ⟨A3e, c3e, d3e, rfl, rfl, g1e, g2e, g3e⟩ := Rep.in_iff.1 hre
      have k0e := (hce 0 _ rfl).1; rw [Nat.add_zero] at k0e
      have k1e := (hce 1 _ rfl).1
      have k2e := (hce 2 _ rfl).1
      have Q1e := Lib.hid g1e
      have Q2e := Lib.hid g2e
      have Q3e := Lib.hid g3e
      clear hce hre g1e g2e g3e
      have HPr := Lib.hid (HP.out.below Sr)
      go_wp2_with fail
      refine (touched_c (HPr.out.below bel) (Ge.out.below bel) HIN.out HV.out).mono ?_
      rintro e w4 ⟨A6, c6, bs6, rfl, _, _, _, b4⟩
      rw [hkw]
      have T3 : Below wr.heap.size wr w4 := bel
      clear b4
      have hr3 := row_below HROW.out T3
      have hck := hr3.cell hkm
      have hfz := hr3.frozen kw
      have hlg := hr3.lt
      have HR3 := Lib.hid ((hr3.set kw (.bool true)).congr (g := fun k => .bool (wrB (usesF p) (j + 1) k)) (fun k _ => by rw [HST.out k]; by_cases e : k = kw <;> simp [e]))
      clear hr3
      go_wp2
      go_roundw
      case rel => exact ⟨j + 1, by omega, by go_num, HR3.out, (below_tr hb T3).setCell (by simp) _⟩
      case measure => simp [intOf]; omega
set_option maxRecDepth 100000 in
set_option maxHeartbeats 8000000 in
theorem specWrittenCells_c {w : World} {p : Pgm} {cs : List Value} {bs : List Nat} (h : Rep w p.d cs bs) :
    Calls Tryz.prog 42 #[.agg cs.toArray] w (MadeInts w (WrittenF p)) := by
  have HP := Lib.hid h
  obtain ⟨A1, c1, A2, c2, d1, d2, rfl, rfl, g1, g2⟩ := Rep.pgm_iff.1 h
  have Garrays := Lib.hid g1
  have Gparts := Lib.hid g2
  clear h g1 g2
  go_enter Tryz.func42, Tryz.ntmps42
  go_wp2_with fail
  refine (specProgramValid_c (HP.out.below bel)).mono ?_
  rintro e w1 ⟨rfl, b1⟩
  have P1 : Box2 w1 w.heap.size (.slice A1 p.arrays.length c1) (.slice A2 p.parts.length c2) := by
    refine ⟨?_, ?_⟩ <;> (rw [b1.cell (by simp [World.setCell]; try omega)]; go_simp)
  have S1 : Below w.heap.size w w1 := bel
  clear b1
  cases hv : progOk p with
  | false =>
    have HE := Lib.hid (WrittenF_n hv); clear hv
    go_wp2
    go_ret
    rw [HE.out]
    exact MadeInts.made S1 _
  | true =>
    have HE := Lib.hid (WrittenF_y hv)
    have hln := (progOk_all hv).2.2
    have hok := progOk_arr hv
    have HV := Lib.hid hv; clear hv
    have hcb := cellsF_bd hok
    have HOK := Lib.hid hok; clear hok
    obtain ⟨m, hm⟩ : ∃ m, m = (cellsF p.arrays).toNat := ⟨_, rfl⟩
    have hmc : cellsF p.arrays = (m : Int) := by omega
    have HM := Lib.hid hm; clear hm
    have HMC := Lib.hid hmc
    have hmb : m ≤ 144 := by omega
    clear hmc hcb
    have hmk := fun W => run_make_row' (P := Tryz.prog) 110 4 (.bool false) 1 Tryz.underlying110 Tryz.infoBool rfl .i64 .i64 m (by omega) (by omega) W
    have ul := Lib.hid (usesF_len p)
    go_wp2_with fail
    refine (l4Total_c (HP.out.below bel) HOK.out).mono ?_
    rintro e w2 ⟨rfl, b2⟩
    have s2 : Below w1.heap.size w1 w2 := bel
    have P2 := P1.to s2; clear P1
    have S2 : Below w.heap.size w w2 := below_tr S1 s2
    clear s2
    clear b2
    rw [HMC.out]
    have hz2 := S2.size
    have lp2 := lt_of_cell P2.1
    go_wp2_with fail
    refine (l4Instances_c (HP.out.below (below_tr S2 bel)) HV.out).mono ?_
    rintro e w3 ⟨A3, n3, c3, bs3, rfl, r3, _, hb3, b3⟩
    obtain ⟨rfl, _, _⟩ := r3.sls_len
    have HB3 := Lib.hid (show ∀ y ∈ bs3, w2.heap.size < y from fun y hy => by have := hb3 y hy; simp at this; omega)
    have hrow0 : w3.rowIs w2.heap.size 4 m (fun _ => .bool false) := (World.rowIs_made w2 _ _ _).of_block (b3.block _ (by simp))
    have t3 : Below w2.heap.size w2 w3 := bel
    have S3 : Below w.heap.size w w3 := below_tr S2 t3
    have P3 := P2.to t3
    have R3 := Lib.hid r3; clear r3 hb3 b3 t3 hmk P2
    have hpg : w.heap.size ≠ w2.heap.size := by omega
    go_wp2
    go_loopw [5] (fun i wr => ∃ j : Nat, j ≤ (instsF p).length ∧ i = .int .i64 j ∧ wr.rowIs w2.heap.size 4 m (fun k => .bool (wrB (usesF p) j k)) ∧ Touch [w2.heap.size] w3 wr) (fun i _ => (instsF p).length - (intOf i).toNat)
    case atStart => exact ⟨0, Nat.zero_le _, rfl, hrow0.congr (fun k hk => by simp [wrB]), Touch.refl _ _⟩
    case round =>
      obtain ⟨j, hj, rfl, hrow, ht⟩ := hrel
      have HROW := Lib.hid hrow; clear hrow
      have Sr : Below w.heap.size w wr := S3.trans (ht.below S3.size (by simp; omega))
      have Pr := ht.box2 P3 (by simpa using hpg)
      have lp := lt_of_cell Pr.1
      by_cases hlt : j < (instsF p).length
      case neg =>
        have hjj : j = (instsF p).length := by omega
        subst hjj
        have HR := Lib.hid (show wr.rowIs w2.heap.size 4 m (fun k => .bool (wrB (usesF p) (usesF p).length k)) by rw [ul.out]; exact HROW.out)
        go_wp2_with fail
        refine (l5Flagged_c HR.out (by omega)).mono ?_
        rintro e w4 h4
        obtain ⟨A4, n4, c4, bs4, rfl, h5⟩ := h4.low Sr
        go_wp2
        go_ret
        rw [HE.out, ← HM.out]
        exact ⟨A4, n4, c4, bs4, rfl, h5⟩
      have hin := InOk.of_mem (List.getElem_mem hlt)
      have hfi := hin.fine HV.out
      have HUJ := Lib.hid (usesF_get' hlt)
      obtain ⟨⟨kw, hkw, hkm⟩, _⟩ := use_cells HV.out hin
      rw [← HM.out] at hkm
      have HST := Lib.hid (fun k => wrB_set (usesF_at hlt) (by rw [nthU_eq (usesF_at hlt), HUJ.out]; exact hkw) k)
      obtain ⟨k, s, hpk, hss, hk, hs, e1, e2⟩ := hin.get
      have HCF := Lib.hid (show CellsF p.arrays (instsF p)[j].point p.parts[k].body[s] = ((useF p (instsF p)[j]).reads, (kw : Int), true) by
        rw [← e2, CellsF_fine hfi.fine, ← hkw]; rfl)
      have HSV := Lib.hid (show StmtValidF p.parts[k].body[s] ((prtF p (instsF p)[j].part).nest.length : Int) = true by rw [← e2]; exact hfi.stm)
      have HPT := Lib.hid hfi.pt
      clear hin hfi e1 e2 hkw
      have RR := Lib.hid (Rep.keep _ R3.out (ht.keeps fun y hy => ⟨Rep.lt _ R3.out y hy, by have := HB3.out y hy; simp; omega⟩))
      have GPr := Lib.hid (Gparts.out.below Sr)
      have GAr := Lib.hid (Garrays.out.below Sr)
      obtain ⟨be, oe, cse, le, rfl, hble, hre, _, _, hce⟩ := RR.out.sls_at In.d_size (k := j) hlt
      have Ge := Lib.hid hre
      obtain ⟨A3e, c3e, d3e, rfl, rfl, g1e, g2e, g3e⟩ := Rep.in_iff.1 hre
      have k0e := (hce 0 _ rfl).1; rw [Nat.add_zero] at k0e
      have k1e := (hce 1 _ rfl).1
      have k2e := (hce 2 _ rfl).1
      have Q1e := Lib.hid g1e
      have Q2e := Lib.hid g2e
      have Q3e := Lib.hid g3e
      clear hce hre g1e g2e g3e
      rw [hpk] at k0e
      rw [hss] at k1e
      obtain ⟨bf, of, csf, lf, rfl, hblf, hrf, _, _, hcf⟩ := GPr.out.sls_at Prt.d_size (k := k) hk
      have Gf := Lib.hid hrf
      obtain ⟨A1f, c1f, A2f, c2f, d1f, d2f, rfl, rfl, g1f, g2f⟩ := Rep.prt_iff.1 hrf
      have k0f := (hcf 0 _ rfl).1; rw [Nat.add_zero] at k0f
      have k1f := (hcf 1 _ rfl).1
      have Q1f := Lib.hid g1f
      have Q2f := Lib.hid g2f
      clear hcf hrf g1f g2f
      obtain ⟨bg, og, csg, lg, rfl, hblg, hrg, _, _, hcg⟩ := Q2f.out.sls_at Stm.d_size (k := s) hs
      have Gg := Lib.hid hrg
      obtain ⟨A2g, c2g, A5g, c5g, A8g, c8g, A9g, c9g, d2g, d5g, d8g, d9g, rfl, rfl, g1g, g2g, g3g, g4g, g5g, g6g, g7g, g8g, g9g⟩ := Rep.stm_iff.1 hrg
      have k0g := (hcg 0 _ rfl).1; rw [Nat.add_zero] at k0g
      have k1g := (hcg 1 _ rfl).1
      have k2g := (hcg 2 _ rfl).1
      have k3g := (hcg 3 _ rfl).1
      have k4g := (hcg 4 _ rfl).1
      have k5g := (hcg 5 _ rfl).1
      have k6g := (hcg 6 _ rfl).1
      have k7g := (hcg 7 _ rfl).1
      have k8g := (hcg 8 _ rfl).1
      have Q1g := Lib.hid g1g
      have Q2g := Lib.hid g2g
      have Q3g := Lib.hid g3g
      have Q4g := Lib.hid g4g
      have Q5g := Lib.hid g5g
      have Q6g := Lib.hid g6g
      have Q7g := Lib.hid g7g
      have Q8g := Lib.hid g8g
      have Q9g := Lib.hid g9g
      clear hcg hrg g1g g2g g3g g4g g5g g6g g7g g8g g9g
      clear hpk hss
      go_wp2_with fail
      refine wp_region_noPanic ?_
      refine wp_region_held_drew (S := fun w' => w'.cell? ⟨w.heap.size, 0, none⟩ = some (.slice A1 p.arrays.length c1) ∧ w'.cell? ⟨w.heap.size, 1, none⟩ = some (.slice (some ⟨bf, of, none⟩) p.parts.length c2) ∧ w'.cell? ⟨be, oe + j * 3, none⟩ = some (.int .i64 (k : Int)) ∧ w'.cell? ⟨be, oe + j * 3 + 1, none⟩ = some (.int .i64 (s : Int)) ∧ w'.cell? ⟨be, oe + j * 3 + 2, none⟩ = some (.slice A3e (instsF p)[j].point.length c3e) ∧ w'.cell? ⟨bf, of + k * 2 + 1, none⟩ = some (.slice (some ⟨bg, og, none⟩) p.parts[k].body.length c2f) ∧ w'.cell? ⟨bg, og + s * 9, none⟩ = some (.string p.parts[k].body[s].write.arr) ∧ w'.cell? ⟨bg, og + s * 9 + 1, none⟩ = some (.slice A2g p.parts[k].body[s].write.subs.length c2g) ∧ w'.cell? ⟨bg, og + s * 9 + 2, none⟩ = some (.int .i64 p.parts[k].body[s].value.kind) ∧ w'.cell? ⟨bg, og + s * 9 + 3, none⟩ = some (.int .i64 p.parts[k].body[s].value.num) ∧ w'.cell? ⟨bg, og + s * 9 + 4, none⟩ = some (.slice A5g p.parts[k].body[s].value.index.coefs.length c5g) ∧ w'.cell? ⟨bg, og + s * 9 + 5, none⟩ = some (.int .i64 p.parts[k].body[s].value.index.const) ∧ w'.cell? ⟨bg, og + s * 9 + 6, none⟩ = some (.string p.parts[k].body[s].value.read.arr) ∧ w'.cell? ⟨bg, og + s * 9 + 7, none⟩ = some (.slice A8g p.parts[k].body[s].value.read.subs.length c8g) ∧ w'.cell? ⟨bg, og + s * 9 + 8, none⟩ = some (.slice A9g p.parts[k].body[s].value.kids.length c9g)) (by kernel_rfl) (⟨Pr.1, Pr.2, k0e, k1e, k2e, k1f, k0g, k1g, k2g, k3g, k4g, k5g, k6g, k7g, k8g⟩) (fun hHeld => ?_)
      refine goR 0 hHeld ?_
      refine goR 1 hHeld ?_
      refine goR 2 hHeld ?_
      refine goR 3 hHeld ?_
      refine goR 4 hHeld ?_
      refine goR 5 hHeld ?_
      refine goR 6 hHeld ?_
      refine goR 7 hHeld ?_
      refine goR 8 hHeld ?_
      refine goR 9 hHeld ?_
      refine goR 10 hHeld ?_
      refine goR 11 hHeld ?_
      refine goR 12 hHeld ?_
      refine goR 13 hHeld ?_
      refine goR 14 hHeld ?_
      refine goR 15 hHeld ?_
      refine goR 16 hHeld ?_
      refine goR 17 hHeld ?_
      refine goR 18 hHeld ?_
      refine goR 19 hHeld ?_
      refine goR 20 hHeld ?_
      refine goR 21 hHeld ?_
      refine goR 22 hHeld ?_
      refine goR 23 hHeld ?_
      refine stepR (i := 24) rfl (by kernel_rfl) (wanted_none rfl) (fun K hK => ?_)
      go_simp
      (refine (l4Cells_c (GAr.out.drewN 1) (Gg.out.drewN 1) (Q3e.out.drewN 1) HOK.out HSV.out HPT.out).mono ?_; rintro e w9 ⟨A6, n6, c6, bs6, rfl, r6, nd6, hb6, b9⟩; rw [HCF.out] at r6 ⊢)
      go_wp2_with fail
      refine hK.out _ _ (by obtain ⟨q0_, q1_, q2_, q3_, q4_, q5_, q6_, q7_, q8_, q9_, q10_, q11_, q12_, q13_, q14_⟩ := hHeld; exact ⟨cell_toC q0_ b9, cell_toC q1_ b9, cell_toC q2_ b9, cell_toC q3_ b9, cell_toC q4_ b9, cell_toC q5_ b9, cell_toC q6_ b9, cell_toC q7_ b9, cell_toC q8_ b9, cell_toC q9_ b9, cell_toC q10_ b9, cell_toC q11_ b9, cell_toC q12_ b9, cell_toC q13_ b9, cell_toC q14_ b9⟩) (fun hHeld => ?_)
      clear hK K
      try simp only [Act.put, List.setIfInBounds_toArray, List.set_cons_zero, List.set_cons_succ]
      refine goR 25 hHeld ?_
      refine goR 26 hHeld ?_
      refine goR 27 hHeld ?_
      refine goR 28 hHeld ?_
      refine goR 29 hHeld ?_
      refine goR 30 hHeld ?_
      refine goR 31 hHeld ?_
      refine wpAnyH_done (by kernel_rfl) ?_ _
      refine NoPanic.normal ?_
      have T2 : Below wr.heap.size wr w9 := of_drew b9
      obtain ⟨rfl, _, _⟩ := r6.ints_len
      clear r6 hb6 b9
      have hr3 := row_below HROW.out T2
      have hck := hr3.cell hkm
      have hfz := hr3.frozen kw
      have hlg := hr3.lt
      have HR3 := Lib.hid ((hr3.set kw (.bool true)).congr (g := fun k => .bool (wrB (usesF p) (j + 1) k)) (fun k _ => by rw [HST.out k]; by_cases e : k = kw <;> simp [e]))
      clear hr3
      go_wp2
      go_roundw
      case rel => exact ⟨j + 1, by omega, by go_num, HR3.out, (ht.trans (Touch.of_below T2)).setCell (by simp) _⟩
      case measure => simp [intOf]; omega
end Go.Proofs.YtgimggpmnemkbaaGreat
