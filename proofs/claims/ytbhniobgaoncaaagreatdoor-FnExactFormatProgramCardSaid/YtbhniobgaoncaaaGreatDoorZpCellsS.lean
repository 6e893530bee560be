/- The cells that a statement reads and writes: l4Cells of the reference. -/
import Derived.Test.YtbhniobgaoncaaaGreatDoorZpReadsS
set_option linter.all false
set_option linter.unusedSimpArgs false
set_option linter.unusedVariables false
namespace Go.Proofs.YtbhniobgaoncaaaGreatDoor
open Go.ChangeShapes Go.WideShapes Go.ChangeAt Go.RowKit Go.Deep

/-- the call answers new cells, a cell and a truth value -/
def MadeCells (w : World) (r : List Int × Int × Bool) (e : Ending) (w' : World) : Prop :=
  ∃ A n c bs, e = .returned (.tuple #[.slice A n c, .int .i64 r.2.1, .bool r.2.2]) ∧ Rep w' (ints r.1) [.slice A n c] bs ∧ bs.Nodup ∧ (∀ b ∈ bs, w.heap.size ≤ b) ∧ Below w.heap.size w w'
theorem MadeCells.of_grow {w w' : World} {e : TypeId} {v : Value} {r : List Int × Int × Bool} {B : Nat} (h : Grow w' B e 1 v (r.1.map D.int)) (hB : w.heap.size ≤ B) (hb : Below w.heap.size w w') : MadeCells w r (.returned (.tuple #[v, .int .i64 r.2.1, .bool r.2.2])) w' := by
  obtain ⟨A, c, bs, rfl, h1, h2, h3, _⟩ := h.ints
  exact ⟨A, _, c, bs, rfl, h1, h2, fun b hb' => Nat.le_trans hB (h3 b hb'), hb⟩
theorem CellsF_bad {xs : List Ar} {q : List Int} {s : Stm} (h : (readsF s.value).any (cellBad xs q) = true) : CellsF xs q s = ([], 0, false) := by
  have : fineS xs q s = false := by
    show (decide (0 ≤ cellF xs s.write q) && !(readsF s.value).any (cellBad xs q)) = false
    rw [h]; simp
  simp [CellsF, this]
theorem CellsF_low {xs : List Ar} {q : List Int} {s : Stm} (h : cellF xs s.write q < 0) : CellsF xs q s = ([], 0, false) := by
  have : fineS xs q s = false := by
    show (decide (0 ≤ cellF xs s.write q) && !(readsF s.value).any (cellBad xs q)) = false
    rw [decide_eq_false (by omega)]; rfl
  simp [CellsF, this]
theorem CellsF_ok {xs : List Ar} {q : List Int} {s : Stm} (h : (readsF s.value).any (cellBad xs q) = false) (h2 : ¬ cellF xs s.write q < 0) : CellsF xs q s = (rdF xs q s, wrF xs q s, true) := by
  have : fineS xs q s = true := by
    show (decide (0 ≤ cellF xs s.write q) && !(readsF s.value).any (cellBad xs q)) = true
    rw [h, decide_eq_true (by omega)]; rfl
  simp [CellsF, this]
/-- an empty slice made before the last block -/
theorem grow_two {w w1 : World} {o o2 : Obj} {e : TypeId} {size : Nat} (h : Below (w.heap.size + 2) (((w.alloc o).alloc (.cells #[] e)).alloc o2) w1) : Grow w1 (w.heap.size + 1) e size (.slice (some ⟨w.heap.size + 1, 0, none⟩) 0 0) [] := by
  refine Grow.below (w := (w.alloc o).alloc (.cells #[] e)) (Grow.madeE _ _ (by simp) (by simp)) ?_
  refine Below.trans ((Below.refl _ _).alloc (by simp) o2) ?_
  simpa using h

set_option maxRecDepth 100000 in
set_option maxHeartbeats 8000000 in
theorem l4Cells_c {w : World} {xs : List Ar} {s : Stm} {q : List Int} {cs' : List Value} {A B : Option Addr} {n c m d : Nat} {bs bs1 bs2 : List Nat} {dp : Int} (h : Rep w (sls Ar.d xs) [.slice A n c] bs) (h' : Rep w s.d cs' bs1) (hq : Rep w (ints q) [.slice B m d] bs2) (hok : arrsOk xs = true) (hv : StmtValidF s dp = true) (hp : PtS q) :
    Calls Tryz.prog 121 #[.slice A n c, .agg cs'.toArray, .slice B m d] w (MadeCells w (CellsF xs q s)) := by
  have HST := Lib.hid (StB.of hv hp)
  have HSH := Lib.hid (stmtValid_parts hv).2.1
  have hcb := cellsF_bd hok
  have hcw := cellF_bd (a := s.write) (pt := q) hok
  obtain ⟨rfl, _, _⟩ := h.sls_len
  have H := Lib.hid h; clear h
  have HQ := Lib.hid hq; clear hq
  obtain ⟨A2', c2', A5', c5', A8', c8', A9', c9', d2', d5', d8', d9', rfl, rfl, g1', g2', g3', g4', g5', g6', g7', g8', g9'⟩ := Rep.stm_iff.1 h'
  have Gwrite' := Lib.hid ((Rep.acc_iff (x := s.write)).2 ⟨_, _, _, rfl, rfl, g1', g2'⟩)
  have Gvalue' := Lib.hid ((Rep.ex_iff (x := s.value)).2 ⟨_, _, _, _, _, _, _, _, _, rfl, rfl, g3', g4', g5', g6', g7', g8', g9'⟩)
  clear h' g1' g2' g3' g4' g5' g6' g7' g8' g9'
  have HOK := Lib.hid hok; clear hok hv hp
  go_enter Tryz.func121, Tryz.ntmps121
  go_wp2_with fail
  have hge : (Value.slice (some ⟨w.heap.size + 1 + 1, 0, none⟩) 0 0).ownBlock = some (w.heap.size + 2) := rfl
  refine (l3Reads_c s.value 5 dp _ _ _ (w.heap.size + 2) _ [] HSH.out (by omega) ?hl (Gvalue'.out.below bel) (Grow.madeE 43 2 (by simp) (by omega)) ?hB ?hap).mono ?_
  case hl => have := HST.out.n; simpa using this
  case hB => simp
  case hap => intro y hy e; rw [hge] at e; have := Rep.lt _ Gvalue'.out y hy; simp at e; omega
  rintro e w1 ⟨v1, rfl, hG1, hg1⟩
  have B1 := hg1.below (B := w.heap.size + 2) (by simp) (fun b hb => by rw [hge] at hb; simp at hb; omega)
  rw [List.nil_append] at hG1
  obtain ⟨RS, hRS⟩ : ∃ RS, RS = readsF s.value := ⟨_, rfl⟩
  rw [← hRS] at hG1
  have HRS := Lib.hid hRS; clear hRS
  obtain ⟨A5, c5, bs5, rfl, r5, _, hb5⟩ := hG1.rep
  have hrn : RS.length ≤ 1000000 := by rw [HRS.out]; exact HST.out.n
  have P1 : Box9 w1 w.heap.size (.string s.write.arr) (.slice A2' s.write.subs.length c2') (.int .i64 s.value.kind) (.int .i64 s.value.num) (.slice A5' s.value.index.coefs.length c5') (.int .i64 s.value.index.const) (.string s.value.read.arr) (.slice A8' s.value.read.subs.length c8') (.slice A9' s.value.kids.length c9') := by
    refine ⟨?_, ?_, ?_, ?_, ?_, ?_, ?_, ?_, ?_⟩ <;> (rw [B1.cell (by simp; try omega)]; go_simp)
  have S1 : Below w.heap.size w w1 := Below.trans bel (B1.mono (by omega))
  have U1 : Grow w1 (w.heap.size + 1) 3 1 (.slice (some ⟨w.heap.size + 1, 0, none⟩) 0 0) [] := by
    exact grow_two B1
  have R5 := Lib.hid (show Rep w1 (sls Acc.d RS) [.slice A5 (RS.map Acc.d).length c5] bs5 from r5)
  have HB5 := Lib.hid (show ∀ y ∈ bs5, y < w1.heap.size ∧ w.heap.size + 2 ≤ y from fun y hy => ⟨Rep.lt _ r5 y hy, hb5 y hy⟩)
  rw [List.length_map] at R5 ⊢
  clear r5 hb5 hG1 hg1 B1 hge
  obtain ⟨U0, hU0⟩ : ∃ U0, U0 = Value.slice (some ⟨w.heap.size + 1, 0, none⟩) 0 0 := ⟨_, rfl⟩
  have HU := Lib.hid (show ∀ y, U0.ownBlock = some y → y = w.heap.size + 1 from fun y hy => by rw [hU0] at hy; simp [Value.ownBlock] at hy; omega)
  rw [← hU0] at U1
  have HU1 := Lib.hid U1; clear U1
  have HU0 := Lib.hid hU0; clear hU0
  have H1 := Lib.hid (H.out.below S1)
  have HQ1 := Lib.hid (HQ.out.below S1)
  have GW1 := Lib.hid (Gwrite'.out.below S1)
  have HAP := Lib.hid (show ∀ y ∈ bs5, U0.ownBlock ≠ some y from fun y hy e => by have := HU.out y e; have := (HB5.out y hy).2; omega)
  go_wp2
  go_loopw [9, 11] (fun u i wr => ∃ j : Nat, j ≤ RS.length ∧ i = .int .i64 j ∧ Grow wr (w.heap.size + 1) 3 1 u (((RS.take j).map (fun a => cellF xs a q)).map D.int) ∧ RS.any (cellBad xs q) = (RS.drop j).any (cellBad xs q) ∧ Grew w1 wr U0 u) (fun _ i _ => RS.length - (intOf i).toNat)
  case atStart => exact ⟨0, Nat.zero_le _, rfl, by rw [← HU0.out]; simpa using HU1.out, rfl, by rw [← HU0.out]; exact Grew.refl _ _⟩
  case round =>
    obtain ⟨j, hj, rfl, hG, hany, hgr⟩ := hrel
    have Sr : Below w.heap.size w wr := S1.trans (hgr.below S1.size fun b hb => by have := HU.out b hb; omega)
    have Pr := P1.touch hgr.touch (fun hm => by have := HU.out _ (mem_ownL.1 hm); omega)
    have HG := Lib.hid hG; clear hG
    have Hgr := Lib.hid hgr; clear hgr
    have HY := Lib.hid hany; clear hany
    obtain ⟨Au, cu, hfu, _, _⟩ := HG.out.form
    simp only [List.length_map, List.length_take] at hfu
    rw [show min j RS.length = j by omega] at hfu
    by_cases hlt : j < RS.length
    · have HYS := Lib.hid (HY.out.trans (any_drop _ _ _ hlt))
      have HT := Lib.hid (show (RS.take (j + 1)).map (fun a => cellF xs a q) = (RS.take j).map (fun a => cellF xs a q) ++ [cellF xs RS[j] q] by rw [List.take_succ_eq_append_getElem hlt, List.map_append]; rfl)
      have hmem : RS[j] ∈ readsF s.value := by rw [← HRS.out]; exact List.getElem_mem hlt
      have HM := Lib.hid (HST.out.r _ hmem); clear hmem
      have hcr := cellF_bd (a := RS[j]) (pt := q) HOK.out
      have RR := Lib.hid (R5.out.grew Hgr.out HAP.out)
      obtain ⟨be, oe, cse, le, rfl, hble, hre, _, _, hce⟩ := RR.out.sls_at Acc.d_size (k := j) hlt
      have Ge := Lib.hid hre
      obtain ⟨A2e, c2e, d2e, rfl, rfl, g1e, g2e⟩ := Rep.acc_iff.1 hre
      have k0e := (hce 0 _ rfl).1; rw [Nat.add_zero] at k0e
      have k1e := (hce 1 _ rfl).1
      have Q1e := Lib.hid g1e
      have Q2e := Lib.hid g2e
      clear hce hre g1e g2e
      subst hfu
      go_wp2_with fail
      refine (l4Cell_c (H.out.below (below_tr Sr bel)) Ge.out (HQ.out.below (below_tr Sr bel)) HOK.out HM.out.2 HM.out.1).mono ?_
      rintro e w2 ⟨rfl, b2⟩
      obtain ⟨v, hv⟩ : ∃ v, v = cellF xs RS[j] q := ⟨_, rfl⟩
      rw [← hv] at HT hcr ⊢
      have HV := Lib.hid hv; clear hv
      have T2 : Below wr.heap.size wr w2 := bel
      have S2 : Below w.heap.size w w2 := below_tr Sr T2
      clear b2
      by_cases hc : v < 0
      · have HX := Lib.hid (CellsF_bad (xs := xs) (q := q) (s := s) (by rw [← HRS.out, HYS.out, cellBad, ← HV.out, decide_eq_true hc]; rfl))
        go_wp2
        go_ret3
        rw [HX.out]
        exact MadeCells.of_grow (r := ([], 0, false)) (Grow.made w2 3 1 S2.size) (Nat.le_refl _) (S2.alloc S2.size _)
      · have HX := Lib.hid (show RS.any (cellBad xs q) = (RS.drop (j + 1)).any (cellBad xs q) by rw [HYS.out, cellBad, ← HV.out, decide_eq_false hc]; rfl)
        have hwz := T2.size
        have hG2 := Lib.hid (HG.out.below T2)
        have hS1 := S1.size
        have hI := Lib.hid (show I64 v by unfold I64; omega)
        have hbz : w.heap.size + 1 ≤ w2.heap.size := by have h1 := lt_of_cell P1.1; have h2 := Hgr.out.touch.size; omega
        go_wp2_with (
          at_builtin
          refine wpList_append_more (w0 := w2) (B := w.heap.size + 1) (xs := ((RS.take j).map (fun a => cellF xs a q)).map D.int) (ys := [D.int v]) rfl (.tmp 35) (.tmp 37) _ rfl _ Tryz.underlying44 Tryz.infoInt rfl (by decide) rfl hG2.out ?hbw rfl (one_int _ hI.out _) ?hys ?hn ?hf ?hlen ?hba ?_
          case hbw => exact bel
          case hys => intro y hy; simp only [List.mem_singleton] at hy; rw [hy]; rfl
          case hn => simp
          case hf => simp
          case hlen => simp; omega
          case hba => exact hbz
          intro v4 w4 hG4 hg4)
        rw [show ((RS.take j).map (fun a => cellF xs a q)).map D.int ++ [D.int v] = ((RS.take (j + 1)).map (fun a => cellF xs a q)).map D.int by rw [HT.out, List.map_append]; rfl] at hG4
        have HG4 := Lib.hid hG4
        have g4 := Lib.hid ((Hgr.out.trans (Grew.of_below (show Below wr.heap.size wr (w2.alloc (.cells #[.int .i64 v] 3)) from T2.alloc T2.size _) _)).trans hg4)
        clear hG4 hg4
        go_wp2
        go_roundw
        case rel => exact ⟨j + 1, by omega, by go_num, HG4.out, HX.out, g4.out⟩
        case measure => simp [intOf]; omega
    · have hjj : j = RS.length := by omega
      subst hjj
      have HN := Lib.hid (show (readsF s.value).any (cellBad xs q) = false by rw [← HRS.out, HY.out, List.drop_length]; rfl)
      rw [List.take_length] at HG
      subst hfu
      go_wp2_with fail
      refine (l4Cell_c (H.out.below (below_tr Sr bel)) (Gwrite'.out.below (below_tr Sr bel)) (HQ.out.below (below_tr Sr bel)) HOK.out HST.out.w HST.out.w1).mono ?_
      rintro e w2 ⟨rfl, b2⟩
      obtain ⟨v, hv⟩ : ∃ v, v = cellF xs s.write q := ⟨_, rfl⟩
      rw [← hv] at hcw ⊢
      have HV := Lib.hid hv; clear hv
      have T2 : Below wr.heap.size wr w2 := bel
      have S2 : Below w.heap.size w w2 := below_tr Sr T2
      clear b2
      by_cases hc : v < 0
      · have HX := Lib.hid (CellsF_low (xs := xs) (q := q) (s := s) (by rw [← HV.out]; exact hc))
        go_wp2
        go_ret3
        rw [HX.out]
        exact MadeCells.of_grow (r := ([], 0, false)) (Grow.made w2 3 1 S2.size) (Nat.le_refl _) (S2.alloc S2.size _)
      · have HX := Lib.hid (CellsF_ok HN.out (by rw [← HV.out]; exact hc))
        have hG2 := Lib.hid (HG.out.below T2)
        go_wp2
        go_ret3
        rw [HX.out]
        have := MadeCells.of_grow (w := w) (r := (rdF xs q s, v, true)) (show Grow w2 (w.heap.size + 1) 3 1 _ ((rdF xs q s).map D.int) by rw [rdF, ← HRS.out]; exact hG2.out) (by omega) S2
        rw [wrF, ← HV.out]
        exact this
end Go.Proofs.YtbhniobgaoncaaaGreatDoor
