/- Cells of programs, on both sides: how many there are, the cell of an access, which memories are valid. -/
import Derived.Test.YtgimggpmnemkbaaGreatZProgValid
set_option linter.all false
set_option linter.unusedSimpArgs false
set_option linter.unusedVariables false
namespace Go.Proofs.YtgimggpmnemkbaaGreat
open Go.ChangeShapes Go.WideShapes Go.ChangeAt Go.RowKit Go.Deep

theorem progOk_arr {p : Pgm} (h : progOk p = true) : arrsOk p.arrays = true := by
  simp only [progOk, progBase, Bool.and_eq_true] at h
  exact h.1.1
set_option maxRecDepth 100000 in
set_option maxHeartbeats 2000000 in
theorem cells_c {w : World} {p : Pgm} {cs : List Value} {bs : List Nat} (h : Rep w p.d cs bs) (hok : arrsOk p.arrays = true) :
    Calls Tryz.prog 86 #[.agg cs.toArray] w fun e w' => e = .returned (.int .i64 (cellsF p.arrays)) ∧ Below w.heap.size w w' := by
  obtain ⟨A1, c1, A2, c2, d1, d2, rfl, rfl, g1, g2⟩ := Rep.pgm_iff.1 h
  have Garrays := Lib.hid g1
  have Gparts := Lib.hid g2
  clear h g1 g2
  have hn : p.arrays.length ≤ 9223372036854775807 := Nat.le_trans Garrays.out.sls_len.2.1 Garrays.out.sls_len.2.2
  have HOK := Lib.hid hok; clear hok
  go_enter Tryz.func86, Tryz.ntmps86
  go_wp2
  go_loopw [3, 9] (fun u i wr => ∃ j : Nat, j ≤ p.arrays.length ∧ i = .int .i64 j ∧ u = .int .i64 (cellsTo p.arrays j) ∧ Below w.heap.size w wr) (fun _ i _ => p.arrays.length - (intOf i).toNat)
  case atStart => exact ⟨0, Nat.zero_le _, rfl, rfl, bel⟩
  case round =>
    obtain ⟨j, hj, rfl, rfl, hb⟩ := hrel
    by_cases hlt : j < p.arrays.length
    · have HT := Lib.hid (cellsTo_step hlt)
      obtain ⟨hd1, hd2, hd3⟩ := arr_bd HOK.out hlt
      obtain ⟨be, oe, cse, le, rfl, hble, hre, _, _, hce⟩ := (Garrays.out.below hb).sls_at Ar.d_size (k := j) hlt
      have Ge := Lib.hid hre
      obtain ⟨A2e, c2e, d2e, rfl, rfl, g1e, g2e⟩ := Rep.ar_iff.1 hre
      have k0e := (hce 0 _ rfl).1; rw [Nat.add_zero] at k0e
      have k1e := (hce 1 _ rfl).1
      have Q1e := Lib.hid g1e
      have Q2e := Lib.hid g2e
      clear hce hre g1e g2e
      go_wp2_with fail
      refine (size_c (Ge.out.below bel) hd1).mono ?_
      rintro e w1 ⟨rfl, b1⟩
      have T1 : Below wr.heap.size wr w1 := bel
      have S1 := below_tr hb T1
      clear b1 T1 k0e k1e
      go_wp2
      go_roundw
      case rel => exact ⟨j + 1, by omega, by go_num, int_eq (by rw [HT.out]), S1⟩
      case measure => simp [intOf]; omega
    · have hjj : j = p.arrays.length := by omega
      subst hjj
      go_wp2
      go_ret
      exact ⟨rfl, hb⟩

set_option maxRecDepth 100000 in
set_option maxHeartbeats 2000000 in
theorem l4Total_c {w : World} {p : Pgm} {cs : List Value} {bs : List Nat} (h : Rep w p.d cs bs) (hok : arrsOk p.arrays = true) :
    Calls Tryz.prog 83 #[.agg cs.toArray] w fun e w' => e = .returned (.int .i64 (cellsF p.arrays)) ∧ Below w.heap.size w w' := by
  obtain ⟨A1, c1, A2, c2, d1, d2, rfl, rfl, g1, g2⟩ := Rep.pgm_iff.1 h
  have Garrays := Lib.hid g1
  have Gparts := Lib.hid g2
  clear h g1 g2
  have hn : p.arrays.length ≤ 9223372036854775807 := Nat.le_trans Garrays.out.sls_len.2.1 Garrays.out.sls_len.2.2
  have HOK := Lib.hid hok; clear hok
  go_enter Tryz.func83, Tryz.ntmps83
  go_wp2
  go_loopw [3, 4] (fun u i wr => ∃ j : Nat, j ≤ p.arrays.length ∧ i = .int .i64 j ∧ u = .int .i64 (cellsTo p.arrays j) ∧ Box2 wr w.heap.size (.slice A1 p.arrays.length c1) (.slice A2 p.parts.length c2) ∧ Below w.heap.size w wr) (fun _ i _ => p.arrays.length - (intOf i).toNat)
  case atStart => exact ⟨0, Nat.zero_le _, rfl, rfl, ⟨by go_simp, by go_simp⟩, bel⟩
  case round =>
    obtain ⟨j, hj, rfl, rfl, Pr, hb⟩ := hrel
    have hlp := lt_of_cell Pr.1
    by_cases hlt : j < p.arrays.length
    · have HT := Lib.hid (cellsTo_step hlt)
      obtain ⟨hd1, hd2, hd3⟩ := arr_bd HOK.out hlt
      obtain ⟨be, oe, cse, le, rfl, hble, hre, _, _, hce⟩ := (Garrays.out.below hb).sls_at Ar.d_size (k := j) hlt
      have Ge := Lib.hid hre
      obtain ⟨A2e, c2e, d2e, rfl, rfl, g1e, g2e⟩ := Rep.ar_iff.1 hre
      have k0e := (hce 0 _ rfl).1; rw [Nat.add_zero] at k0e
      have k1e := (hce 1 _ rfl).1
      have Q1e := Lib.hid g1e
      have Q2e := Lib.hid g2e
      clear hce hre g1e g2e
      go_wp2_with fail
      refine (l4Size_c (Ge.out.below bel) hd1).mono ?_
      rintro e w1 ⟨rfl, b1⟩
      have T1 : Below wr.heap.size wr w1 := bel
      have S1 := below_tr hb T1
      have P1 := Pr.to T1
      clear b1 T1 k0e k1e Pr
      go_wp2
      go_roundw
      case rel => exact ⟨j + 1, by omega, by go_num, int_eq (by rw [HT.out]), P1, S1⟩
      case measure => simp [intOf]; omega
    · have hjj : j = p.arrays.length := by omega
      subst hjj
      go_wp2
      go_ret
      exact ⟨rfl, hb⟩

def memBad (x : Int) : Bool := !inB x 0 999
def MemoryValidF (p : Pgm) (m : List Int) : Bool := progOk p && (decide ((m.length : Int) = cellsF p.arrays) && !m.any memBad)
theorem memBad_lo {x : Int} (h : x < 0) : memBad x = true := by simp [memBad, inB, show ¬ 0 ≤ x by omega]
theorem memBad_hi {x : Int} (h : 999 < x) : memBad x = true := by simp [memBad, inB, show ¬ x ≤ 999 by omega]
theorem memBad_ok {x : Int} (h : ¬ x < 0) (h2 : ¬ 999 < x) : memBad x = false := by simp [memBad, inB, show 0 ≤ x by omega, show x ≤ 999 by omega]
theorem mem_drop (l : List Int) (k : Nat) (h : k < l.length) : (l.drop k).any memBad = (memBad (gi l k) || (l.drop (k + 1)).any memBad) := by
  rw [← List.getElem_cons_drop h, List.any_cons, gi_eq h]

theorem MemoryValid1_c (x : Int) (W : World) : Calls Tryz.prog 114 (#[.int .i64 x] ++ #[]) W fun e w' => e = .returned (.bool (memBad x)) ∧ W = w' := by
  show Calls Tryz.prog 114 #[.int .i64 x] W _
  go_enter Tryz.func114, Tryz.ntmps114
  go_wp2_with fail
  refine (within_c _ _ _ _).mono ?_
  rintro e w' ⟨rfl, rfl⟩
  go_wp2
  go_ret
  exact ⟨rfl, rfl⟩
theorem MemoryValid1_e : Enters Tryz.prog 114 := fun args W => by go_simp
set_option maxHeartbeats 2000000 in
theorem implMemoryValid_c {w : World} {p : Pgm} {m : List Int} {cs : List Value} {B : Option Addr} {n d : Nat} {bs bs2 : List Nat} (h : Rep w p.d cs bs) (hq : Rep w (ints m) [.slice B n d] bs2) :
    Calls Tryz.prog 66 #[.agg cs.toArray, .slice B n d] w fun e w' => e = .returned (.bool (MemoryValidF p m)) ∧ Below w.heap.size w w' := by
  have HX := Lib.hid (show MemoryValidF p m = (progOk p && (decide ((m.length : Int) = cellsF p.arrays) && !m.any memBad)) from rfl)
  have HP := Lib.hid h
  obtain ⟨A1, c1, A2, c2, d1, d2, rfl, rfl, g1, g2⟩ := Rep.pgm_iff.1 h
  have Garrays := Lib.hid g1
  have Gparts := Lib.hid g2
  clear h g1 g2
  obtain ⟨rfl, hn1, hn2⟩ := hq.ints_len
  have HQ := Lib.hid hq; clear hq
  go_enter Tryz.func66, Tryz.ntmps66
  go_wp2_with fail
  refine (implProgramValid_c (HP.out.below bel)).mono ?_
  rintro e w1 ⟨rfl, b1⟩
  have P1 : Box2 w1 w.heap.size (.slice A1 p.arrays.length c1) (.slice A2 p.parts.length c2) := by
    refine ⟨?_, ?_⟩ <;> (rw [b1.cell (by simp [World.setCell]; try omega)]; go_simp)
  have S1 : Below w.heap.size w w1 := bel
  clear b1
  cases hv : progOk p with
  | false =>
    have HY := Lib.hid (HX.out.trans (by rw [hv, Bool.false_and]))
    clear hv
    go_wp2
    go_ret
    exact ⟨ret_bool HY.out.symm, bel⟩
  | true =>
  have HY := Lib.hid (HX.out.trans (by rw [hv, Bool.true_and]))
  have HOK := Lib.hid (progOk_arr hv)
  clear hv HX
  go_wp2_with fail
  refine (cells_c (HP.out.below bel) HOK.out).mono ?_
  rintro e w2 ⟨rfl, b2⟩
  have s2 : Below w1.heap.size w1 w2 := bel
  have P2 := P1.to s2; clear P1
  have S2 : Below w.heap.size w w2 := below_tr S1 s2
  clear s2
  clear b2
  by_cases he : (m.length : Int) = cellsF p.arrays
  case neg =>
    have HZ := Lib.hid (HY.out.trans (by rw [decide_eq_false he, Bool.false_and]))
    have hq0 : ((m.length : Int) == cellsF p.arrays) = false := ieq_f he
    go_wp2
    go_ret
    exact ⟨ret_bool HZ.out.symm, bel⟩
  have HZ := Lib.hid (HY.out.trans (by rw [decide_eq_true he, Bool.true_and]))
  have hq0 : ((m.length : Int) == cellsF p.arrays) = true := ieq_t he
  clear he
  go_wp2_with fail
  refine (ContainsFunc_int_c (HQ.out.below bel) MemoryValid1_e fun x W _ => MemoryValid1_c x W).mono ?_
  rintro e w' ⟨rfl, rfl⟩
  go_wp2
  go_ret
  exact ⟨ret_bool HZ.out.symm, bel⟩

set_option maxRecDepth 100000 in
set_option maxHeartbeats 2000000 in
theorem specMemoryValid_c {w : World} {p : Pgm} {m : List Int} {cs : List Value} {B : Option Addr} {n d : Nat} {bs bs2 : List Nat} (h : Rep w p.d cs bs) (hq : Rep w (ints m) [.slice B n d] bs2) :
    Calls Tryz.prog 61 #[.agg cs.toArray, .slice B n d] w fun e w' => e = .returned (.bool (MemoryValidF p m)) ∧ Below w.heap.size w w' := by
  have HX := Lib.hid (show MemoryValidF p m = (progOk p && (decide ((m.length : Int) = cellsF p.arrays) && !m.any memBad)) from rfl)
  have HP := Lib.hid h
  obtain ⟨A1, c1, A2, c2, d1, d2, rfl, rfl, g1, g2⟩ := Rep.pgm_iff.1 h
  have Garrays := Lib.hid g1
  have Gparts := Lib.hid g2
  clear h g1 g2
  obtain ⟨rfl, hn1, hn2⟩ := hq.ints_len
  have hn : m.length ≤ 9223372036854775807 := Nat.le_trans hn1 hn2
  clear hn1 hn2
  have HQ := Lib.hid hq; clear hq
  go_enter Tryz.func61, Tryz.ntmps61
  go_wp2
  go_loopw [5] (fun i wr => ∃ j : Nat, j ≤ m.length ∧ i = .int .i64 j ∧ m.any memBad = (m.drop j).any memBad ∧ Box2 wr w.heap.size (.slice A1 p.arrays.length c1) (.slice A2 p.parts.length c2) ∧ Below w.heap.size w wr) (fun i _ => m.length - (intOf i).toNat)
  case atStart => exact ⟨0, Nat.zero_le _, rfl, rfl, ⟨by go_simp, by go_simp⟩, bel⟩
  case round =>
    obtain ⟨j, hj, rfl, hi, Pr, hb⟩ := hrel
    have hlp := lt_of_cell Pr.1
    have HI := Lib.hid hi; clear hi
    by_cases hlt : j < m.length
    · have HD := Lib.hid (HI.out.trans (mem_drop m j hlt))
      obtain ⟨b, o, rfl, _, hbl, hc, _⟩ := (HQ.out.below hb).ints_at hlt
      obtain ⟨v, hv⟩ : ∃ v, v = gi m j := ⟨_, rfl⟩
      rw [← hv] at hc HD
      clear hv
      by_cases h1 : v < 0
      · have HY := Lib.hid (HX.out.trans (by rw [HD.out, memBad_lo h1, Bool.true_or, Bool.not_true, Bool.and_false, Bool.and_false]))
        go_wp2
        go_ret
        exact ⟨ret_bool HY.out.symm, hb⟩
      by_cases h2 : 999 < v
      · have HY := Lib.hid (HX.out.trans (by rw [HD.out, memBad_hi h2, Bool.true_or, Bool.not_true, Bool.and_false, Bool.and_false]))
        go_wp2
        go_ret
        exact ⟨ret_bool HY.out.symm, hb⟩
      have HY := Lib.hid (HD.out.trans (by rw [memBad_ok h1 h2, Bool.false_or]))
      go_wp2
      go_roundw
      case rel => exact ⟨j + 1, by omega, by go_num, HY.out, Pr, hb⟩
      case measure => simp [intOf]; omega
    · have hjj : j = m.length := by omega
      subst hjj
      have HY := Lib.hid (HX.out.trans (by rw [HI.out, List.drop_length, List.any_nil, Bool.not_false, Bool.and_true]))
      go_wp2_with fail
      refine (specProgramValid_c (HP.out.below (below_tr hb bel))).mono ?_
      rintro e w2 ⟨rfl, b2⟩
      have T2 : Below wr.heap.size wr w2 := bel
      have S2 := below_tr hb T2
      have P2 := Pr.to T2
      clear b2 T2 Pr
      cases hv : progOk p with
      | false =>
        have HZ := Lib.hid (HY.out.trans (by rw [hv, Bool.false_and]))
        clear hv
        go_wp2
        go_ret
        exact ⟨ret_bool HZ.out.symm, S2⟩
      | true =>
      have HZ := Lib.hid (HY.out.trans (by rw [hv, Bool.true_and]))
      have HOK := Lib.hid (progOk_arr hv)
      clear hv HX
      go_wp2_with fail
      refine (l4Total_c (HP.out.below (below_tr S2 bel)) HOK.out).mono ?_
      rintro e w3 ⟨rfl, b3⟩
      have S3 := below_tr S2 b3
      by_cases he : (m.length : Int) = cellsF p.arrays
      · have HU := Lib.hid (HZ.out.trans (decide_eq_true he))
        have hq0 : ((m.length : Int) == cellsF p.arrays) = true := ieq_t he
        go_wp2
        go_ret
        exact ⟨ret_bool HU.out.symm, S3⟩
      · have HU := Lib.hid (HZ.out.trans (decide_eq_false he))
        have hq0 : ((m.length : Int) == cellsF p.arrays) = false := ieq_f he
        go_wp2
        go_ret
        exact ⟨ret_bool HU.out.symm, S3⟩
end Go.Proofs.YtgimggpmnemkbaaGreat
