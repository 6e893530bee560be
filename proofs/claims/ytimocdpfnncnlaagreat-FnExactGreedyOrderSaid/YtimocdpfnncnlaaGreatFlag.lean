/- Flags of cells on both sides: chosen, l5Flagged; WrittenCells. -/
import Derived.Test.YtimocdpfnncnlaaGreatFlowF
import Derived.Test.YtimocdpfnncnlaaGreatDeps1
import Derived.Test.YtimocdpfnncnlaaGreatTotal
import Derived.Test.YtimocdpfnncnlaaGreatInstsS
import Derived.Test.YtimocdpfnncnlaaGreatPgValid
set_option linter.all false
set_option linter.unusedSimpArgs false
set_option linter.unusedVariables false
namespace Go.Proofs.YtimocdpfnncnlaaGreat
open Go.ChangeShapes Go.WideShapes Go.ChangeAt Go.RowKit Go.Deep

theorem MadeInts.nil {w w' : World} (hb : Below w.heap.size w w') : MadeInts w [] (.returned (.slice none 0 0)) w' :=
  ⟨none, 0, 0, [], rfl, Rep.ints_nil (Nat.zero_le _), by simp, by simp, hb⟩
theorem MadeInts.made {w w' : World} (hb : Below w.heap.size w w') (e : TypeId) : MadeInts w [] (.returned (.slice (some ⟨w'.heap.size, 0, none⟩) 0 0)) (w'.alloc (.cells #[] e)) := by
  obtain ⟨A, c, bs, he, h1, h2, h3, _⟩ := (Grow.made w' e 1 hb.size).ints (xs := [])
  exact ⟨_, _, _, bs, congrArg _ he, h1, h2, h3, hb.alloc hb.size _⟩
theorem MadeInts.low {w w1 w' : World} {xs : List Int} {e : Ending} (h : MadeInts w1 xs e w') (hb : Below w.heap.size w w1) : MadeInts w xs e w' := by
  obtain ⟨A, n, c, bs, rfl, h1, h2, h3, h4⟩ := h
  exact ⟨A, n, c, bs, rfl, h1, h2, fun b hb' => Nat.le_trans hb.size (h3 b hb'), below_tr hb h4⟩
theorem row_below {w w' : World} {g n : Nat} {t : TypeId} {f : Nat → Value} (h : w.rowIs g t n f) (hb : Below w.heap.size w w') : w'.rowIs g t n f := h.of_block (hb.block g h.lt)

set_option maxRecDepth 100000 in
set_option maxHeartbeats 2000000 in
theorem l5Flagged_c {w : World} {g n : Nat} {f : Nat → Bool} (h : w.rowIs g 4 n (fun k => .bool (f k))) (hn : n ≤ 1000000) :
    Calls Tryz.prog 46 #[.slice (some ⟨g, 0, none⟩) n n] w (MadeInts w (chF f n)) := by
  have H := Lib.hid h; clear h
  go_enter Tryz.func46, Tryz.ntmps46
  go_wp2
  go_loopw [3, 4] (fun u i wr => ∃ j : Nat, j ≤ n ∧ i = .int .i64 j ∧ Grow wr w.heap.size 3 1 u ((chF f j).map D.int) ∧ Below w.heap.size w wr) (fun _ i _ => n - (intOf i).toNat)
  case atStart => exact ⟨0, Nat.zero_le _, rfl, Grow.madeE _ _ rfl (Nat.le_refl _), bel⟩
  case round =>
    obtain ⟨j, hj, rfl, hG, hb⟩ := hrel
    have HG := Lib.hid hG; clear hG
    by_cases hlt : j < n
    case neg =>
      have hjj : j = n := by omega
      subst hjj
      obtain ⟨A3, c3, bs3, he, h1, h2, h3, _⟩ := HG.out.ints
      subst he
      have H1 := Lib.hid h1; clear h1
      go_wp2
      go_ret
      exact ⟨_, _, _, bs3, rfl, H1.out, h2, h3, hb⟩
    obtain ⟨Au, cu, hfu, _, _⟩ := HG.out.form
    rw [List.length_map] at hfu
    have hle := chF_len f j
    obtain ⟨l, hl⟩ : ∃ l, l = chF f j := ⟨_, rfl⟩
    rw [← hl] at HG hfu hle
    have HL := Lib.hid hl; clear hl
    have hrow := row_below H.out hb
    have hck := hrow.cell hlt
    have hlg := hrow.lt
    clear hrow
    cases hf : f j with
    | false =>
      rw [hf] at hck
      have HS := Lib.hid (show chF f (j + 1) = l by rw [chF_no hf, HL.out])
      clear hf
      go_wp2
      go_roundw
      case rel => exact ⟨j + 1, by omega, by go_num, by rw [HS.out]; exact HG.out, hb⟩
      case measure => simp [intOf]; omega
    | true =>
      rw [hf] at hck
      have HS := Lib.hid (show chF f (j + 1) = l ++ [(j : Int)] by rw [chF_yes hf, HL.out])
      have hI := Lib.hid (show I64 (j : Int) by unfold I64; omega)
      have hbz := hb.size
      clear hf
      subst hfu
      go_wp2_with (
        at_builtin
        refine wpList_append_more (w0 := wr) (B := w.heap.size) (xs := l.map D.int) (ys := [D.int (j : Int)]) rfl (.tmp 16) (.tmp 18) _ rfl _ Tryz.underlying35 Tryz.infoInt rfl (by decide) rfl HG.out ?hbw rfl (one_int _ hI.out _) ?hys ?hn ?hf ?hlen ?hba ?_
        case hbw => exact bel
        case hys => intro y hy; simp only [List.mem_singleton] at hy; rw [hy]; rfl
        case hn => simp
        case hf => simp
        case hlen => simp; omega
        case hba => exact hbz
        intro v4 w4 hG4 hg4)
      have HG4 := Lib.hid (show Grow w4 w.heap.size 3 1 v4 ((chF f (j + 1)).map D.int) by rw [HS.out, List.map_append]; exact hG4)
      have S4 : Below w.heap.size w w4 := (hb.alloc hb.size _).trans (hg4.below (Nat.le_trans hbz (by simp)) (fun b hb => (HG.out.own_ge b hb).1))
      clear hG4 hg4
      go_wp2
      go_roundw
      case rel => exact ⟨j + 1, by omega, by go_num, HG4.out, S4⟩
      case measure => simp [intOf]; omega
set_option maxRecDepth 100000 in
set_option maxHeartbeats 2000000 in
theorem chosen_c {w : World} {g n : Nat} {f : Nat → Bool} (h : w.rowIs g 4 n (fun k => .bool (f k))) (hn : n ≤ 1000000) :
    Calls Tryz.prog 47 #[.slice (some ⟨g, 0, none⟩) n n] w (MadeInts w (chF f n)) := by
  have H := Lib.hid h; clear h
  go_enter Tryz.func47, Tryz.ntmps47
  go_wp2
  go_loopw [3, 8] (fun u i wr => ∃ j : Nat, j ≤ n ∧ i = .int .i64 j ∧ Grow wr w.heap.size 3 1 u ((chF f j).map D.int) ∧ Below w.heap.size w wr) (fun _ i _ => n - (intOf i).toNat)
  case atStart => exact ⟨0, Nat.zero_le _, rfl, Grow.nil _ _ _ _, bel⟩
  case round =>
    obtain ⟨j, hj, rfl, hG, hb⟩ := hrel
    have HG := Lib.hid hG; clear hG
    by_cases hlt : j < n
    case neg =>
      have hjj : j = n := by omega
      subst hjj
      obtain ⟨A3, c3, bs3, he, h1, h2, h3, _⟩ := HG.out.ints
      subst he
      have H1 := Lib.hid h1; clear h1
      go_wp2
      go_ret
      exact ⟨_, _, _, bs3, rfl, H1.out, h2, h3, hb⟩
    obtain ⟨Au, cu, hfu, _, _⟩ := HG.out.form
    rw [List.length_map] at hfu
    have hle := chF_len f j
    obtain ⟨l, hl⟩ : ∃ l, l = chF f j := ⟨_, rfl⟩
    rw [← hl] at HG hfu hle
    have HL := Lib.hid hl; clear hl
    have hrow := row_below H.out hb
    have hck := hrow.cell hlt
    have hlg := hrow.lt
    clear hrow
    cases hf : f j with
    | false =>
      rw [hf] at hck
      have HS := Lib.hid (show chF f (j + 1) = l by rw [chF_no hf, HL.out])
      clear hf
      go_wp2
      go_roundw
      case rel => exact ⟨j + 1, by omega, by go_num, by rw [HS.out]; exact HG.out, hb⟩
      case measure => simp [intOf]; omega
    | true =>
      rw [hf] at hck
      have HS := Lib.hid (show chF f (j + 1) = l ++ [(j : Int)] by rw [chF_yes hf, HL.out])
      have hI := Lib.hid (show I64 (j : Int) by unfold I64; omega)
      have hbz := hb.size
      clear hf
      subst hfu
      go_wp2_with (
        at_builtin
        refine wpList_append_more (w0 := wr) (B := w.heap.size) (xs := l.map D.int) (ys := [D.int (j : Int)]) rfl (.tmp 14) (.tmp 16) _ rfl _ Tryz.underlying35 Tryz.infoInt rfl (by decide) rfl HG.out ?hbw rfl (one_int _ hI.out _) ?hys ?hn ?hf ?hlen ?hba ?_
        case hbw => exact bel
        case hys => intro y hy; simp only [List.mem_singleton] at hy; rw [hy]; rfl
        case hn => simp
        case hf => simp
        case hlen => simp; omega
        case hba => exact hbz
        intro v4 w4 hG4 hg4)
      have HG4 := Lib.hid (show Grow w4 w.heap.size 3 1 v4 ((chF f (j + 1)).map D.int) by rw [HS.out, List.map_append]; exact hG4)
      have S4 : Below w.heap.size w w4 := (hb.alloc hb.size _).trans (hg4.below (Nat.le_trans hbz (by simp)) (fun b hb => (HG.out.own_ge b hb).1))
      clear hG4 hg4
      go_wp2
      go_roundw
      case rel => exact ⟨j + 1, by omega, by go_num, HG4.out, S4⟩
      case measure => simp [intOf]; omega

theorem WrittenF_n {p : Pgm} (h : progOk p = false) : WrittenF p = [] := by unfold WrittenF; rw [h]; rfl
theorem WrittenF_y {p : Pgm} (h : progOk p = true) : WrittenF p = chF (wrB (usesF p) (usesF p).length) (cellsF p.arrays).toNat := by unfold WrittenF; rw [h]; rfl
theorem WrittenF_len (p : Pgm) : (WrittenF p).length ≤ 1000000 := by
  cases h : progOk p with
  | false => rw [WrittenF_n h]; simp
  | true =>
    rw [WrittenF_y h]
    have h1 := chF_len (wrB (usesF p) (usesF p).length) (cellsF p.arrays).toNat
    have := cellsF_bd (progOk_arr h)
    omega
/-- the cells that an instance touches are some of the program's -/
theorem use_cells {p : Pgm} {x : In} (hv : progOk p = true) (hx : InOk p x) : (∃ k : Nat, (useF p x).write = (k : Int) ∧ k < (cellsF p.arrays).toNat) ∧ ∀ c ∈ (useF p x).reads, ∃ k : Nat, c = (k : Int) ∧ k < (cellsF p.arrays).toNat := by
  have hf := (hx.fine hv).fine
  have hok := progOk_arr hv
  obtain ⟨h1, h2⟩ := fine_cells hf
  refine ⟨?_, fun c hc => ?_⟩
  · have hb := (cellF_bd (a := (stmF p x).write) (pt := x.point) hok).2
    refine ⟨(cellF p.arrays (stmF p x).write x.point).toNat, ?_, by omega⟩
    show cellF p.arrays (stmF p x).write x.point = _
    omega
  · simp only [useF, rdF_eq, List.mem_map] at hc
    obtain ⟨a, ha, rfl⟩ := hc
    have hb := (cellF_bd (a := a) (pt := x.point) hok).2
    have := h2 a ha
    exact ⟨(cellF p.arrays a x.point).toNat, by omega, by omega⟩
theorem wrB_set {us : List Us} {i kc : Nat} (h : i < us.length) (hk : (nthU us i).write = (kc : Int)) (k : Nat) : wrB us (i + 1) k = if k = kc then true else wrB us i k := by
  rw [wrB_step h, hk]
  by_cases e : k = kc
  · subst e; simp
  · rw [if_neg e, decide_eq_false (by omega), Bool.or_false]

end Go.Proofs.YtimocdpfnncnlaaGreat
