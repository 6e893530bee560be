/- Sources of what an instance reads, on both sides; FlowSources. -/
import Derived.Test.YtimocdpfnncnlaaGreatFlowF
import Derived.Test.YtimocdpfnncnlaaGreatDeps1
set_option linter.all false
set_option linter.unusedSimpArgs false
set_option linter.unusedVariables false
namespace Go.Proofs.YtimocdpfnncnlaaGreat
open Go.ChangeShapes Go.WideShapes Go.ChangeAt Go.RowKit Go.Deep

/-- the call answers new integers and a truth value -/
def MadeIB (w : World) (r : List Int × Bool) (e : Ending) (w' : World) : Prop :=
  ∃ A n c bs, e = .returned (.tuple #[.slice A n c, .bool r.2]) ∧ Rep w' (ints r.1) [.slice A n c] bs ∧ bs.Nodup ∧ (∀ b ∈ bs, w.heap.size ≤ b) ∧ Below w.heap.size w w'
theorem MadeIB.nil {w w' : World} (b : Bool) (hb : Below w.heap.size w w') : MadeIB w ([], b) (.returned (.tuple #[.slice none 0 0, .bool b])) w' :=
  ⟨none, 0, 0, [], rfl, Rep.ints_nil (Nat.zero_le _), by simp, by simp, hb⟩
theorem MadeIB.of_grow {w w' : World} {e : TypeId} {v : Value} {l : List Int} {b : Bool} {B : Nat} (h : Grow w' B e 1 v (l.map D.int)) (hB : w.heap.size ≤ B) (hb : Below w.heap.size w w') : MadeIB w (l, b) (.returned (.tuple #[v, .bool b])) w' := by
  obtain ⟨A, c, bs, rfl, h1, h2, h3, _⟩ := h.ints
  exact ⟨A, _, c, bs, rfl, h1, h2, fun y hy => Nat.le_trans hB (h3 y hy), hb⟩
theorem srcF_yes {us : List Us} {c : Int} {k : Nat} (h : (nthU us k).write = c) : srcF us c (k + 1) = (k : Int) := by rw [srcF, if_pos h]
theorem srcF_no {us : List Us} {c : Int} {k : Nat} (h : ¬ (nthU us k).write = c) : srcF us c (k + 1) = srcF us c k := by rw [srcF, if_neg h]
theorem usr_len {p : Pgm} (hv : progOk p = true) {t : Nat} (ht : t < (usesF p).length) : (nthU (usesF p) t).reads.length ≤ 1000000 := by
  have hlt : t < (instsF p).length := by rw [← usesF_len]; exact ht
  have hx := InOk.of_mem (List.getElem_mem hlt)
  have hf := hx.fine hv
  rw [nthU_eq ht, usesF_get' hlt]
  simp only [useF, rdF_eq, List.length_map]
  exact (StB.of hf.stm hf.pt).n

set_option maxHeartbeats 2000000 in
theorem l6Source_c {w : World} {us : List Us} {A : Option Addr} {n c t : Nat} {bs : List Nat} {x : Int} (h : Rep w (sls Us.d us) [.slice A n c] bs) (ht : t ≤ us.length) (hu : us.length ≤ 120) :
    Calls Tryz.prog 45 #[.slice A n c, .int .i64 (t : Int), .int .i64 x] w fun e w' => e = .returned (.int .i64 (srcF us x t)) ∧ w = w' := by
  obtain ⟨rfl, _, _⟩ := h.sls_len
  have H := Lib.hid h; clear h
  go_enter Tryz.func45, Tryz.ntmps45
  go_wp2
  go_loop [7] (fun i => ∃ k : Nat, k ≤ t ∧ i = .int .i64 ((k : Int) - 1) ∧ srcF us x t = srcF us x k) (fun i => (intOf i + 1).toNat)
  case atStart => exact ⟨t, Nat.le_refl _, rfl, rfl⟩
  case round =>
    obtain ⟨k, hk, rfl, hs⟩ := hrel
    rcases k with _ | k
    · have HS := Lib.hid (hs.trans (show srcF us x 0 = -1 from rfl)); clear hs
      rw [show ((0 : Nat) : Int) - 1 = -1 from rfl]
      go_wp2
      go_ret
      exact ⟨ret_int HS.out.symm, rfl⟩
    · have hkl : k < us.length := by omega
      obtain ⟨b4, o4, cs4, l4, rfl, hl4, h4, _, _, hc4⟩ := H.out.sls_at Us.d_size (k := k) hkl
      rw [← nthU_eq hkl] at h4
      obtain ⟨A6, c6, d6, rfl, rfl, _⟩ := Rep.us_iff.1 h4
      have k1 := (hc4 1 _ rfl).1
      clear hc4 h4
      rw [show (((k + 1 : Nat) : Int) - 1) = (k : Int) by omega]
      by_cases he : (nthU us k).write = x
      · have HS := Lib.hid (hs.trans (srcF_yes he)); clear hs
        have q : ((nthU us k).write == x) = true := ieq_t he
        clear he
        go_wp2
        go_ret
        exact ⟨ret_int HS.out.symm, rfl⟩
      · have HS := Lib.hid (hs.trans (srcF_no he)); clear hs
        have q : ((nthU us k).write == x) = false := ieq_f he
        clear he
        go_wp2
        go_round
        case rel => exact ⟨k, by omega, by go_num, HS.out⟩
        case measure => simp [intOf]
set_option maxRecDepth 100000 in
set_option maxHeartbeats 4000000 in
theorem sources_c {w : World} {p : Pgm} {g t : Nat} (h : Trc w p g) (hv : progOk p = true) (ht : t < (usesF p).length) :
    Calls Tryz.prog 77 #[.pointer (some ⟨g, 0, none⟩), .int .i64 (t : Int)] w (MadeInts w ((nthU (usesF p) t).reads.map (fun c => srcF (usesF p) c t))) := by
  have hrl := usr_len hv ht
  have hul : (usesF p).length ≤ 120 := by rw [usesF_len]; exact (progOk_all hv).2.2
  obtain ⟨u0, u1, A3, b4, o4, c3, c4, b5, o5, c5, ⟨x0, x1, x2, x3, x4⟩, hl4, hl5, hR, hW⟩ := h.open (by omega)
  obtain ⟨Ai, ci, bsi, kri, ri⟩ := hR t ht
  have lg := lt_of_cell x3
  clear hR h x0 x1 x2
  obtain ⟨us, hus⟩ : ∃ us, us = usesF p := ⟨_, rfl⟩
  rw [← hus] at x3 x4 kri ri hW ht hrl hul ⊢
  obtain ⟨RD, hRD⟩ : ∃ RD, RD = (nthU us t).reads := ⟨_, rfl⟩
  rw [← hRD] at kri ri hrl ⊢
  have HW := Lib.hid hW
  have RI := Lib.hid ri
  clear hW ri hus hRD
  go_enter Tryz.func77, Tryz.ntmps77
  go_wp2
  go_loopw [5, 17] (fun u i wr => ∃ j : Nat, j ≤ RD.length ∧ i = .int .i64 j ∧ Grow wr w.heap.size 3 1 u (((RD.take j).map (fun c => srcF us c t)).map D.int) ∧ Below w.heap.size w wr) (fun _ i _ => RD.length - (intOf i).toNat)
  case atStart => exact ⟨0, Nat.zero_le _, rfl, Grow.nil _ _ _ _, bel⟩
  case round =>
    obtain ⟨j, hj, rfl, hG, hb⟩ := hrel
    have HG := Lib.hid hG; clear hG
    by_cases hlt : j < RD.length
    case neg =>
      have hjj : j = RD.length := by omega
      subst hjj
      rw [List.take_length] at HG
      obtain ⟨A6, c6, bs6, he, h1, h2, h3, _⟩ := HG.out.ints
      rw [List.length_map] at he h1
      subst he
      have H1 := Lib.hid h1; clear h1
      go_wp2
      go_ret
      exact ⟨_, _, _, bs6, rfl, H1.out, h2, h3, hb⟩
    obtain ⟨Au, cu, hfu, _, _⟩ := HG.out.form
    simp only [List.length_map, List.length_take] at hfu
    rw [show min j RD.length = j by omega] at hfu
    have HT := Lib.hid (show (RD.take (j + 1)).map (fun c => srcF us c t) = (RD.take j).map (fun c => srcF us c t) ++ [srcF us RD[j] t] by rw [List.take_succ_eq_append_getElem hlt, List.map_append]; rfl)
    obtain ⟨b6, o6, rfl, _, hbl6, hc6, _⟩ := (RI.out.below hb).ints_at hlt
    rw [gi_eq hlt] at hc6
    obtain ⟨x, hx⟩ : ∃ x, x = RD[j] := ⟨_, rfl⟩
    rw [← hx] at hc6 HT
    clear hx
    have x3r := cell_to x3 hb
    have x4r := cell_to x4 hb
    have krr := cell_to kri hb
    have hbz := hb.size
    have lgr := lt_of_cell x3r
    subst hfu
    go_wp2
    go_loop [8] (fun i => ∃ k : Nat, k ≤ t ∧ i = .int .i64 ((k : Int) - 1) ∧ srcF us x t = srcF us x k) (fun i => (intOf i + 1).toNat)
    case atStart => exact ⟨t, Nat.le_refl _, rfl, rfl⟩
    case round =>
      obtain ⟨k, hk, rfl, hs⟩ := hrel
      rcases k with _ | k
      case zero =>
        have HS := Lib.hid (hs.trans (show srcF us x 0 = -1 from rfl)); clear hs
        rw [show ((0 : Nat) : Int) - 1 = -1 from rfl]
        have hI := Lib.hid (show I64 (-1) by unfold I64; omega)
        go_wp2_with (
          at_builtin
          refine wpList_append_more (w0 := wr) (B := w.heap.size) (xs := ((RD.take j).map (fun c => srcF us c t)).map D.int) (ys := [D.int (-1)]) rfl (.tmp 38) (.tmp 40) _ rfl _ Tryz.underlying35 Tryz.infoInt rfl (by decide) rfl HG.out ?hbw rfl (one_int _ hI.out _) ?hys ?hn ?hf ?hlen ?hba ?_
          case hbw => exact bel
          case hys => intro y hy; simp only [List.mem_singleton] at hy; rw [hy]; rfl
          case hn => simp
          case hf => simp
          case hlen => simp; omega
          case hba => exact hbz
          intro v4 w4 hG4 hg4)
        have HG4 := Lib.hid (show Grow w4 w.heap.size 3 1 v4 (((RD.take (j + 1)).map (fun c => srcF us c t)).map D.int) by rw [HT.out, HS.out, List.map_append]; exact hG4)
        have S4 : Below w.heap.size w w4 := (hb.alloc hb.size _).trans (hg4.below (Nat.le_trans hbz (by simp)) (fun b hb => (HG.out.own_ge b hb).1))
        clear hG4 hg4
        go_wp2
        go_roundw
        case rel => exact ⟨j + 1, by omega, by go_num, HG4.out, S4⟩
        case measure => simp [intOf]; omega
      case succ =>
        rw [show (((k + 1 : Nat) : Int) - 1) = (k : Int) by omega]
        have kw := cell_to (HW.out k (by omega)).1 hb
        by_cases he : (nthU us k).write = x
        case pos =>
          have HS := Lib.hid (hs.trans (srcF_yes he)); clear hs
          have q : ((nthU us k).write != x) = false := ine_f he
          clear he
          have hI := Lib.hid (show I64 (k:Int) by unfold I64; omega)
          go_wp2_with (
            at_builtin
            refine wpList_append_more (w0 := wr) (B := w.heap.size) (xs := ((RD.take j).map (fun c => srcF us c t)).map D.int) (ys := [D.int (k:Int)]) rfl (.tmp 38) (.tmp 40) _ rfl _ Tryz.underlying35 Tryz.infoInt rfl (by decide) rfl HG.out ?hbw rfl (one_int _ hI.out _) ?hys ?hn ?hf ?hlen ?hba ?_
            case hbw => exact bel
            case hys => intro y hy; simp only [List.mem_singleton] at hy; rw [hy]; rfl
            case hn => simp
            case hf => simp
            case hlen => simp; omega
            case hba => exact hbz
            intro v4 w4 hG4 hg4)
          have HG4 := Lib.hid (show Grow w4 w.heap.size 3 1 v4 (((RD.take (j + 1)).map (fun c => srcF us c t)).map D.int) by rw [HT.out, HS.out, List.map_append]; exact hG4)
          have S4 : Below w.heap.size w w4 := (hb.alloc hb.size _).trans (hg4.below (Nat.le_trans hbz (by simp)) (fun b hb => (HG.out.own_ge b hb).1))
          clear hG4 hg4
          go_wp2
          go_roundw
          case rel => exact ⟨j + 1, by omega, by go_num, HG4.out, S4⟩
          case measure => simp [intOf]; omega
        case neg =>
          have HS := Lib.hid (hs.trans (srcF_no he)); clear hs
          have q : ((nthU us k).write != x) = true := ine_t he
          clear he
          go_wp2
          go_round
          case rel => exact ⟨k, by omega, by go_num, HS.out⟩
          case measure => simp [intOf]
theorem FlowF_len (p : Pgm) (t : Int) : (FlowF p t).1.length ≤ 1000000 := by
  cases hv : progOk p with
  | false => rw [FlowF_n hv]; simp
  | true =>
    by_cases ht : 0 ≤ t ∧ t < ((usesF p).length : Int)
    · obtain ⟨k, rfl⟩ := Int.eq_ofNat_of_zero_le ht.1
      have hk : k < (usesF p).length := by omega
      rw [FlowF_y hv hk, List.length_map]
      exact usr_len hv hk
    · rw [FlowF_no ht]; simp
end Go.Proofs.YtimocdpfnncnlaaGreat
