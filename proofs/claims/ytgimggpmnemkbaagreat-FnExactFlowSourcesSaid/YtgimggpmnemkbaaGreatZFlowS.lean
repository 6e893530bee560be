/- Sources of what an instance reads, on both sides; FlowSources. -/
import Derived.Test.YtgimggpmnemkbaaGreatZFlowF
import Derived.Test.YtgimggpmnemkbaaGreatZDeps1
set_option linter.all false
set_option linter.unusedSimpArgs false
set_option linter.unusedVariables false
namespace Go.Proofs.YtgimggpmnemkbaaGreat
open Go.ChangeShapes Go.WideShapes Go.ChangeAt Go.RowKit Go.Deep

/-- the call answers new integers and a truth value -/
def MadeIB (w : World) (r : List Int × Bool) (e : Ending) (w' : World) : Prop :=
  ∃ A n c bs, e = .returned (.tuple #[.slice A n c, .bool r.2]) ∧ Rep w' (ints r.1) [.slice A n c] bs ∧ bs.Nodup ∧ (∀ b ∈ bs, w.heap.size ≤ b) ∧ Below w.heap.size w w'
theorem MadeIB.nil {w w' : World} (b : Bool) (hb : Below w.heap.size w w') : MadeIB w ([], b) (.returned (.tuple #[.slice none 0 0, .bool b])) w' :=
  ⟨none, 0, 0, [], rfl, Rep.ints_nil (Nat.zero_le _), by simp, by simp, hb⟩
theorem MadeIB.of_grow {w w' : World} {e : TypeId} {v : Value} {l : List Int} {b : Bool} {B : Nat} (h : Grow w' B e 1 v (l.map D.int)) (hB : w.heap.size ≤ B) (hb : Below w.heap.size w w') : MadeIB w (l, b) (.returned (.tuple #[v, .bool b])) w' := by
  obtain ⟨A, c, bs, rfl, h1, h2, h3, _⟩ := h.ints
  exact ⟨A, _, c, bs, rfl, h1, h2, fun y hy => Nat.le_trans hB (h3 y hy), hb⟩
theorem srcF_yes {us : List Us} {c : Int} {k : Nat} (h : (nthU us k).write = c) : srcF us c (k + 1) = (k : Int) := by rw [srcF, if_pos h]
theorem srcF_no {us : List Us} {c : Int} {k : Nat} (h : ¬ (nthU us k).write = c) : srcF us c (k + 1) = srcF us c k := by rw [srcF, if_neg h]
theorem usr_len {p : Pgm} (hv : progOk p = true) {t : Nat} (ht : t < (usesF p).length) : (nthU (usesF p) t).reads.length ≤ 1000000 := by
  have hlt : t < (instsF p).length := by rw [← usesF_len]; exact ht
  have hx := InOk.of_mem (List.getElem_mem hlt)
  have hf := hx.fine hv
  rw [nthU_eq ht, usesF_get' hlt]
  simp only [useF, rdF_eq, List.length_map]
  exact (StB.of hf.stm hf.pt).n

set_option maxHeartbeats 2000000 in
theorem l6Source_c {w : World} {us : List Us} {A : Option Addr} {n c t : Nat} {bs : List Nat} {x : Int} (h : Rep w (sls Us.d us) [.slice A n c] bs) (ht : t ≤ us.length) (hu : us.length ≤ 120) :
    Calls Tryz.prog 90 #[.slice A n c, .int .i64 (t : Int), .int .i64 x] w fun e w' => e = .returned (.int .i64 (srcF us x t)) ∧ w = w' := by
  obtain ⟨rfl, _, _⟩ := h.sls_len
  have H := Lib.hid h; clear h
  go_enter Tryz.func90, Tryz.ntmps90
  go_wp2
  go_loop [7] (fun i => ∃ k : Nat, k ≤ t ∧ i = .int .i64 ((k : Int) - 1) ∧ srcF us x t = srcF us x k) (fun i => (intOf i + 1).toNat)
  case atStart => exact ⟨t, Nat.le_refl _, rfl, rfl⟩
  case round =>
    obtain ⟨k, hk, rfl, hs⟩ := hrel
    rcases k with _ | k
    · have HS := Lib.hid (hs.trans (show srcF us x 0 = -1 from rfl)); clear hs
      rw [show ((0 : Nat) : Int) - 1 = -1 from rfl]
      go_wp2
      go_ret
      exact ⟨ret_int HS.out.symm, rfl⟩
    · have hkl : k < us.length := by omega
      obtain ⟨b4, o4, cs4, l4, rfl, hl4, h4, _, _, hc4⟩ := H.out.sls_at Us.d_size (k := k) hkl
      rw [← nthU_eq hkl] at h4
      obtain ⟨A6, c6, d6, rfl, rfl, _⟩ := Rep.us_iff.1 h4
      have k1 := (hc4 1 _ rfl).1
      clear hc4 h4
      rw [show (((k + 1 : Nat) : Int) - 1) = (k : Int) by omega]
      by_cases he : (nthU us k).write = x
      · have HS := Lib.hid (hs.trans (srcF_yes he)); clear hs
        have q : ((nthU us k).write == x) = true := ieq_t he
        clear he
        go_wp2
        go_ret
        exact ⟨ret_int HS.out.symm, rfl⟩
      · have HS := Lib.hid (hs.trans (srcF_no he)); clear hs
        have q : ((nthU us k).write == x) = false := ieq_f he
        clear he
        go_wp2
        go_round
        case rel => exact ⟨k, by omega, by go_num, HS.out⟩
        case measure => simp [intOf]
set_option maxRecDepth 100000 in
set_option maxHeartbeats 4000000 in
theorem sources_c {w : World} {p : Pgm} {g t : Nat} (h : Trc w p g) (hv : progOk p = true) (ht : t < (usesF p).length) :
    Calls Tryz.prog 92 #[.pointer (some ⟨g, 0, none⟩), .int .i64 (t : Int)] w (MadeInts w ((nthU (usesF p) t).reads.map (fun c => srcF (usesF p) c t))) := by
  have hrl := usr_len hv ht
  have hul : (usesF p).length ≤ 120 := by rw [usesF_len]; exact (progOk_all hv).2.2
  obtain ⟨u0, u1, A3, b4, o4, c3, c4, b5, o5, c5, ⟨x0, x1, x2, x3, x4⟩, hl4, hl5, hR, hW⟩ := h.open (by omega)
  obtain ⟨Ai, ci, bsi, kri, ri⟩ := hR t ht
  have lg := lt_of_cell x3
  clear hR h x0 x1 x2
  obtain ⟨us, hus⟩ : ∃ us, us = usesF p := ⟨_, rfl⟩
  rw [← hus] at x3 x4 kri ri hW ht hrl hul ⊢
  obtain ⟨RD, hRD⟩ : ∃ RD, RD = (nthU us t).reads := ⟨_, rfl⟩
  rw [← hRD] at kri ri hrl ⊢
  have HW := Lib.hid hW
  have RI := Lib.hid ri
  clear hW ri hus hRD
  go_enter Tryz.func92, Tryz.ntmps92
  go_wp2
  go_loopw [5, 17] (fun u i wr => ∃ j : Nat, j ≤ RD.length ∧ i = .int .i64 j ∧ Grow wr w.heap.size 3 1 u (((RD.take j).map (fun c => srcF us c t)).map D.int) ∧ Below w.heap.size w wr) (fun _ i _ => RD.length - (intOf i).toNat)
  case atStart => exact ⟨0, Nat.zero_le _, rfl, Grow.nil _ _ _ _, bel⟩
  case round =>
    obtain ⟨j, hj, rfl, hG, hb⟩ := hrel
    have HG := Lib.hid hG; clear hG
    by_cases hlt : j < RD.length
    case neg =>
      have hjj : j = RD.length := by omega
      subst hjj
      rw [List.take_length] at HG
      obtain ⟨A6, c6, bs6, he, h1, h2, h3, _⟩ := HG.out.ints
      rw [List.length_map] at he h1
      subst he
      have H1 := Lib.hid h1; clear h1
      go_wp2
      go_ret
      exact ⟨_, _, _, bs6, rfl, H1.out, h2, h3, hb⟩
    obtain ⟨Au, cu, hfu, _, _⟩ := HG.out.form
    simp only [List.length_map, List.length_take] at hfu
    rw [show min j RD.length = j by omega] at hfu
    have HT := Lib.hid (show (RD.take (j + 1)).map (fun c => srcF us c t) = (RD.take j).map (fun c => srcF us c t) ++ [srcF us RD[j] t] by rw [List.take_succ_eq_append_getElem hlt, List.map_append]; rfl)
    obtain ⟨b6, o6, rfl, _, hbl6, hc6, _⟩ := (RI.out.below hb).ints_at hlt
    rw [gi_eq hlt] at hc6
    obtain ⟨x, hx⟩ : ∃ x, x = RD[j] := ⟨_, rfl⟩
    rw [← hx] at hc6 HT
    clear hx
    have x3r := cell_to x3 hb
    have x4r := cell_to x4 hb
    have krr := cell_to kri hb
    have hbz := hb.size
    have lgr := lt_of_cell x3r
    subst hfu
    go_wp2
    go_loop [8] (fun i => ∃ k : Nat, k ≤ t ∧ i = .int .i64 ((k : Int) - 1) ∧ srcF us x t = srcF us x k) (fun i => (intOf i + 1).toNat)
    case atStart => exact ⟨t, Nat.le_refl _, rfl, rfl⟩
    case round =>
      obtain ⟨k, hk, rfl, hs⟩ := hrel
      rcases k with _ | k
      case zero =>
        have HS := Lib.hid (hs.trans (show srcF us x 0 = -1 from rfl)); clear hs
        rw [show ((0 : Nat) : Int) - 1 = -1 from rfl]
        have hI := Lib.hid (show I64 (-1) by unfold I64; omega)
        go_wp2_with (
          at_builtin
          refine wpList_append_more (w0 := wr) (B := w.heap.size) (xs := ((RD.take j).map (fun c => srcF us c t)).map D.int) (ys := [D.int (-1)]) rfl (.tmp 38) (.tmp 40) _ rfl _ Tryz.underlying26 Tryz.infoInt rfl (by decide) rfl HG.out ?hbw rfl (one_int _ hI.out _) ?hys ?hn ?hf ?hlen ?hba ?_
          case hbw => exact bel
          case hys => intro y hy; simp only [List.mem_singleton] at hy; rw [hy]; rfl
          case hn => simp
          case hf => simp
          case hlen => simp; omega
          case hba => exact hbz
          intro v4 w4 hG4 hg4)
        have HG4 := Lib.hid (show Grow w4 w.heap.size 3 1 v4 (((RD.take (j + 1)).map (fun c => srcF us c t)).map D.int) by rw [HT.out, HS.out, List.map_append]; exact hG4)
        have S4 : Below w.heap.size w w4 := (hb.alloc hb.size _).trans (hg4.below (Nat.le_trans hbz (by simp)) (fun b hb => (HG.out.own_ge b hb).1))
        clear hG4 hg4
        go_wp2
        go_roundw
        case rel => exact ⟨j + 1, by omega, by go_num, HG4.out, S4⟩
        case measure => simp [intOf]; omega
      case succ =>
        rw [show (((k + 1 : Nat) : Int) - 1) = (k : Int) by omega]
        have kw := cell_to (HW.out k (by omega)).1 hb
        by_cases he : (nthU us k).write = x
        case pos =>
          have HS := Lib.hid (hs.trans (srcF_yes he)); clear hs
          have q : ((nthU us k).write != x) = false := ine_f he
          clear he
          have hI := Lib.hid (show I64 (k:Int) by unfold I64; omega)
          go_wp2_with (
            at_builtin
            refine wpList_append_more (w0 := wr) (B := w.heap.size) (xs := ((RD.take j).map (fun c => srcF us c t)).map D.int) (ys := [D.int (k:Int)]) rfl (.tmp 38) (.tmp 40) _ rfl _ Tryz.underlying26 Tryz.infoInt rfl (by decide) rfl HG.out ?hbw rfl (one_int _ hI.out _) ?hys ?hn ?hf ?hlen ?hba ?_
            case hbw => exact bel
            case hys => intro y hy; simp only [List.mem_singleton] at hy; rw [hy]; rfl
            case hn => simp
            case hf => simp
            case hlen => simp; omega
            case hba => exact hbz
            intro v4 w4 hG4 hg4)
          have HG4 := Lib.hid (show Grow w4 w.heap.size 3 1 v4 (((RD.take (j + 1)).map (fun c => srcF us c t)).map D.int) by rw [HT.out, HS.out, List.map_append]; exact hG4)
          have S4 : Below w.heap.size w w4 := (hb.alloc hb.size _).trans (hg4.below (Nat.le_trans hbz (by simp)) (fun b hb => (HG.out.own_ge b hb).1))
          clear hG4 hg4
          go_wp2
          go_roundw
          case rel => exact ⟨j + 1, by omega, by go_num, HG4.out, S4⟩
          case measure => simp [intOf]; omega
        case neg =>
          have HS := Lib.hid (hs.trans (srcF_no he)); clear hs
          have q : ((nthU us k).write != x) = true := ine_t he
          clear he
          go_wp2
          go_round
          case rel => exact ⟨k, by omega, by go_num, HS.out⟩
          case measure => simp [intOf]
set_option maxRecDepth 100000 in
set_option maxHeartbeats 4000000 in
theorem implFlowSources_c {w : World} {p : Pgm} {cs : List Value} {bs : List Nat} {t : Int} (h : Rep w p.d cs bs) :
    Calls Tryz.prog 45 #[.agg cs.toArray, .int .i64 t] w (MadeIB w (FlowF p t)) := by
  have HP := Lib.hid h
  obtain ⟨A1, c1, A2, c2, d1, d2, rfl, rfl, g1, g2⟩ := Rep.pgm_iff.1 h
  have Garrays := Lib.hid g1
  have Gparts := Lib.hid g2
  clear h g1 g2
  cases hv : progOk p with
  | false =>
    rw [FlowF_n hv]
    have HV := Lib.hid hv; clear hv
    go_enter Tryz.func45, Tryz.ntmps45
    go_wp2_with fail
    refine (trace_n (HP.out.below bel) HV.out).mono ?_
    rintro e w1 ⟨rfl, b1⟩
    have S1 : Below w.heap.size w w1 := bel
    go_wp2
    go_ret2
    exact MadeIB.nil _ S1
  | true =>
    have ul := usesF_len p
    have hul : (usesF p).length ≤ 120 := by rw [ul]; exact (progOk_all hv).2.2
    have UL := Lib.hid ul; clear ul
    by_cases ht : 0 ≤ t ∧ t < ((usesF p).length : Int)
    · obtain ⟨k, rfl⟩ := Int.eq_ofNat_of_zero_le ht.1
      have hk : k < (usesF p).length := by omega
      rw [FlowF_y hv hk]
      have HV := Lib.hid hv; clear hv
      have HB := Lib.hid (show inB (k : Int) 0 (((usesF p).length : Int) - 1) = true from inB_true (by omega) (by omega))
      go_enter Tryz.func45, Tryz.ntmps45
      go_wp2_with fail
      refine (trace_y (HP.out.below bel) HV.out).mono ?_
      rintro e w1 ⟨g, rfl, ht1, _, b1⟩
      have S1 : Below w.heap.size w w1 := bel
      have HT := Lib.hid ht1
      obtain ⟨A1_, A2_, A3_, A4_, A5_, c1_, c2_, c3_, c4_, c5_, _, _, _, _, ⟨_, y1, y2, y3, y4⟩, _⟩ := ht1
      rw [← UL.out] at y2
      clear b1
      go_wp2_with fail
      refine (within_c _ _ _ _).mono ?_
      rintro e w' ⟨rfl, rfl⟩
      rw [HB.out]
      go_wp2_with fail
      refine (sources_c HT.out HV.out hk).mono ?_
      rintro e w2 ⟨A6, n6, c6, bs6, rfl, r6, nd6, hb6, b2⟩
      go_wp2
      go_ret2
      exact ⟨A6, n6, c6, bs6, rfl, r6, nd6, fun b hb => Nat.le_trans S1.size (hb6 b hb), below_tr S1 b2⟩
    · rw [FlowF_no ht]
      have HV := Lib.hid hv; clear hv
      have HB := Lib.hid (show inB t 0 (((usesF p).length : Int) - 1) = false by
        by_cases h0 : 0 ≤ t
        · exact inB_hi (by omega)
        · exact inB_lo (by omega))
      go_enter Tryz.func45, Tryz.ntmps45
      go_wp2_with fail
      refine (trace_y (HP.out.below bel) HV.out).mono ?_
      rintro e w1 ⟨g, rfl, ht1, _, b1⟩
      have S1 : Below w.heap.size w w1 := bel
      obtain ⟨A1_, A2_, A3_, A4_, A5_, c1_, c2_, c3_, c4_, c5_, _, _, _, _, ⟨_, y1, y2, y3, y4⟩, _⟩ := ht1
      rw [← UL.out] at y2
      clear b1
      go_wp2_with fail
      refine (within_c _ _ _ _).mono ?_
      rintro e w' ⟨rfl, rfl⟩
      rw [HB.out]
      go_wp2
      go_ret2
      exact MadeIB.nil _ S1
set_option maxRecDepth 100000 in
set_option maxHeartbeats 4000000 in
theorem specFlowSources_c {w : World} {p : Pgm} {cs : List Value} {bs : List Nat} {t : Int} (h : Rep w p.d cs bs) :
    Calls Tryz.prog 44 #[.agg cs.toArray, .int .i64 t] w (MadeIB w (FlowF p t)) := by
  have HP := Lib.hid h
  obtain ⟨A1, c1, A2, c2, d1, d2, rfl, rfl, g1, g2⟩ := Rep.pgm_iff.1 h
  have Garrays := Lib.hid g1
  have Gparts := Lib.hid g2
  clear h g1 g2
  go_enter Tryz.func44, Tryz.ntmps44
  go_wp2_with fail
  refine (specProgramValid_c (HP.out.below bel)).mono ?_
  rintro e w1 ⟨rfl, b1⟩
  have P1 : Box2 w1 w.heap.size (.slice A1 p.arrays.length c1) (.slice A2 p.parts.length c2) := by
    refine ⟨?_, ?_⟩ <;> (rw [b1.cell (by simp [World.setCell]; try omega)]; go_simp)
  have S1 : Below w.heap.size w w1 := bel
  obtain ⟨U0, hU0⟩ : ∃ U0, U0 = Value.slice (some ⟨w.heap.size + 1, 0, none⟩) 0 0 := ⟨_, rfl⟩
  have HU1 := Lib.hid (show Grow w1 (w.heap.size + 1) 3 1 U0 (([] : List Int).map D.int) by rw [hU0]; exact Grow.below (Grow.madeE _ _ (by simp) (by simp)) b1)
  have HU := Lib.hid (show ∀ y, U0.ownBlock = some y → y = w.heap.size + 1 from fun y hy => by rw [hU0] at hy; simp [Value.ownBlock] at hy; omega)
  have hw1 : w.heap.size + 2 ≤ w1.heap.size := by have := b1.size; simp at this; omega
  have HU0 := Lib.hid hU0; clear hU0 b1
  cases hv : progOk p with
  | false =>
    have HE := Lib.hid (FlowF_n (t := t) hv); clear hv
    go_wp2
    go_ret2
    rw [HE.out, ← HU0.out]
    exact MadeIB.of_grow HU1.out (Nat.le_succ _) S1
  | true =>
    have ul := usesF_len p
    have hul : (usesF p).length ≤ 120 := by rw [ul]; exact (progOk_all hv).2.2
    have HE := Lib.hid (And.intro (fun h2 => FlowF_no (p := p) (t := t) h2) (fun (k : Nat) (h2 : k < (usesF p).length) => FlowF_y hv h2))
    have HRL := Lib.hid (fun (k : Nat) (h2 : k < (usesF p).length) => usr_len hv h2)
    have HV := Lib.hid hv; clear hv
    go_wp2_with fail
    refine (l6Uses_c (HP.out.below bel) HV.out).mono ?_
    rintro e w2 ⟨A3, c3, bs3, rfl, r2, hb23, b2⟩
    have s2 : Below w1.heap.size w1 w2 := bel
    have P2 := P1.to s2; clear P1
    have S2 : Below w.heap.size w w2 := below_tr S1 s2
    clear s2
    have HB3 := Lib.hid (show ∀ y ∈ bs3, w1.heap.size ≤ y ∧ y < w2.heap.size from fun y hy => ⟨hb23 y hy, Rep.lt _ r2 y hy⟩)
    have R2 := Lib.hid r2; clear r2 hb23
    have HU2 := Lib.hid (HU1.out.below b2)
    have HAP := Lib.hid (show ∀ y ∈ bs3, U0.ownBlock ≠ some y from fun y hy e => by have := HU.out y e; have := (HB3.out y hy).1; omega)
    have hw2 : w.heap.size + 2 ≤ w2.heap.size := by have := b2.size; omega
    clear b2 hw1 HU1 HB3
    have hs2 := S2.size
    obtain ⟨us, hus⟩ : ∃ us, us = usesF p := ⟨_, rfl⟩
    rw [← hus] at R2 hul HE HRL ⊢
    clear hus ul
    by_cases ht : 0 ≤ t ∧ t < (us.length : Int)
    case neg =>
      have HX := Lib.hid (HE.out.1 ht)
      by_cases h0 : t < 0
      case pos =>
        go_wp2
        go_ret2
        rw [HX.out, ← HU0.out]
        exact MadeIB.of_grow HU2.out (Nat.le_succ _) S2
      have h1 : (us.length : Int) ≤ t := by omega
      go_wp2
      go_ret2
      rw [HX.out, ← HU0.out]
      exact MadeIB.of_grow HU2.out (Nat.le_succ _) S2
    obtain ⟨k, rfl⟩ := Int.eq_ofNat_of_zero_le ht.1
    have hk : k < us.length := by omega
    clear ht
    have HX := Lib.hid (HE.out.2 k hk)
    have hrl := HRL.out k hk
    obtain ⟨RD, hRD⟩ : ∃ RD, RD = (nthU us k).reads := ⟨_, rfl⟩
    rw [← hRD] at HX hrl
    have HRD := Lib.hid hRD; clear hRD HE HRL
    have q1 : decide ((k : Int) < 0) = false := decide_eq_false (by omega)
    have q2 : decide (us.length ≤ k) = false := decide_eq_false (by omega)
    go_wp2
    go_loopw [6, 8] (fun u i wr => ∃ j : Nat, j ≤ RD.length ∧ i = .int .i64 j ∧ Grow wr (w.heap.size + 1) 3 1 u (((RD.take j).map (fun c => srcF us c k)).map D.int) ∧ Grew w2 wr U0 u) (fun _ i _ => RD.length - (intOf i).toNat)
    case atStart => exact ⟨0, Nat.zero_le _, rfl, by rw [← HU0.out]; exact HU2.out, by rw [← HU0.out]; exact Grew.refl _ _⟩
    case round =>
      obtain ⟨j, hj, rfl, hG, hgr⟩ := hrel
      have HG := Lib.hid hG; clear hG
      have Hgr := Lib.hid hgr; clear hgr
      have Sr : Below w.heap.size w wr := S2.trans (Hgr.out.below hs2 fun b hb => by have := HU.out b hb; omega)
      have RR := Lib.hid (R2.out.grew Hgr.out HAP.out)
      obtain ⟨b4, o4, cs4, l4, he4, hl4, h4, _, _, hc4⟩ := RR.out.sls_at Us.d_size (k := k) hk
      subst he4
      rw [← nthU_eq hk] at h4
      obtain ⟨A6, c6, d6, rfl, rfl, r6, _⟩ := Rep.us_iff.1 h4
      rw [← HRD.out] at r6
      have k0 := (hc4 0 _ rfl).1
      rw [Nat.add_zero, ← HRD.out] at k0
      clear hc4 h4
      by_cases hlt : j < RD.length
      case neg =>
        have hjj : j = RD.length := by omega
        subst hjj
        rw [List.take_length] at HG
        obtain ⟨Au, cu, hfu, _, _⟩ := HG.out.form
        subst hfu
        go_wp2
        go_ret2
        rw [HX.out]
        exact MadeIB.of_grow HG.out (Nat.le_succ _) Sr
      obtain ⟨Au, cu, hfu, _, _⟩ := HG.out.form
      simp only [List.length_map, List.length_take] at hfu
      rw [show min j RD.length = j by omega] at hfu
      have HT := Lib.hid (show (RD.take (j + 1)).map (fun c => srcF us c k) = (RD.take j).map (fun c => srcF us c k) ++ [srcF us RD[j] k] by rw [List.take_succ_eq_append_getElem hlt, List.map_append]; rfl)
      obtain ⟨b6, o6, rfl, _, hbl6, hc6, _⟩ := r6.ints_at hlt
      rw [gi_eq hlt] at hc6
      obtain ⟨x, hx⟩ : ∃ x, x = RD[j] := ⟨_, rfl⟩
      rw [← hx] at hc6 HT
      clear hx r6
      have hsb := srcF_bd us x k
      obtain ⟨v, hv⟩ : ∃ v, v = srcF us x k := ⟨_, rfl⟩
      rw [← hv] at HT hsb
      have HVV := Lib.hid hv; clear hv
      have hI := Lib.hid (show I64 v by unfold I64; omega)
      have hbz : w.heap.size + 1 ≤ wr.heap.size := by have h1 := Hgr.out.touch.size; omega
      subst hfu
      go_wp2_with fail
      refine (l6Source_c RR.out (by omega) hul).mono ?_
      rintro e w' ⟨rfl, rfl⟩
      rw [← HVV.out]
      go_wp2_with (
        at_builtin
        refine wpList_append_more (w0 := wr) (B := w.heap.size + 1) (xs := ((RD.take j).map (fun c => srcF us c k)).map D.int) (ys := [D.int v]) rfl (.tmp 35) (.tmp 47) _ rfl _ Tryz.underlying26 Tryz.infoInt rfl (by decide) rfl HG.out ?hbw rfl (one_int _ hI.out _) ?hys ?hn ?hf ?hlen ?hba ?_
        case hbw => exact bel
        case hys => intro y hy; simp only [List.mem_singleton] at hy; rw [hy]; rfl
        case hn => simp
        case hf => simp
        case hlen => simp; omega
        case hba => exact hbz
        intro v4 w4 hG4 hg4)
      have HG4 := Lib.hid (show Grow w4 (w.heap.size + 1) 3 1 v4 (((RD.take (j + 1)).map (fun c => srcF us c k)).map D.int) by rw [HT.out, List.map_append]; exact hG4)
      have g4 := Lib.hid (Hgr.out.trans (hg4.after (show Below wr.heap.size wr (wr.alloc (.cells #[.int .i64 v] 3)) from bel)))
      clear hG4 hg4
      go_wp2
      go_roundw
      case rel => exact ⟨j + 1, by omega, by go_num, HG4.out, g4.out⟩
      case measure => simp [intOf]; omega
theorem FlowF_len (p : Pgm) (t : Int) : (FlowF p t).1.length ≤ 1000000 := by
  cases hv : progOk p with
  | false => rw [FlowF_n hv]; simp
  | true =>
    by_cases ht : 0 ≤ t ∧ t < ((usesF p).length : Int)
    · obtain ⟨k, rfl⟩ := Int.eq_ofNat_of_zero_le ht.1
      have hk : k < (usesF p).length := by omega
      rw [FlowF_y hv hk, List.length_map]
      exact usr_len hv hk
    · rw [FlowF_no ht]; simp
end Go.Proofs.YtgimggpmnemkbaaGreat
