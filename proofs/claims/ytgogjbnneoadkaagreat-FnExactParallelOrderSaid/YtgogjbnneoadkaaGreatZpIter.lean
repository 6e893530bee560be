/- The instances of the iterations of a loop: iterations of the program's trace. -/
import Derived.Test.YtgogjbnneoadkaaGreatZpDeps1
import Derived.Test.YtgogjbnneoadkaaGreatZpTree
import Derived.Test.YtgogjbnneoadkaaGreatZpWaveV
set_option linter.all false
set_option linter.unusedSimpArgs false
set_option linter.unusedVariables false
namespace Go.Proofs.YtgogjbnneoadkaaGreat
open Go.ChangeShapes Go.WideShapes Go.ChangeAt Go.RowKit Go.Deep

theorem Tryz.infoIntss : (Tryz.prog.info? 91).map (fun i => (i.zero, i.size, decide (i.bytes ≤ 1024))) = some (some (.slice none 0 0), 1, true) := by kernel_rfl
abbrev T1 (B : Nat) : Lies (List (List Int)) := LL B 39 (LI B 3)
abbrev T2 (B : Nat) : Lies (List (List (List Int))) := LL B 91 (T1 B)
theorem T1_fr (B : Nat) : Frames B (T1 B) := LL.frames (LI.frames _ _)
theorem T2_fr (B : Nat) : Frames B (T2 B) := LL.frames (T1_fr _)
/-- the call answers new slices of new slices of new slices of integers -/
def MadeG (w : World) (G : List (List (List Int))) (e : Ending) (w' : World) : Prop :=
  ∃ A c bs, e = .returned (.slice A G.length c) ∧ Rep w' (sls (sls ints) G) [.slice A G.length c] bs ∧ bs.Nodup ∧ (∀ b ∈ bs, w.heap.size ≤ b) ∧ Below w.heap.size w w'
theorem MadeG.of {w w' : World} {v : Value} {G : List (List (List Int))} {bs : List Nat} (h : T2 w.heap.size w' v G bs) (hn : bs.Nodup) (hb : Below w.heap.size w w') : MadeG w G (.returned v) w' := by
  obtain ⟨A, c, rfl⟩ := h.form
  exact ⟨A, c, bs, rfl, LL.rep (LL.rep LI.rep) h, hn, fun y hy => ((T2_fr _).lt h y hy).1, hb⟩
theorem InOk.len {p : Pgm} {x : In} (h : InOk p x) {k : Nat} (hk : k < p.parts.length) (he : x.part = (k : Int)) : x.point.length = p.parts[k].nest.length := by
  have h1 := h.q
  rw [he, prtF_eq hk] at h1
  have := (pts_pre _ _ _ h1).2
  simpa using this
theorem getD_in {us : List In} {j : Nat} (h : j < us.length) : us.getD j dIn = us[j] := by rw [List.getD_eq_getElem?_getD, List.getElem?_eq_getElem h]; rfl
def lastI (xs : List Nat) : Int := match xs.getLast? with
  | none => -1
  | some b => (b : Int)
theorem lastI_none {xs : List Nat} (h : xs.getLast? = none) : lastI xs = -1 := by unfold lastI; rw [h]
theorem lastI_some {xs : List Nat} {b : Nat} (h : xs.getLast? = some b) : lastI xs = (b : Int) := by unfold lastI; rw [h]
theorem lastI_snoc (xs : List Nat) (b : Nat) : lastI (xs ++ [b]) = (b : Int) := lastI_some (by simp)
theorem ixTo_last {us : List In} {f : In → Bool} {j b : Nat} (h : (ixTo us f j).getLast? = some b) : b < j ∧ f (us.getD b dIn) = true := ixTo_lt (List.mem_of_getLast? h)
theorem ptK_eq {us : List In} {j : Nat} (h : j < us.length) (m : Nat) : ptK us m j = us[j].point.take m := by unfold ptK; rw [getD_in h]
theorem take_succ_gi {a b : List Int} {m : Nat} (ha : m < a.length) (hb : m < b.length) (h : a.take m = b.take m) : a.take (m + 1) = b.take (m + 1) ↔ gi a m = gi b m := by
  rw [List.take_succ_eq_append_getElem ha, List.take_succ_eq_append_getElem hb, h, gi_eq ha, gi_eq hb]
  exact ⟨fun e => by have := List.append_cancel_left e; simpa using this, fun e => by rw [e]⟩
theorem toI_snoc (l : List Nat) (j : Nat) : toI (l ++ [j]) = toI l ++ [(j : Int)] := by unfold toI; rw [List.map_append]; rfl
theorem toI3_snoc (G : List (List (List Nat))) (g : List (List Nat)) : toI3 (G ++ [g]) = toI3 G ++ [g.map toI] := by unfold toI3; rw [List.map_append]; rfl
theorem toI3_len (G : List (List (List Nat))) : (toI3 G).length = G.length := by unfold toI3; rw [List.length_map]
theorem groups2_len {β γ : Type} [DecidableEq β] [DecidableEq γ] {k1 : Nat → β} {k2 : Nat → γ} {xs : List Nat} : (groups2 k1 k2 xs).length ≤ xs.length := by
  unfold groups2 groupsK
  rw [List.length_map, List.length_map]
  exact headsK_len _ _
set_option maxRecDepth 100000 in
set_option maxHeartbeats 8000000 in
theorem iterations_c {w : World} {p : Pgm} {g k m : Nat} (h : Trc w p g) (hv : progOk p = true) (hk : k < p.parts.length) (hm : m < p.parts[k].nest.length) :
    Calls Tryz.prog 110 #[.pointer (some ⟨g, 0, none⟩), .int .i64 (k : Int), .int .i64 (m : Int)] w (MadeG w (toI3 (grpsF (instsF p) k m))) := by
  obtain ⟨A1, A2, A3, A4, A5, c1, c2, c3, c4, c5, bs, bs3, bs4, bs5, hX, _, hI, _, _⟩ := h
  have hun := progOk_insts hv
  have HT1 := Lib.hid (ptK_tog hk m)
  have HT2 := Lib.hid (ptK_tog hk (m + 1))
  have HLN := Lib.hid (show ∀ j (h : j < (instsF p).length), (instsF p)[j].part = (k : Int) → (instsF p)[j].point.length = p.parts[k].nest.length from fun j h e => (InOk.of_mem (List.getElem_mem h)).len hk e)
  have hk4 : k ≤ 1000 := by have := (progOk_all hv).1; omega
  have hm4 : p.parts[k].nest.length ≤ 1000000 := by
    have h1 := (progOk_all hv).2.1 _ (List.getElem_mem hk)
    unfold partOk at h1
    simp only [Bool.and_eq_true] at h1
    have := (nest_ok (npF_ok h1.1).1).1
    omega
  obtain ⟨us, hus⟩ : ∃ us, us = instsF p := ⟨_, rfl⟩
  obtain ⟨L, hL⟩ : ∃ L, L = p.parts[k].nest.length := ⟨_, rfl⟩
  rw [← hus] at HT1 HT2 HLN hX hI hun ⊢
  rw [← hL] at hm hm4 HLN
  clear hus hL
  have HI := Lib.hid hI; clear hI
  go_enter Tryz.func110, Tryz.ntmps110
  go_wp2
  go_loopw [7, 8, 20] (fun u b i wr => ∃ (j : Nat) (bsG : List Nat), j ≤ us.length ∧ i = .int .i64 j ∧ b = .int .i64 (lastI (ixTo us (partB k) j)) ∧ T2 w.heap.size wr u (toI3 (groups2 (ptK us m) (ptK us (m + 1)) (ixTo us (partB k) j))) bsG ∧ bsG.Nodup ∧ Below w.heap.size w wr) (fun _ _ i _ => us.length - (intOf i).toNat)
  case atStart => exact ⟨0, [], Nat.zero_le _, rfl, rfl, LL.nil _ _ _ _, by simp, bel⟩
  case round =>
    obtain ⟨j, bsG, hj, rfl, rfl, hG, hnd, hb⟩ := hrel
    have HG := Lib.hid hG; clear hG
    have HND := Lib.hid hnd; clear hnd
    have X := hX.to hb
    by_cases hlt : j < us.length
    case neg =>
      have hjj : j = us.length := by omega
      subst hjj
      rw [ixTo_all] at HG
      obtain ⟨Au, cu, hu⟩ := HG.out.form
      subst hu
      have HM := Lib.hid (MadeG.of HG.out HND.out hb)
      go_wp2
      go_ret
      exact HM.out
    obtain ⟨be, oe, cse, le, rfl, hble, hre, _, _, hce⟩ := (HI.out.below hb).sls_at In.d_size (k := j) hlt
    have Ge := Lib.hid hre
    obtain ⟨A3e, c3e, d3e, rfl, rfl, g1e, g2e, g3e⟩ := Rep.in_iff.1 hre
    have k0e := (hce 0 _ rfl).1; rw [Nat.add_zero] at k0e
    have k1e := (hce 1 _ rfl).1
    have k2e := (hce 2 _ rfl).1
    have Q1e := Lib.hid g1e
    have Q2e := Lib.hid g2e
    have Q3e := Lib.hid g3e
    clear hce hre g1e g2e g3e
    have HSN := Lib.hid (ixTo_succ us (partB k) j)
    have hxl := ixTo_len us (partB k) j
    by_cases hp : us[j].part = (k : Int)
    case neg =>
      have q0 : (us[j].part != (k : Int)) = true := ine_t hp
      have HS := Lib.hid (HSN.out.trans (show _ = ixTo us (partB k) j by rw [getD_in hlt]; unfold partB; rw [decide_eq_false hp]; simp))
      clear HSN
      go_wp2
      go_roundw
      case rel => exact ⟨j + 1, bsG, by omega, by go_num, by rw [HS.out], by rw [HS.out]; exact (T2_fr _).below HG.out bel, HND.out, bel⟩
      case measure => simp [intOf]; omega
    have q0 : (us[j].part != (k : Int)) = false := ine_f hp
    have HS := Lib.hid (HSN.out.trans (show _ = ixTo us (partB k) j ++ [j] by rw [getD_in hlt]; unfold partB; rw [decide_eq_true hp]; simp))
    clear HSN
    have hlen := HLN.out j hlt hp
    have hT1 : Together (ptK us m) (ixTo us (partB k) j ++ [j]) := HT1.out.sub (by rw [← HS.out, ← ixTo_all]; exact ixTo_sub _ _ (by omega))
    have hT2 : Together (ptK us (m + 1)) (ixTo us (partB k) j ++ [j]) := HT2.out.sub (by rw [← HS.out, ← ixTo_all]; exact ixTo_sub _ _ (by omega))
    have HLAST := Lib.hid (fun b => ixTo_last (us := us) (f := partB k) (j := j) (b := b))
    obtain ⟨xs, hxs⟩ : ∃ xs, xs = ixTo us (partB k) j := ⟨_, rfl⟩
    rw [← hxs] at HS HG hxl hT1 hT2 HLAST ⊢
    clear hxs
    obtain ⟨bp, op, hAp, _, hlp, hcp, _⟩ := Q3e.out.ints_at (k := m) (by omega)
    subst hAp
    have hcap := Q3e.out.ints_len.2.1
    have hcm := Q3e.out.ints_len.2.2
    cases hl : xs.getLast? with
    | none =>
      obtain ⟨x0, hx0r⟩ : ∃ x : List (List Int), x = [] := ⟨[], rfl⟩
      obtain ⟨l0, hl0r⟩ : ∃ x : List Int, x = [] := ⟨[], rfl⟩
      have hx0 := Lib.hid hx0r
      have hl0 := Lib.hid hl0r
      clear hx0r hl0r
      have HNEW := groups2_new (k2 := ptK us (m + 1)) hT1 (by rw [hl]; simp)
      have hbv : lastI xs = -1 := lastI_none hl
      obtain ⟨GL, hGL⟩ : ∃ GL, GL = toI3 (groups2 (ptK us m) (ptK us (m + 1)) xs) := ⟨_, rfl⟩
      rw [← hGL] at HG
      have HFIN := Lib.hid (show toI3 (groups2 (ptK us m) (ptK us (m + 1)) (xs ++ [j])) = GL ++ [x0 ++ [l0 ++ [(j : Int)]]] by rw [HNEW, toI3_snoc, ← hGL, hx0.out, hl0.out]; rfl)
      have HGL := Lib.hid (show GL.length ≤ 120 by rw [hGL, toI3_len]; exact Nat.le_trans groups2_len (by omega))
      have hgl := HGL.out
      have HXL := Lib.hid (show x0.length ≤ 120 by rw [hx0.out]; simp)
      have hxl0 := HXL.out
      have HLL := Lib.hid (show l0.length ≤ 120 by rw [hl0.out]; simp)
      have HWX := Lib.hid (show IntKind.i64.wrap (x0.length : Int) = (x0.length : Int) from IntWalk.i64_in _ (by omega))
      have hX0 : (0 ≤ (x0.length : Int)) = True := eq_true (by omega)
      have hX1 : ((x0.length : Int) < (x0.length : Int) + 1) = True := eq_true (by omega)
      rw [hbv]
      clear HNEW hGL hbv HLAST hT1 hT2 hl
      go_wp2_with fail
      refine wp_region_noPanic ?_
      refine wp_region_held_drew (S := fun w' => True) (by kernel_rfl) (trivial) (fun hHeld => ?_)
      refine goR 0 hHeld ?_
      refine goR 1 hHeld ?_
      refine goR 2 hHeld ?_
      refine goS 3 hHeld ?_
      refine goS 4 hHeld ?_
      refine goS 5 hHeld ?_
      refine goS 6 hHeld ?_
      refine goS 7 hHeld ?_
      refine goS 8 hHeld ?_
      refine goS 9 hHeld ?_
      refine goS 10 hHeld ?_
      refine goS 11 hHeld ?_
      refine goS 12 hHeld ?_
      refine goS 13 hHeld ?_
      refine goS 14 hHeld ?_
      refine goS 15 hHeld ?_
      refine goS 16 hHeld ?_
      refine goS 17 hHeld ?_
      refine goR 18 hHeld ?_
      refine goR 19 hHeld ?_
      refine wpAnyH_done (by kernel_rfl) ?_ _
      refine NoPanic.normal ?_
      go_wp2_with fail
      refine wp_region_noPanic ?_
      refine wp_region_held_drew (S := fun w' => True) (by kernel_rfl) (trivial) (fun hHeld => ?_)
      refine goR 0 hHeld ?_
      refine goR 1 hHeld ?_
      refine goS 2 hHeld ?_
      refine goS 3 hHeld ?_
      refine goS 4 hHeld ?_
      refine goS 5 hHeld ?_
      refine goS 6 hHeld ?_
      refine goS 7 hHeld ?_
      refine goS 8 hHeld ?_
      refine goS 9 hHeld ?_
      refine goS 10 hHeld ?_
      refine goS 11 hHeld ?_
      refine goS 12 hHeld ?_
      refine goS 13 hHeld ?_
      refine goS 14 hHeld ?_
      refine goS 15 hHeld ?_
      refine goS 16 hHeld ?_
      refine goS 17 hHeld ?_
      refine goS 18 hHeld ?_
      refine goR 19 hHeld ?_
      refine goR 20 hHeld ?_
      refine wpAnyH_done (by kernel_rfl) ?_ _
      refine NoPanic.normal ?_
      go_wp2_with (first
        | (at_builtin
           (
             refine wpList_append_LL (u := .slice none 0 0) (d := x0) rfl (T1_fr _) (.tmp 70) (.tmp 71) _ rfl _ Tryz.underlying160 Tryz.infoIntss rfl rfl (Frames.below (T2_fr _) HG.out ?hbw) HND.out rfl (by go_simp) rfl (fun W => by rw [hx0.out]; exact LL.nil W _ _ _) ?hlen ?hba ?_
             case hbw => exact bel
             case hlen => have := HGL.out; omega
             case hba => simp [World.setCell]; have := (hb).size; omega
             intro v4 w4 cb4 _ hG4 hn4 hg4
             have Z4 : Below w.heap.size w w4 := (by
               refine Below.trans ?_ (hg4.below ?_ (fun b hb => (LL.own_ge HG.out b hb).1))
               · exact bel
               · simp [World.setCell]; have := (hb).size; omega)
             have HG4 := Lib.hid hG4
             have HN4 := Lib.hid hn4
             clear hG4 hn4 hg4
             obtain ⟨g5, cg5, A5, ca5, b5, hv5, hc5, hf5, hB5, hl5, hG5, hn5, hno5, hbk5⟩ := LL.mid (xs := GL) (x := x0) (LI.frames _ _) HG4.out HN4.out
             subst hv5
             have HBK := Lib.hid hbk5; clear hbk5
             have HG5 := Lib.hid hG5; clear hG5
             have HN5 := Lib.hid hn5; clear hn5))
        | (at_builtin
           (
             refine wpList_append_LL (u := .slice none 0 0) (d := l0) rfl (LI.frames _ _) (.tmp 83) (.tmp 84) _ rfl _ Tryz.underlying91 Tryz.infoInts rfl rfl (Frames.below (T1_fr _) HG5.out ?hbw) HN5.out rfl (by go_simp) rfl (fun W => by rw [hl0.out]; exact LI.nil W _ _) ?hlen ?hba ?_
             case hbw => exact bel
             case hlen => have := HXL.out; omega
             case hba => simp; have := Z4.size; omega
             intro v6 w6 cb6 he6 hG6 hn6 hg6
             have he := hg6.heap_eq (w0 := w4) bel
             obtain ⟨hc6, hf6⟩ := hg6.cellH (w0 := w4) bel hl5 hno5 GL.length
             rw [hc5] at hc6
             rw [hf5] at hf6
             obtain ⟨A6, c6, hv6⟩ := hG6.form
             rw [List.length_append, List.length_singleton] at hv6
             subst hv6
             obtain ⟨bs6, hT6, hN6⟩ := HBK.out _ _ _ _ he6 he.1 hG6 hn6 he.2
             have Z6 : Below w.heap.size w w6 := (by
               refine Below.trans ?_ (hg6.below ?_ (fun b hb => (LL.own_ge HG5.out b hb).1))
               · exact bel
               · simp; have := Z4.size; omega)
             obtain ⟨g7, cg7, h7, ch7, A7, c7, hv7, hcA, hB7, hl7, hcB, hfB, hB8, hl8, hne7, hL7, hno7, hin7⟩ := LL.inn (Xs := GL) (xs := x0) (x := l0) hT6 hN6
             simp only [Value.slice.injEq, Option.some.injEq, Addr.mk.injEq] at hv7
             obtain ⟨⟨rfl, _⟩, _, rfl⟩ := hv7
             have e7 := set_here hcA hc6
             simp only [Value.slice.injEq] at e7
             obtain ⟨rfl, _, rfl⟩ := e7
             have hcC := set_far hcB hne7
             have hfC := set_farF hfB
             clear hT6 hN6 hG6 hn6 hg6 he he6 hcA)))
      go_wp2_with fail
      refine wp_region_noPanic ?_
      refine wp_region_held_drew (S := fun w' => w'.cell? ⟨g5, GL.length, none⟩ = some (.slice (some ⟨h7, 0, none⟩) (x0.length + 1) c6)) (by kernel_rfl) ((by go_simp)) (fun hHeld => ?_)
      refine goR 0 hHeld ?_
      refine goR 1 hHeld ?_
      refine goR 2 hHeld ?_
      refine goR 3 hHeld ?_
      refine goR 4 hHeld ?_
      refine goR 5 hHeld ?_
      refine goR 6 hHeld ?_
      refine goR 7 hHeld ?_
      refine takeR (i := 8) (v := ?_) rfl rfl (by kernel_rfl) (by kernel_rfl) (by kernel_rfl) (fun _ _ _ h => h) ?_ hHeld ?_
      rotate_left 1
      · intro w hSw; (try dsimp only at hSw); go_simp
        try simp only [HWX.out, hX0, hX1, and_self, if_true, Int.toNat_natCast]
        try with_reducible rfl
      simp only [Act.put, aq0, aq1, aq2]
      refine goR 9 hHeld ?_
      refine wpAnyH_done (by kernel_rfl) ?_ _
      refine NoPanic.normal ?_
      have HIN7 := Lib.hid hin7; clear hin7
      have HL7 := Lib.hid hL7; clear hL7
      have hI : I64 (j : Int) := by unfold I64; omega
      go_wp2_with (
        at_builtin
        (
          refine wpList_append_LI (n := (j : Int)) rfl (.tmp 99) (.tmp 101) _ rfl Tryz.underlying39 Tryz.infoInt rfl (Frames.below (LI.frames _ _) HL7.out ?hbw) rfl (by go_simp) hI ?hlen ?hba ?_
          case hbw => exact bel
          case hlen => have := HLL.out; omega
          case hba => simp [World.setCell]; have := Z6.size; omega
          intro v8 w8 hG8 hg8
          obtain ⟨hc8, hf8⟩ := hg8.cellH bel hl8 hno7 x0.length
          rw [hcB] at hc8
          rw [hfB] at hf8
          obtain ⟨A8, c8, hv8⟩ := hG8.form
          rw [List.length_append, List.length_singleton] at hv8
          subst hv8
          obtain ⟨bs8, hT8, hN8⟩ := HIN7.out _ _ _ (hg8.heap_eq bel).1 hG8 (hg8.heap_eq bel).2
          have Z8 : Below w.heap.size w w8 := (by
            refine Below.trans ?_ (hg8.below ?_ (fun b hb => (LI.own_ge HL7.out b hb).1))
            · exact bel
            · simp [World.setCell]; have := Z6.size; omega)
          have HT8 := Lib.hid hT8
          have HN8 := Lib.hid hN8
          clear hT8 hN8 hG8 hg8))
      go_wp2
      go_roundw
      case rel => exact ⟨j + 1, bs8, by omega, by go_num, by rw [HS.out, lastI_snoc], by rw [HS.out, HFIN.out]; exact HT8.out, HN8.out, Z8.setCell (by simp; omega) _⟩
      case measure => simp [intOf]; omega
    | some b =>
      obtain ⟨hbj, hbp⟩ := HLAST.out b hl
      clear HLAST
      have hbl : b < us.length := by omega
      have hbp2 : us[b].part = (k : Int) := by
        rw [getD_in hbl] at hbp
        unfold partB at hbp
        simpa using hbp
      have hlenb := HLN.out b hbl hbp2
      have hlb := lastI_some hl
      rw [hlb]
      clear hbp hlb
      obtain ⟨bf, of, csf, lf, heqf, hblf, hrf, _, _, hcf⟩ := (HI.out.below hb).sls_at In.d_size (k := b) hbl
      obtain ⟨rfl, rfl⟩ : be = bf ∧ oe = of := by simpa using heqf
      have Gf := Lib.hid hrf
      obtain ⟨A3f, c3f, d3f, rfl, rfl, g1f, g2f, g3f⟩ := Rep.in_iff.1 hrf
      have k0f := (hcf 0 _ rfl).1; rw [Nat.add_zero] at k0f
      have k1f := (hcf 1 _ rfl).1
      have k2f := (hcf 2 _ rfl).1
      have Q1f := Lib.hid g1f
      have Q2f := Lib.hid g2f
      have Q3f := Lib.hid g3f
      clear hcf hrf g1f g2f g3f
      obtain ⟨bq, oq, hAq, _, hlq, hcq, _⟩ := Q3f.out.ints_at (k := m) (by omega)
      subst hAq
      have hcapf := Q3f.out.ints_len.2.1
      have hcmf := Q3f.out.ints_len.2.2
      rw [hlen] at k2e hcap
      rw [hlenb] at k2f hcapf
      have HE1 := Lib.hid ((Q3e.out.ints_take (j := m) (by omega)).choose_spec)
      have HF1 := Lib.hid ((Q3f.out.ints_take (j := m) (by omega)).choose_spec)
      obtain ⟨W, hW⟩ : ∃ W, W = wr.alloc (.cells #[.int .i64 (k : Int), .int .i64 us[j].stmt, .slice (some ⟨bp, op, none⟩) L c3e] 84) := ⟨_, rfl⟩
      have BW : Below wr.heap.size wr W := by rw [hW]; exact bel
      have xb2 : W.cell? ⟨wr.heap.size, 2, none⟩ = some (.slice (some ⟨bp, op, none⟩) L c3e) := by rw [hW]; go_simp
      have HW := Lib.hid hW; clear hW
      have XW := X.to BW
      have kbW := (BW.cell (p := ⟨be, oe + b * 3 + 2, none⟩) hble).trans k2f
      have HWB := Lib.hid (show IntKind.i64.wrap (b : Int) = (b : Int) from IntWalk.i64_in _ (by omega))
      have hB0 : (0 ≤ (b : Int)) = True := eq_true (by omega)
      have hB1 : ((b : Int) < (us.length : Int)) = True := eq_true (by omega)
      have HWM := Lib.hid (show IntKind.i64.wrap (m : Int) = (m : Int) from IntWalk.i64_in _ (by omega))
      have hM0 : (0 ≤ (m : Int)) = True := eq_true (by omega)
      have hM1 : ((m : Int) < (L : Int)) = True := eq_true (by omega)
      have hM2 : (m ≤ c3f) = True := eq_true (by omega)
      have hM3 : (m ≤ c3e) = True := eq_true (by omega)
      have hq1 := ptK_eq hbl m
      have hq2 := ptK_eq hlt m
      have hr1 := ptK_eq hbl (m + 1)
      have hr2 := ptK_eq hlt (m + 1)
      by_cases hk1 : us[b].point.take m = us[j].point.take m
      case neg =>
        have HK := Lib.hid (decide_eq_false hk1)
        obtain ⟨x0, hx0r⟩ : ∃ x : List (List Int), x = [] := ⟨[], rfl⟩
        obtain ⟨l0, hl0r⟩ : ∃ x : List Int, x = [] := ⟨[], rfl⟩
        have hx0 := Lib.hid hx0r
        have hl0 := Lib.hid hl0r
        clear hx0r hl0r
        have HNEW := groups2_new (k2 := ptK us (m + 1)) hT1 (by rw [hl]; simp only [Option.map_some]; rw [hq1, hq2]; exact fun e => hk1 (Option.some.inj e))
        obtain ⟨GL, hGL⟩ : ∃ GL, GL = toI3 (groups2 (ptK us m) (ptK us (m + 1)) xs) := ⟨_, rfl⟩
        rw [← hGL] at HG
        have HFIN := Lib.hid (show toI3 (groups2 (ptK us m) (ptK us (m + 1)) (xs ++ [j])) = GL ++ [x0 ++ [l0 ++ [(j : Int)]]] by rw [HNEW, toI3_snoc, ← hGL, hx0.out, hl0.out]; rfl)
        have HGL := Lib.hid (show GL.length ≤ 120 by rw [hGL, toI3_len]; exact Nat.le_trans groups2_len (by omega))
        have hgl := HGL.out
        have HXL := Lib.hid (show x0.length ≤ 120 by rw [hx0.out]; simp)
        have hxl0 := HXL.out
        have HLL := Lib.hid (show l0.length ≤ 120 by rw [hl0.out]; simp)
        have HWX := Lib.hid (show IntKind.i64.wrap (x0.length : Int) = (x0.length : Int) from IntWalk.i64_in _ (by omega))
        have hX0 : (0 ≤ (x0.length : Int)) = True := eq_true (by omega)
        have hX1 : ((x0.length : Int) < (x0.length : Int) + 1) = True := eq_true (by omega)
        clear HNEW hGL hT1 hT2 hl hk1 hq1 hq2 hr1 hr2
        go_wp2_with fail
        rw [← HW.out]
        refine wp_region_noPanic ?_
        refine wp_region_held_drew (S := fun w' => (Box5 w' g (.slice A1 p.arrays.length c1) (.slice A2 p.parts.length c2) (.slice (some ⟨be, oe, none⟩) us.length c3) (.slice A4 (usesF p).length c4) (.slice A5 (usesF p).length c5)) ∧ w'.cell? ⟨be, oe + b * 3 + 2, none⟩ = some (.slice (some ⟨bq, oq, none⟩) L c3f) ∧ w'.cell? ⟨wr.heap.size, 2, none⟩ = some (.slice (some ⟨bp, op, none⟩) L c3e)) (by kernel_rfl) (⟨XW, kbW, xb2⟩) (fun hHeld => ?_)
        refine goR 0 hHeld ?_
        refine goR 1 hHeld ?_
        refine goR 2 hHeld ?_
        refine goG 3 hHeld ?_
        refine goG 4 hHeld ?_
        refine goG 5 hHeld ?_
        refine goG 6 hHeld ?_
        refine goG 7 hHeld ?_
        refine takeG (i := 8) (v := ?_) rfl (by kernel_rfl) (by kernel_rfl) (by kernel_rfl) (by kernel_rfl) (fun _ _ _ h => h) ?_ hHeld ?_
        rotate_left 1
        · intro w hSw; (try dsimp only at hSw); go_simp
          try simp only [HWB.out, hB0, hB1, HWM.out, hM0, hM2, hM3, and_self, if_true, Int.toNat_natCast]
          try with_reducible rfl
        simp only [Act.put, aq0, aq1, aq2]
        refine goG 9 hHeld ?_
        refine goG 10 hHeld ?_
        refine goG 11 hHeld ?_
        refine takeG (i := 12) (v := ?_) rfl (by kernel_rfl) (by kernel_rfl) (by kernel_rfl) (by kernel_rfl) (fun _ _ _ h => h) ?_ hHeld ?_
        rotate_left 1
        · intro w hSw; (try dsimp only at hSw); go_simp
          try simp only [HWB.out, hB0, hB1, HWM.out, hM0, hM2, hM3, and_self, if_true, Int.toNat_natCast]
          try with_reducible rfl
        simp only [Act.put, aq0, aq1, aq2]
        refine goG 13 hHeld ?_
        refine goG 14 hHeld ?_
        refine goG 15 hHeld ?_
        refine takeG (i := 16) (v := ?_) rfl (by kernel_rfl) (by kernel_rfl) (by kernel_rfl) (by kernel_rfl) (fun _ _ _ h => h) ?_ hHeld ?_
        rotate_left 1
        · intro w hSw; (try dsimp only at hSw); go_simp
          try simp only [HWB.out, hB0, hB1, HWM.out, hM0, hM2, hM3, and_self, if_true, Int.toNat_natCast]
          try with_reducible rfl
        simp only [Act.put, aq0, aq1, aq2]
        refine stepR (i := 17) rfl (by kernel_rfl) (by kernel_rfl) (fun K hK => ?_)
        go_simp
        (refine (drewB (Equal_int_c ((HF1.out.below BW).drewN 1) ((HE1.out.below BW).drewN 1))).mono ?_; rintro e w2 ⟨he, b2⟩; rw [HK.out] at he; subst he; have a2 := of_drew b2)
        go_wp2_with fail
        refine hK.out _ _ (⟨hHeld.1.to b2, cell_toC hHeld.2.1 b2, cell_toC hHeld.2.2 b2⟩) (fun hHeld => ?_)
        clear hK K
        try simp only [Act.put, aq0, aq1, aq2]
        refine goR 18 hHeld ?_
        refine goR 19 hHeld ?_
        refine wpAnyH_done (by kernel_rfl) ?_ _
        refine NoPanic.normal ?_
        clear b2
        go_wp2_with fail
        refine wp_region_noPanic ?_
        refine wp_region_held_drew (S := fun w' => True) (by kernel_rfl) (trivial) (fun hHeld => ?_)
        refine goR 0 hHeld ?_
        refine goR 1 hHeld ?_
        refine goS 2 hHeld ?_
        refine goS 3 hHeld ?_
        refine goS 4 hHeld ?_
        refine goS 5 hHeld ?_
        refine goS 6 hHeld ?_
        refine goS 7 hHeld ?_
        refine goS 8 hHeld ?_
        refine goS 9 hHeld ?_
        refine goS 10 hHeld ?_
        refine goS 11 hHeld ?_
        refine goS 12 hHeld ?_
        refine goS 13 hHeld ?_
        refine goS 14 hHeld ?_
        refine goS 15 hHeld ?_
        refine goS 16 hHeld ?_
        refine goS 17 hHeld ?_
        refine goS 18 hHeld ?_
        refine goR 19 hHeld ?_
        refine goR 20 hHeld ?_
        refine wpAnyH_done (by kernel_rfl) ?_ _
        refine NoPanic.normal ?_
        have T2w : Below wr.heap.size wr w2 := below_tr BW a2
        have HG2 := Lib.hid ((T2_fr _).below HG.out T2w)
        have Z2 : Below w.heap.size w w2 := below_tr hb T2w
        go_wp2_with (first
          | (at_builtin
             (
               refine wpList_append_LL (u := .slice none 0 0) (d := x0) rfl (T1_fr _) (.tmp 70) (.tmp 71) _ rfl _ Tryz.underlying160 Tryz.infoIntss rfl rfl (Frames.below (T2_fr _) HG2.out ?hbw) HND.out rfl (by go_simp) rfl (fun W => by rw [hx0.out]; exact LL.nil W _ _ _) ?hlen ?hba ?_
               case hbw => exact bel
               case hlen => have := HGL.out; omega
               case hba => simp [World.setCell]; have := (Z2).size; omega
               intro v4 w4 cb4 _ hG4 hn4 hg4
               have Z4 : Below w.heap.size w w4 := (by
                 refine Below.trans ?_ (hg4.below ?_ (fun b hb => (LL.own_ge HG2.out b hb).1))
                 · exact bel
                 · simp [World.setCell]; have := (Z2).size; omega)
               have HG4 := Lib.hid hG4
               have HN4 := Lib.hid hn4
               clear hG4 hn4 hg4
               obtain ⟨g5, cg5, A5, ca5, b5, hv5, hc5, hf5, hB5, hl5, hG5, hn5, hno5, hbk5⟩ := LL.mid (xs := GL) (x := x0) (LI.frames _ _) HG4.out HN4.out
               subst hv5
               have HBK := Lib.hid hbk5; clear hbk5
               have HG5 := Lib.hid hG5; clear hG5
               have HN5 := Lib.hid hn5; clear hn5))
          | (at_builtin
             (
               refine wpList_append_LL (u := .slice none 0 0) (d := l0) rfl (LI.frames _ _) (.tmp 83) (.tmp 84) _ rfl _ Tryz.underlying91 Tryz.infoInts rfl rfl (Frames.below (T1_fr _) HG5.out ?hbw) HN5.out rfl (by go_simp) rfl (fun W => by rw [hl0.out]; exact LI.nil W _ _) ?hlen ?hba ?_
               case hbw => exact bel
               case hlen => have := HXL.out; omega
               case hba => simp; have := Z4.size; omega
               intro v6 w6 cb6 he6 hG6 hn6 hg6
               have he := hg6.heap_eq (w0 := w4) bel
               obtain ⟨hc6, hf6⟩ := hg6.cellH (w0 := w4) bel hl5 hno5 GL.length
               rw [hc5] at hc6
               rw [hf5] at hf6
               obtain ⟨A6, c6, hv6⟩ := hG6.form
               rw [List.length_append, List.length_singleton] at hv6
               subst hv6
               obtain ⟨bs6, hT6, hN6⟩ := HBK.out _ _ _ _ he6 he.1 hG6 hn6 he.2
               have Z6 : Below w.heap.size w w6 := (by
                 refine Below.trans ?_ (hg6.below ?_ (fun b hb => (LL.own_ge HG5.out b hb).1))
                 · exact bel
                 · simp; have := Z4.size; omega)
               obtain ⟨g7, cg7, h7, ch7, A7, c7, hv7, hcA, hB7, hl7, hcB, hfB, hB8, hl8, hne7, hL7, hno7, hin7⟩ := LL.inn (Xs := GL) (xs := x0) (x := l0) hT6 hN6
               simp only [Value.slice.injEq, Option.some.injEq, Addr.mk.injEq] at hv7
               obtain ⟨⟨rfl, _⟩, _, rfl⟩ := hv7
               have e7 := set_here hcA hc6
               simp only [Value.slice.injEq] at e7
               obtain ⟨rfl, _, rfl⟩ := e7
               have hcC := set_far hcB hne7
               have hfC := set_farF hfB
               clear hT6 hN6 hG6 hn6 hg6 he he6 hcA)))
        go_wp2_with fail
        refine wp_region_noPanic ?_
        refine wp_region_held_drew (S := fun w' => w'.cell? ⟨g5, GL.length, none⟩ = some (.slice (some ⟨h7, 0, none⟩) (x0.length + 1) c6)) (by kernel_rfl) ((by go_simp)) (fun hHeld => ?_)
        refine goR 0 hHeld ?_
        refine goR 1 hHeld ?_
        refine goR 2 hHeld ?_
        refine goR 3 hHeld ?_
        refine goR 4 hHeld ?_
        refine goR 5 hHeld ?_
        refine goR 6 hHeld ?_
        refine goR 7 hHeld ?_
        refine takeR (i := 8) (v := ?_) rfl rfl (by kernel_rfl) (by kernel_rfl) (by kernel_rfl) (fun _ _ _ h => h) ?_ hHeld ?_
        rotate_left 1
        · intro w hSw; (try dsimp only at hSw); go_simp
          try simp only [HWX.out, hX0, hX1, and_self, if_true, Int.toNat_natCast]
          try with_reducible rfl
        simp only [Act.put, aq0, aq1, aq2]
        refine goR 9 hHeld ?_
        refine wpAnyH_done (by kernel_rfl) ?_ _
        refine NoPanic.normal ?_
        have HIN7 := Lib.hid hin7; clear hin7
        have HL7 := Lib.hid hL7; clear hL7
        have hI : I64 (j : Int) := by unfold I64; omega
        go_wp2_with (
          at_builtin
          (
            refine wpList_append_LI (n := (j : Int)) rfl (.tmp 99) (.tmp 101) _ rfl Tryz.underlying39 Tryz.infoInt rfl (Frames.below (LI.frames _ _) HL7.out ?hbw) rfl (by go_simp) hI ?hlen ?hba ?_
            case hbw => exact bel
            case hlen => have := HLL.out; omega
            case hba => simp [World.setCell]; have := Z6.size; omega
            intro v8 w8 hG8 hg8
            obtain ⟨hc8, hf8⟩ := hg8.cellH bel hl8 hno7 x0.length
            rw [hcB] at hc8
            rw [hfB] at hf8
            obtain ⟨A8, c8, hv8⟩ := hG8.form
            rw [List.length_append, List.length_singleton] at hv8
            subst hv8
            obtain ⟨bs8, hT8, hN8⟩ := HIN7.out _ _ _ (hg8.heap_eq bel).1 hG8 (hg8.heap_eq bel).2
            have Z8 : Below w.heap.size w w8 := (by
              refine Below.trans ?_ (hg8.below ?_ (fun b hb => (LI.own_ge HL7.out b hb).1))
              · exact bel
              · simp [World.setCell]; have := Z6.size; omega)
            have HT8 := Lib.hid hT8
            have HN8 := Lib.hid hN8
            clear hT8 hN8 hG8 hg8))
        go_wp2
        go_roundw
        case rel => exact ⟨j + 1, bs8, by omega, by go_num, by rw [HS.out, lastI_snoc], by rw [HS.out, HFIN.out]; exact HT8.out, HN8.out, Z8.setCell (by simp; omega) _⟩
        case measure => simp [intOf]; omega
      case pos =>
        have HK := Lib.hid (decide_eq_true hk1)
        have hlk : xs.getLast?.map (ptK us m) = some (ptK us m j) := by rw [hl]; simp only [Option.map_some]; rw [hq1, hq2, hk1]
        obtain ⟨vb, hvb⟩ : ∃ v, v = gi us[b].point m := ⟨_, rfl⟩
        obtain ⟨vj, hvj⟩ : ∃ v, v = gi us[j].point m := ⟨_, rfl⟩
        rw [← hvb] at hcq
        rw [← hvj] at hcp
        have hiff := take_succ_gi (a := us[b].point) (b := us[j].point) (m := m) (by omega) (by omega) hk1
        by_cases hv : vb = vj
        case neg =>
          have hvq : (vb == vj) = false := ieq_f hv
          have hlk2 : xs.getLast?.map (ptK us (m + 1)) ≠ some (ptK us (m + 1) j) := by rw [hl]; simp only [Option.map_some]; rw [hr1, hr2]; exact fun e => hv (by rw [hvb, hvj]; exact hiff.1 (Option.some.inj e))
          obtain ⟨Gs, gl, e1, e2⟩ := grps_mid hT1 hT2 hlk hlk2
          have hgm : gl ∈ groups2 (ptK us m) (ptK us (m + 1)) xs := by rw [e1]; simp
          have hgn : Gs.length + 1 ≤ xs.length := by have := groups2_len (k1 := ptK us m) (k2 := ptK us (m + 1)) (xs := xs); rw [e1] at this; simpa using this
          have hgo := (groups2_mem hgm).1
          obtain ⟨l0, hl0r⟩ : ∃ x : List Int, x = [] := ⟨[], rfl⟩
          have hl0 := Lib.hid hl0r
          obtain ⟨GL, hGL⟩ : ∃ GL, GL = toI3 Gs := ⟨_, rfl⟩
          obtain ⟨x0, hx0⟩ : ∃ x, x = gl.map toI := ⟨_, rfl⟩
          rw [e1, toI3_snoc, ← hGL, ← hx0] at HG
          have HFIN := Lib.hid (show toI3 (groups2 (ptK us m) (ptK us (m + 1)) (xs ++ [j])) = GL ++ [x0 ++ [l0 ++ [(j : Int)]]] by rw [e2, toI3_snoc, List.map_append, ← hGL, ← hx0, hl0.out]; rfl)
          have HGL := Lib.hid (show GL.length ≤ 120 by rw [hGL, toI3_len]; omega)
          have HXL := Lib.hid (show x0.length ≤ 120 by rw [hx0, List.length_map]; omega)
          have HLL := Lib.hid (show l0.length ≤ 120 by rw [hl0r]; simp)
          have hgl := HGL.out
          have hxl0 := HXL.out
          have HWX := Lib.hid (show IntKind.i64.wrap (x0.length : Int) = (x0.length : Int) from IntWalk.i64_in _ (by omega))
          have hX0 : (0 ≤ (x0.length : Int)) = True := eq_true (by omega)
          have hX1 : ((x0.length : Int) < (x0.length : Int) + 1) = True := eq_true (by omega)
          clear e1 e2 hgm hGL hx0 hl0r hT1 hT2 hl hk1 hq1 hq2 hr1 hr2 hlk hlk2 hv hiff hvb hvj hgn hgo
          go_wp2_with fail
          rw [← HW.out]
          refine wp_region_noPanic ?_
          refine wp_region_held_drew (S := fun w' => (Box5 w' g (.slice A1 p.arrays.length c1) (.slice A2 p.parts.length c2) (.slice (some ⟨be, oe, none⟩) us.length c3) (.slice A4 (usesF p).length c4) (.slice A5 (usesF p).length c5)) ∧ w'.cell? ⟨be, oe + b * 3 + 2, none⟩ = some (.slice (some ⟨bq, oq, none⟩) L c3f) ∧ w'.cell? ⟨wr.heap.size, 2, none⟩ = some (.slice (some ⟨bp, op, none⟩) L c3e)) (by kernel_rfl) (⟨XW, kbW, xb2⟩) (fun hHeld => ?_)
          refine goR 0 hHeld ?_
          refine goR 1 hHeld ?_
          refine goR 2 hHeld ?_
          refine goG 3 hHeld ?_
          refine goG 4 hHeld ?_
          refine goG 5 hHeld ?_
          refine goG 6 hHeld ?_
          refine goG 7 hHeld ?_
          refine takeG (i := 8) (v := ?_) rfl (by kernel_rfl) (by kernel_rfl) (by kernel_rfl) (by kernel_rfl) (fun _ _ _ h => h) ?_ hHeld ?_
          rotate_left 1
          · intro w hSw; (try dsimp only at hSw); go_simp
            try simp only [HWB.out, hB0, hB1, HWM.out, hM0, hM2, hM3, and_self, if_true, Int.toNat_natCast]
            try with_reducible rfl
          simp only [Act.put, aq0, aq1, aq2]
          refine goG 9 hHeld ?_
          refine goG 10 hHeld ?_
          refine goG 11 hHeld ?_
          refine takeG (i := 12) (v := ?_) rfl (by kernel_rfl) (by kernel_rfl) (by kernel_rfl) (by kernel_rfl) (fun _ _ _ h => h) ?_ hHeld ?_
          rotate_left 1
          · intro w hSw; (try dsimp only at hSw); go_simp
            try simp only [HWB.out, hB0, hB1, HWM.out, hM0, hM2, hM3, and_self, if_true, Int.toNat_natCast]
            try with_reducible rfl
          simp only [Act.put, aq0, aq1, aq2]
          refine goG 13 hHeld ?_
          refine goG 14 hHeld ?_
          refine goG 15 hHeld ?_
          refine takeG (i := 16) (v := ?_) rfl (by kernel_rfl) (by kernel_rfl) (by kernel_rfl) (by kernel_rfl) (fun _ _ _ h => h) ?_ hHeld ?_
          rotate_left 1
          · intro w hSw; (try dsimp only at hSw); go_simp
            try simp only [HWB.out, hB0, hB1, HWM.out, hM0, hM2, hM3, and_self, if_true, Int.toNat_natCast]
            try with_reducible rfl
          simp only [Act.put, aq0, aq1, aq2]
          refine stepR (i := 17) rfl (by kernel_rfl) (by kernel_rfl) (fun K hK => ?_)
          go_simp
          (refine (drewB (Equal_int_c ((HF1.out.below BW).drewN 1) ((HE1.out.below BW).drewN 1))).mono ?_; rintro e w4 ⟨he, b2⟩; rw [HK.out] at he; subst he; have a2 := of_drew b2)
          go_wp2_with fail
          refine hK.out _ _ (⟨hHeld.1.to b2, cell_toC hHeld.2.1 b2, cell_toC hHeld.2.2 b2⟩) (fun hHeld => ?_)
          clear hK K
          try simp only [Act.put, aq0, aq1, aq2]
          refine goR 18 hHeld ?_
          refine goR 19 hHeld ?_
          refine wpAnyH_done (by kernel_rfl) ?_ _
          refine NoPanic.normal ?_
          clear b2
          have T2w : Below wr.heap.size wr w4 := below_tr BW a2
          have Z4 : Below w.heap.size w w4 := below_tr hb T2w
          have HG4 := Lib.hid ((T2_fr _).below HG.out T2w)
          have HN4 := Lib.hid HND.out
          have cq4 := (T2w.cell (p := ⟨bq, oq + m, none⟩) hlq).trans hcq
          have cp4 := (T2w.cell (p := ⟨bp, op + m, none⟩) hlp).trans hcp
          go_wp2_with fail
          refine wp_region_noPanic ?_
          refine wp_region_held_drew (S := fun w' => (Box5 w' g (.slice A1 p.arrays.length c1) (.slice A2 p.parts.length c2) (.slice (some ⟨be, oe, none⟩) us.length c3) (.slice A4 (usesF p).length c4) (.slice A5 (usesF p).length c5)) ∧ w'.cell? ⟨be, oe + b * 3 + 2, none⟩ = some (.slice (some ⟨bq, oq, none⟩) L c3f) ∧ w'.cell? ⟨wr.heap.size, 2, none⟩ = some (.slice (some ⟨bp, op, none⟩) L c3e) ∧ w'.cell? ⟨bq, oq + m, none⟩ = some (.int .i64 vb) ∧ w'.cell? ⟨bp, op + m, none⟩ = some (.int .i64 vj)) (by kernel_rfl) (⟨hHeld.1, hHeld.2.1, hHeld.2.2, cq4, cp4⟩) (fun hHeld => ?_)
          refine goR 0 hHeld ?_
          refine goR 1 hHeld ?_
          refine goG 2 hHeld ?_
          refine goG 3 hHeld ?_
          refine goG 4 hHeld ?_
          refine goG 5 hHeld ?_
          refine goG 6 hHeld ?_
          refine takeG (i := 7) (v := ?_) rfl (by kernel_rfl) (by kernel_rfl) (by kernel_rfl) (by kernel_rfl) (fun _ _ _ h => h) ?_ hHeld ?_
          rotate_left 1
          · intro w hSw; (try dsimp only at hSw); go_simp
            try simp only [HWB.out, hB0, hB1, HWM.out, hM0, hM1, and_self, if_true, Int.toNat_natCast, hvq]
            try with_reducible rfl
          simp only [Act.put, aq0, aq1, aq2]
          refine goG 8 hHeld ?_
          refine goG 9 hHeld ?_
          refine goG 10 hHeld ?_
          refine takeG (i := 11) (v := ?_) rfl (by kernel_rfl) (by kernel_rfl) (by kernel_rfl) (by kernel_rfl) (fun _ _ _ h => h) ?_ hHeld ?_
          rotate_left 1
          · intro w hSw; (try dsimp only at hSw); go_simp
            try simp only [HWB.out, hB0, hB1, HWM.out, hM0, hM1, and_self, if_true, Int.toNat_natCast, hvq]
            try with_reducible rfl
          simp only [Act.put, aq0, aq1, aq2]
          refine goG 12 hHeld ?_
          refine goG 13 hHeld ?_
          refine goG 14 hHeld ?_
          refine goG 15 hHeld ?_
          refine takeG (i := 16) (v := ?_) rfl (by kernel_rfl) (by kernel_rfl) (by kernel_rfl) (by kernel_rfl) (fun _ _ _ h => h) ?_ hHeld ?_
          rotate_left 1
          · intro w hSw; (try dsimp only at hSw); go_simp
            try simp only [HWB.out, hB0, hB1, HWM.out, hM0, hM1, and_self, if_true, Int.toNat_natCast, hvq]
            try with_reducible rfl
          simp only [Act.put, aq0, aq1, aq2]
          refine goG 17 hHeld ?_
          refine takeG (i := 18) (v := ?_) rfl (by kernel_rfl) (by kernel_rfl) (by kernel_rfl) (by kernel_rfl) (fun _ _ _ h => h) ?_ hHeld ?_
          rotate_left 1
          · intro w hSw; (try dsimp only at hSw); go_simp
            try simp only [HWB.out, hB0, hB1, HWM.out, hM0, hM1, and_self, if_true, Int.toNat_natCast, hvq]
            try with_reducible rfl
          simp only [Act.put, aq0, aq1, aq2]
          refine goR 19 hHeld ?_
          refine goR 20 hHeld ?_
          refine wpAnyH_done (by kernel_rfl) ?_ _
          refine NoPanic.normal ?_
          obtain ⟨g5, cg5, A5, ca5, b5, hv5, hc5, hf5, hB5, hl5, hG5, hn5, hno5, hbk5⟩ := LL.mid (xs := GL) (x := x0) (LI.frames _ _) HG4.out HN4.out
          subst hv5
          have HBK := Lib.hid hbk5; clear hbk5
          have HG5 := Lib.hid hG5; clear hG5
          have HN5 := Lib.hid hn5; clear hn5
          go_wp2_with (
            at_builtin
            (
              refine wpList_append_LL (u := .slice none 0 0) (d := l0) rfl (LI.frames _ _) (.tmp 83) (.tmp 84) _ rfl _ Tryz.underlying91 Tryz.infoInts rfl rfl (Frames.below (T1_fr _) HG5.out ?hbw) HN5.out rfl (by go_simp) rfl (fun W => by rw [hl0.out]; exact LI.nil W _ _) ?hlen ?hba ?_
              case hbw => exact bel
              case hlen => have := HXL.out; omega
              case hba => simp; have := Z4.size; omega
              intro v6 w6 cb6 he6 hG6 hn6 hg6
              have he := hg6.heap_eq (w0 := w4) bel
              obtain ⟨hc6, hf6⟩ := hg6.cellH (w0 := w4) bel hl5 hno5 GL.length
              rw [hc5] at hc6
              rw [hf5] at hf6
              obtain ⟨A6, c6, hv6⟩ := hG6.form
              rw [List.length_append, List.length_singleton] at hv6
              subst hv6
              obtain ⟨bs6, hT6, hN6⟩ := HBK.out _ _ _ _ he6 he.1 hG6 hn6 he.2
              have Z6 : Below w.heap.size w w6 := (by
                refine Below.trans ?_ (hg6.below ?_ (fun b hb => (LL.own_ge HG5.out b hb).1))
                · exact bel
                · simp; have := Z4.size; omega)
              obtain ⟨g7, cg7, h7, ch7, A7, c7, hv7, hcA, hB7, hl7, hcB, hfB, hB8, hl8, hne7, hL7, hno7, hin7⟩ := LL.inn (Xs := GL) (xs := x0) (x := l0) hT6 hN6
              simp only [Value.slice.injEq, Option.some.injEq, Addr.mk.injEq] at hv7
              obtain ⟨⟨rfl, _⟩, _, rfl⟩ := hv7
              have e7 := set_here hcA hc6
              simp only [Value.slice.injEq] at e7
              obtain ⟨rfl, _, rfl⟩ := e7
              have hcC := set_far hcB hne7
              have hfC := set_farF hfB
              clear hT6 hN6 hG6 hn6 hg6 he he6 hcA))
          go_wp2_with fail
          refine wp_region_noPanic ?_
          refine wp_region_held_drew (S := fun w' => w'.cell? ⟨g5, GL.length, none⟩ = some (.slice (some ⟨h7, 0, none⟩) (x0.length + 1) c6)) (by kernel_rfl) ((by go_simp)) (fun hHeld => ?_)
          refine goR 0 hHeld ?_
          refine goR 1 hHeld ?_
          refine goR 2 hHeld ?_
          refine goR 3 hHeld ?_
          refine goR 4 hHeld ?_
          refine goR 5 hHeld ?_
          refine goR 6 hHeld ?_
          refine goR 7 hHeld ?_
          refine takeR (i := 8) (v := ?_) rfl rfl (by kernel_rfl) (by kernel_rfl) (by kernel_rfl) (fun _ _ _ h => h) ?_ hHeld ?_
          rotate_left 1
          · intro w hSw; (try dsimp only at hSw); go_simp
            try simp only [HWX.out, hX0, hX1, and_self, if_true, Int.toNat_natCast]
            try with_reducible rfl
          simp only [Act.put, aq0, aq1, aq2]
          refine goR 9 hHeld ?_
          refine wpAnyH_done (by kernel_rfl) ?_ _
          refine NoPanic.normal ?_
          have HIN7 := Lib.hid hin7; clear hin7
          have HL7 := Lib.hid hL7; clear hL7
          have hI : I64 (j : Int) := by unfold I64; omega
          go_wp2_with (
            at_builtin
            (
              refine wpList_append_LI (n := (j : Int)) rfl (.tmp 99) (.tmp 101) _ rfl Tryz.underlying39 Tryz.infoInt rfl (Frames.below (LI.frames _ _) HL7.out ?hbw) rfl (by go_simp) hI ?hlen ?hba ?_
              case hbw => exact bel
              case hlen => have := HLL.out; omega
              case hba => simp [World.setCell]; have := Z6.size; omega
              intro v8 w8 hG8 hg8
              obtain ⟨hc8, hf8⟩ := hg8.cellH bel hl8 hno7 x0.length
              rw [hcB] at hc8
              rw [hfB] at hf8
              obtain ⟨A8, c8, hv8⟩ := hG8.form
              rw [List.length_append, List.length_singleton] at hv8
              subst hv8
              obtain ⟨bs8, hT8, hN8⟩ := HIN7.out _ _ _ (hg8.heap_eq bel).1 hG8 (hg8.heap_eq bel).2
              have Z8 : Below w.heap.size w w8 := (by
                refine Below.trans ?_ (hg8.below ?_ (fun b hb => (LI.own_ge HL7.out b hb).1))
                · exact bel
                · simp [World.setCell]; have := Z6.size; omega)
              have HT8 := Lib.hid hT8
              have HN8 := Lib.hid hN8
              clear hT8 hN8 hG8 hg8))
          go_wp2
          go_roundw
          case rel => exact ⟨j + 1, bs8, by omega, by go_num, by rw [HS.out, lastI_snoc], by rw [HS.out, HFIN.out]; exact HT8.out, HN8.out, Z8.setCell (by simp; omega) _⟩
          case measure => simp [intOf]; omega
        case pos =>
          have hvq : (vb == vj) = true := ieq_t hv
          have hlk2 : xs.getLast?.map (ptK us (m + 1)) = some (ptK us (m + 1) j) := by rw [hl]; simp only [Option.map_some]; rw [hr1, hr2]; exact congrArg some (hiff.2 (by rw [← hvb, ← hvj]; exact hv))
          obtain ⟨Gs, gs, l, e1, e2⟩ := grps_same hT1 hT2 hlk hlk2
          have hgm : gs ++ [l] ∈ groups2 (ptK us m) (ptK us (m + 1)) xs := by rw [e1]; simp
          have hgn : Gs.length + 1 ≤ xs.length := by have := groups2_len (k1 := ptK us m) (k2 := ptK us (m + 1)) (xs := xs); rw [e1] at this; simpa using this
          have hgo : gs.length + 1 ≤ xs.length := by have := (groups2_mem hgm).1; simpa using this
          have hgp : l.length ≤ xs.length := (groups2_mem hgm).2 l (by simp)
          obtain ⟨GL, hGL⟩ : ∃ GL, GL = toI3 Gs := ⟨_, rfl⟩
          obtain ⟨x0, hx0⟩ : ∃ x, x = gs.map toI := ⟨_, rfl⟩
          obtain ⟨l0, hl0⟩ : ∃ x, x = toI l := ⟨_, rfl⟩
          rw [e1, toI3_snoc, List.map_append, List.map_singleton, ← hGL, ← hx0, ← hl0] at HG
          have HFIN := Lib.hid (show toI3 (groups2 (ptK us m) (ptK us (m + 1)) (xs ++ [j])) = GL ++ [x0 ++ [l0 ++ [(j : Int)]]] by rw [e2, toI3_snoc, List.map_append, List.map_singleton, toI_snoc, ← hGL, ← hx0, ← hl0])
          have HGL := Lib.hid (show GL.length ≤ 120 by rw [hGL, toI3_len]; omega)
          have HXL := Lib.hid (show x0.length ≤ 120 by rw [hx0, List.length_map]; omega)
          have HLL := Lib.hid (show l0.length ≤ 120 by rw [hl0]; unfold toI; rw [List.length_map]; omega)
          have hgl := HGL.out
          have hxl0 := HXL.out
          have HWX := Lib.hid (show IntKind.i64.wrap (x0.length : Int) = (x0.length : Int) from IntWalk.i64_in _ (by omega))
          have hX0 : (0 ≤ (x0.length : Int)) = True := eq_true (by omega)
          have hX1 : ((x0.length : Int) < (x0.length : Int) + 1) = True := eq_true (by omega)
          clear e1 e2 hgm hGL hx0 hl0 hT1 hT2 hl hk1 hq1 hq2 hr1 hr2 hlk hlk2 hv hiff hvb hvj hgn hgo hgp
          go_wp2_with fail
          rw [← HW.out]
          refine wp_region_noPanic ?_
          refine wp_region_held_drew (S := fun w' => (Box5 w' g (.slice A1 p.arrays.length c1) (.slice A2 p.parts.length c2) (.slice (some ⟨be, oe, none⟩) us.length c3) (.slice A4 (usesF p).length c4) (.slice A5 (usesF p).length c5)) ∧ w'.cell? ⟨be, oe + b * 3 + 2, none⟩ = some (.slice (some ⟨bq, oq, none⟩) L c3f) ∧ w'.cell? ⟨wr.heap.size, 2, none⟩ = some (.slice (some ⟨bp, op, none⟩) L c3e)) (by kernel_rfl) (⟨XW, kbW, xb2⟩) (fun hHeld => ?_)
          refine goR 0 hHeld ?_
          refine goR 1 hHeld ?_
          refine goR 2 hHeld ?_
          refine goG 3 hHeld ?_
          refine goG 4 hHeld ?_
          refine goG 5 hHeld ?_
          refine goG 6 hHeld ?_
          refine goG 7 hHeld ?_
          refine takeG (i := 8) (v := ?_) rfl (by kernel_rfl) (by kernel_rfl) (by kernel_rfl) (by kernel_rfl) (fun _ _ _ h => h) ?_ hHeld ?_
          rotate_left 1
          · intro w hSw; (try dsimp only at hSw); go_simp
            try simp only [HWB.out, hB0, hB1, HWM.out, hM0, hM2, hM3, and_self, if_true, Int.toNat_natCast]
            try with_reducible rfl
          simp only [Act.put, aq0, aq1, aq2]
          refine goG 9 hHeld ?_
          refine goG 10 hHeld ?_
          refine goG 11 hHeld ?_
          refine takeG (i := 12) (v := ?_) rfl (by kernel_rfl) (by kernel_rfl) (by kernel_rfl) (by kernel_rfl) (fun _ _ _ h => h) ?_ hHeld ?_
          rotate_left 1
          · intro w hSw; (try dsimp only at hSw); go_simp
            try simp only [HWB.out, hB0, hB1, HWM.out, hM0, hM2, hM3, and_self, if_true, Int.toNat_natCast]
            try with_reducible rfl
          simp only [Act.put, aq0, aq1, aq2]
          refine goG 13 hHeld ?_
          refine goG 14 hHeld ?_
          refine goG 15 hHeld ?_
          refine takeG (i := 16) (v := ?_) rfl (by kernel_rfl) (by kernel_rfl) (by kernel_rfl) (by kernel_rfl) (fun _ _ _ h => h) ?_ hHeld ?_
          rotate_left 1
          · intro w hSw; (try dsimp only at hSw); go_simp
            try simp only [HWB.out, hB0, hB1, HWM.out, hM0, hM2, hM3, and_self, if_true, Int.toNat_natCast]
            try with_reducible rfl
          simp only [Act.put, aq0, aq1, aq2]
          refine stepR (i := 17) rfl (by kernel_rfl) (by kernel_rfl) (fun K hK => ?_)
          go_simp
          (refine (drewB (Equal_int_c ((HF1.out.below BW).drewN 1) ((HE1.out.below BW).drewN 1))).mono ?_; rintro e w4 ⟨he, b2⟩; rw [HK.out] at he; subst he; have a2 := of_drew b2)
          go_wp2_with fail
          refine hK.out _ _ (⟨hHeld.1.to b2, cell_toC hHeld.2.1 b2, cell_toC hHeld.2.2 b2⟩) (fun hHeld => ?_)
          clear hK K
          try simp only [Act.put, aq0, aq1, aq2]
          refine goR 18 hHeld ?_
          refine goR 19 hHeld ?_
          refine wpAnyH_done (by kernel_rfl) ?_ _
          refine NoPanic.normal ?_
          clear b2
          have T2w : Below wr.heap.size wr w4 := below_tr BW a2
          have Z4 : Below w.heap.size w w4 := below_tr hb T2w
          have HG4 := Lib.hid ((T2_fr _).below HG.out T2w)
          have HN4 := Lib.hid HND.out
          have cq4 := (T2w.cell (p := ⟨bq, oq + m, none⟩) hlq).trans hcq
          have cp4 := (T2w.cell (p := ⟨bp, op + m, none⟩) hlp).trans hcp
          go_wp2_with fail
          refine wp_region_noPanic ?_
          refine wp_region_held_drew (S := fun w' => (Box5 w' g (.slice A1 p.arrays.length c1) (.slice A2 p.parts.length c2) (.slice (some ⟨be, oe, none⟩) us.length c3) (.slice A4 (usesF p).length c4) (.slice A5 (usesF p).length c5)) ∧ w'.cell? ⟨be, oe + b * 3 + 2, none⟩ = some (.slice (some ⟨bq, oq, none⟩) L c3f) ∧ w'.cell? ⟨wr.heap.size, 2, none⟩ = some (.slice (some ⟨bp, op, none⟩) L c3e) ∧ w'.cell? ⟨bq, oq + m, none⟩ = some (.int .i64 vb) ∧ w'.cell? ⟨bp, op + m, none⟩ = some (.int .i64 vj)) (by kernel_rfl) (⟨hHeld.1, hHeld.2.1, hHeld.2.2, cq4, cp4⟩) (fun hHeld => ?_)
          refine goR 0 hHeld ?_
          refine goR 1 hHeld ?_
          refine goG 2 hHeld ?_
          refine goG 3 hHeld ?_
          refine goG 4 hHeld ?_
          refine goG 5 hHeld ?_
          refine goG 6 hHeld ?_
          refine takeG (i := 7) (v := ?_) rfl (by kernel_rfl) (by kernel_rfl) (by kernel_rfl) (by kernel_rfl) (fun _ _ _ h => h) ?_ hHeld ?_
          rotate_left 1
          · intro w hSw; (try dsimp only at hSw); go_simp
            try simp only [HWB.out, hB0, hB1, HWM.out, hM0, hM1, and_self, if_true, Int.toNat_natCast, hvq]
            try with_reducible rfl
          simp only [Act.put, aq0, aq1, aq2]
          refine goG 8 hHeld ?_
          refine goG 9 hHeld ?_
          refine goG 10 hHeld ?_
          refine takeG (i := 11) (v := ?_) rfl (by kernel_rfl) (by kernel_rfl) (by kernel_rfl) (by kernel_rfl) (fun _ _ _ h => h) ?_ hHeld ?_
          rotate_left 1
          · intro w hSw; (try dsimp only at hSw); go_simp
            try simp only [HWB.out, hB0, hB1, HWM.out, hM0, hM1, and_self, if_true, Int.toNat_natCast, hvq]
            try with_reducible rfl
          simp only [Act.put, aq0, aq1, aq2]
          refine goG 12 hHeld ?_
          refine goG 13 hHeld ?_
          refine goG 14 hHeld ?_
          refine goG 15 hHeld ?_
          refine takeG (i := 16) (v := ?_) rfl (by kernel_rfl) (by kernel_rfl) (by kernel_rfl) (by kernel_rfl) (fun _ _ _ h => h) ?_ hHeld ?_
          rotate_left 1
          · intro w hSw; (try dsimp only at hSw); go_simp
            try simp only [HWB.out, hB0, hB1, HWM.out, hM0, hM1, and_self, if_true, Int.toNat_natCast, hvq]
            try with_reducible rfl
          simp only [Act.put, aq0, aq1, aq2]
          refine goG 17 hHeld ?_
          refine takeG (i := 18) (v := ?_) rfl (by kernel_rfl) (by kernel_rfl) (by kernel_rfl) (by kernel_rfl) (fun _ _ _ h => h) ?_ hHeld ?_
          rotate_left 1
          · intro w hSw; (try dsimp only at hSw); go_simp
            try simp only [HWB.out, hB0, hB1, HWM.out, hM0, hM1, and_self, if_true, Int.toNat_natCast, hvq]
            try with_reducible rfl
          simp only [Act.put, aq0, aq1, aq2]
          refine goR 19 hHeld ?_
          refine goR 20 hHeld ?_
          refine wpAnyH_done (by kernel_rfl) ?_ _
          refine NoPanic.normal ?_
          obtain ⟨g5, cg7, h7, c6, A7, c7, hv7, hcA, hB7, hl7, hcB, hfB, hB8, hl8, hne7, hL7, hno7, hin7⟩ := LL.inn (Xs := GL) (xs := x0) (x := l0) HG4.out HN4.out
          subst hv7
          go_wp2_with fail
          refine wp_region_noPanic ?_
          refine wp_region_held_drew (S := fun w' => w'.cell? ⟨g5, GL.length, none⟩ = some (.slice (some ⟨h7, 0, none⟩) (x0.length + 1) c6)) (by kernel_rfl) (hcA) (fun hHeld => ?_)
          refine goR 0 hHeld ?_
          refine goR 1 hHeld ?_
          refine goR 2 hHeld ?_
          refine goR 3 hHeld ?_
          refine goR 4 hHeld ?_
          refine goR 5 hHeld ?_
          refine goR 6 hHeld ?_
          refine goR 7 hHeld ?_
          refine takeR (i := 8) (v := ?_) rfl rfl (by kernel_rfl) (by kernel_rfl) (by kernel_rfl) (fun _ _ _ h => h) ?_ hHeld ?_
          rotate_left 1
          · intro w hSw; (try dsimp only at hSw); go_simp
            try simp only [HWX.out, hX0, hX1, and_self, if_true, Int.toNat_natCast]
            try with_reducible rfl
          simp only [Act.put, aq0, aq1, aq2]
          refine goR 9 hHeld ?_
          refine wpAnyH_done (by kernel_rfl) ?_ _
          refine NoPanic.normal ?_
          have HIN7 := Lib.hid hin7; clear hin7
          have HL7 := Lib.hid hL7; clear hL7
          have hI : I64 (j : Int) := by unfold I64; omega
          go_wp2_with (
            at_builtin
            (
              refine wpList_append_LI (n := (j : Int)) rfl (.tmp 99) (.tmp 101) _ rfl Tryz.underlying39 Tryz.infoInt rfl (Frames.below (LI.frames _ _) HL7.out ?hbw) rfl (by go_simp) hI ?hlen ?hba ?_
              case hbw => exact bel
              case hlen => have := HLL.out; omega
              case hba => simp [World.setCell]; have := Z4.size; omega
              intro v8 w8 hG8 hg8
              obtain ⟨hc8, hf8⟩ := hg8.cellH bel hl8 hno7 x0.length
              rw [hcB] at hc8
              rw [hfB] at hf8
              obtain ⟨A8, c8, hv8⟩ := hG8.form
              rw [List.length_append, List.length_singleton] at hv8
              subst hv8
              obtain ⟨bs8, hT8, hN8⟩ := HIN7.out _ _ _ (hg8.heap_eq bel).1 hG8 (hg8.heap_eq bel).2
              have Z8 : Below w.heap.size w w8 := (by
                refine Below.trans ?_ (hg8.below ?_ (fun b hb => (LI.own_ge HL7.out b hb).1))
                · exact bel
                · simp [World.setCell]; have := Z4.size; omega)
              have HT8 := Lib.hid hT8
              have HN8 := Lib.hid hN8
              clear hT8 hN8 hG8 hg8))
          go_wp2
          go_roundw
          case rel => exact ⟨j + 1, bs8, by omega, by go_num, by rw [HS.out, lastI_snoc], by rw [HS.out, HFIN.out]; exact HT8.out, HN8.out, Z8.setCell (by simp; omega) _⟩
          case measure => simp [intOf]; omega
end Go.Proofs.YtgogjbnneoadkaaGreat
