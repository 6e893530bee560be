/- Turns: the program's WaveOrder. -/
import Derived.Test.YtgogjbnneoadkaaGreatZwAround
set_option linter.all false
set_option linter.unusedSimpArgs false
set_option linter.unusedVariables false
namespace Go.Proofs.YtgogjbnneoadkaaGreat
open Go.ChangeShapes Go.WideShapes Go.ChangeAt Go.RowKit Go.Deep

theorem turn_map {α β : Type} (f : α → β) (gs : List (List α)) (t : Nat) : turn (gs.map (List.map f)) t = (turn gs t).map f := by
  unfold turn
  rw [List.filterMap_map, List.map_filterMap]
  congr 1
  funext l
  simp
theorem turns_map {α β : Type} (f : α → β) (gs : List (List α)) (T : Nat) : turns (gs.map (List.map f)) T = (turns gs T).map f := by
  induction T with
  | zero => rfl
  | succ T ih => rw [turns_succ, turns_succ, ih, turn_map, List.map_append]
theorem turns_len {α : Type} (gs : List (List α)) : ∀ T, (turns gs T).length ≤ T * gs.length
  | 0 => by simp [turns]
  | T + 1 => by
    rw [turns_succ, List.length_append, Nat.add_mul, Nat.one_mul]
    exact Nat.add_le_add (turns_len gs T) (turn_len gs T)
theorem flat_range {α β : Type} (xs : List α) (d : α) (f : α → List β) : (List.range xs.length).flatMap (fun j => f (xs.getD j d)) = xs.flatMap f := by
  conv => rhs; rw [← range_getD xs d]
  rw [List.flatMap_map]
theorem turn_take_no {g : List (List Int)} {j T : Nat} (h : j < g.length) (hT : ¬ T < g[j].length) : turn (g.take (j + 1)) T = turn (g.take j) T := by
  rw [turn_snoc h, List.getElem?_eq_none (by omega)]; simp
theorem turn_take_yes {g : List (List Int)} {j T : Nat} (h : j < g.length) (hT : T < g[j].length) : turn (g.take (j + 1)) T = turn (g.take j) T ++ [gi g[j] T] := by
  rw [turn_snoc h, List.getElem?_eq_getElem hT, gi_eq hT]; rfl
/-- some list has a t-th element -/
def moreB (g : List (List Int)) (T : Nat) : Bool := g.any fun l => decide (T < l.length)
theorem moreB_no {g : List (List Int)} {j T : Nat} (h : j < g.length) (hT : ¬ T < g[j].length) : moreB (g.take (j + 1)) T = moreB (g.take j) T := by
  unfold moreB
  rw [List.take_succ_eq_append_getElem h, List.any_append]; simp [hT]
theorem moreB_yes {g : List (List Int)} {j T : Nat} (h : j < g.length) (hT : T < g[j].length) : moreB (g.take (j + 1)) T = true := by
  unfold moreB
  rw [List.take_succ_eq_append_getElem h, List.any_append]; simp [hT]
theorem turns_allI {g : List (List Int)} {t : Nat} (h : ∀ l ∈ g, l.length ≤ 120) (h2 : ∀ l ∈ g, l.length ≤ t) : turns g 120 = turns g t := by
  rcases Nat.le_total t 120 with h3 | h3
  · rw [show 120 = t + (120 - t) by omega]; exact turns_more h2 _
  · rw [show t = 120 + (t - 120) by omega]; exact (turns_more h _).symm
theorem wave1_e : Enters Tryz.prog 69 := fun args W => by go_simp
set_option maxRecDepth 100000 in
set_option maxHeartbeats 4000000 in
theorem wave1_c {w : World} {g : List (List Int)} {A : Option Addr} {n c : Nat} {bs : List Nat} (h : Rep w (sls ints g) [.slice A n c] bs) (hg : g.length ≤ 120) (hl : ∀ l ∈ g, l.length ≤ 120) :
    Calls Tryz.prog 69 #[.slice A n c] w (MadeInts w (turns g 120)) := by
  obtain ⟨rfl, _, _⟩ := h.sls_len
  have HR := Lib.hid h; clear h
  have HL := Lib.hid hl; clear hl
  go_enter Tryz.func69, Tryz.ntmps69
  go_wp2
  go_loopw [3, 4, 5] (fun u t m wr => ∃ (T : Nat) (b : Bool), t = .int .i64 T ∧ m = .bool b ∧ Grow wr w.heap.size 3 1 u ((turns g T).map D.int) ∧ Below w.heap.size w wr ∧ T ≤ 121 ∧ (b = false → ∀ l ∈ g, l.length ≤ T) ∧ (b = true → T ≤ 120)) (fun _ t _ _ => 122 - (intOf t).toNat)
  case atStart => exact ⟨0, true, rfl, rfl, Grow.nil _ _ _ _, Below.refl _ _, by omega, fun h => (by cases h), fun _ => (by omega)⟩
  case round =>
    obtain ⟨T, b, rfl, rfl, hG, hb, hT, hno, hyes⟩ := hrel
    have HG := Lib.hid hG; clear hG
    cases b with
    | false =>
      have HE := Lib.hid (turns_allI HL.out (hno rfl))
      clear hno hyes
      obtain ⟨A6, c6, bs6, he, h1, h2, h3, _⟩ := HG.out.ints
      have HH := Lib.hid h1; clear h1
      go_wp2
      go_ret
      rw [HE.out]
      exact ⟨A6, _, c6, bs6, congrArg Ending.returned he, HH.out, h2, h3, hb⟩
    | true =>
      have hT2 := hyes rfl
      clear hno hyes
      have htl := turns_len g T
      have htl2 : T * g.length ≤ 120 * 120 := Nat.mul_le_mul hT2 hg
      obtain ⟨wo, rfl⟩ : ∃ wo : World, wo = wr := ⟨_, rfl⟩
      go_wp2
      go_loopw [3, 5, 13] (fun u m i wv => ∃ j : Nat, j ≤ g.length ∧ i = .int .i64 j ∧ m = .bool (moreB (g.take j) T) ∧ Grow wv w.heap.size 3 1 u ((turns g T ++ turn (g.take j) T).map D.int) ∧ Below w.heap.size w wv) (fun _ _ i _ => g.length - (intOf i).toNat)
      case atStart => exact ⟨0, Nat.zero_le _, rfl, by simp [moreB], by simpa [turn] using HG.out, hb⟩
      case round =>
        clear HG hb
        obtain ⟨j, hj, rfl, rfl, hG, hb⟩ := hrel
        have HG := Lib.hid hG; clear hG
        by_cases hlt : j < g.length
        case neg =>
          have hjj : j = g.length := by omega
          subst hjj
          rw [List.take_length]
          have HG2 := Lib.hid (show Grow wr w.heap.size 3 1 u3 ((turns g (T + 1)).map D.int) by have := HG.out; rw [List.take_length] at this; rw [turns_succ]; exact this)
          obtain ⟨bb, hbb⟩ : ∃ bb, bb = moreB g T := ⟨_, rfl⟩
          have HBB := Lib.hid hbb
          rw [← hbb]
          clear hbb HG
          go_wp2
          go_roundw
          case rel =>
            refine ⟨T + 1, bb, by go_num, rfl, HG2.out, hb, by omega, fun h l hl => ?_, fun h => ?_⟩
            · rw [HBB.out] at h
              unfold moreB at h
              have := List.any_eq_false.1 h l hl
              simp at this; omega
            · rw [HBB.out] at h
              unfold moreB at h
              obtain ⟨l, hl, h2⟩ := List.any_eq_true.1 h
              have := HL.out l hl
              simp at h2; omega
          case measure => simp [intOf]; omega
        have htn := turn_len (g.take j) T
        rw [List.length_take] at htn
        obtain ⟨bt, ot, cst, lst, hAt, hblt, hrt, _, hlst, hct⟩ := (HR.out.below hb).sls_at (s := 1) (fun _ => rfl) (k := j) hlt
        subst hAt
        obtain ⟨At, ct, hcst⟩ := hrt.ints_form1
        subst hcst
        have kt := (hct 0 _ rfl).1; rw [Nat.add_zero, Nat.mul_one] at kt
        have hlj := HL.out _ (List.getElem_mem hlt)
        by_cases hTl : T < g[j].length
        case neg =>
          have HT1 := Lib.hid (turn_take_no hlt hTl)
          have HT2 := Lib.hid (moreB_no hlt hTl)
          obtain ⟨bb, hbb⟩ : ∃ bb, bb = moreB (g.take j) T := ⟨_, rfl⟩
          have HBB := Lib.hid hbb
          rw [← hbb]
          clear hbb hct hrt hlst
          obtain ⟨l, hle⟩ : ∃ l, l = g[j] := ⟨_, rfl⟩
          rw [← hle] at kt hTl hlj
          clear hle
          go_wp2
          go_roundw
          case rel => exact ⟨j + 1, by omega, by go_num, by rw [HT2.out, HBB.out], by rw [HT1.out]; exact HG.out, hb⟩
          case measure => simp [intOf]; omega
        have HT1 := Lib.hid (turn_take_yes hlt hTl)
        have HT2 := Lib.hid (moreB_yes hlt hTl)
        obtain ⟨bl, ol, hAl, _, hll, hcl, _⟩ := hrt.ints_at (k := T) hTl
        subst hAl
        have hfit := hrt.gi_fit T
        have hI := Lib.hid hfit
        obtain ⟨v, hv⟩ : ∃ v, v = gi g[j] T := ⟨_, rfl⟩
        rw [← hv] at hcl hI HT1
        obtain ⟨l, hle⟩ : ∃ l, l = g[j] := ⟨_, rfl⟩
        rw [← hle] at kt hTl hlj
        obtain ⟨bb, hbb⟩ : ∃ bb, bb = moreB (g.take j) T := ⟨_, rfl⟩
        rw [← hbb]
        clear hbb hct hrt hlst hfit hv hle
        obtain ⟨xs, hxs⟩ : ∃ xs, xs = turns g T ++ turn (g.take j) T := ⟨_, rfl⟩
        have hxl : xs.length ≤ 100000 := by rw [hxs, List.length_append]; omega
        have HXS := Lib.hid (show turns g T ++ turn (g.take (j + 1)) T = xs ++ [v] by rw [HT1.out, hxs, List.append_assoc])
        rw [← hxs] at HG
        clear hxs
        obtain ⟨Au, cu, hfu, _, _⟩ := HG.out.form
        subst hfu
        have hbz := hb.size
        go_wp2_with (
          at_builtin
          (
          refine wpList_append_more (w0 := wr) (B := w.heap.size) (xs := xs.map D.int) (ys := [D.int v]) rfl (.tmp 21) (.tmp 26) _ rfl _ Tryz.underlying39 Tryz.infoInt rfl (by decide) rfl HG.out ?hbw rfl (one_newN (N := wr.heap.size) (show Rep _ (D.int v) [.int .i64 v] [] from ⟨rfl, rfl, hI.out⟩) _ (by simp [World.setCell])) ?hys ?hn ?hf ?hlen ?hba ?_
          case hbw => exact bel
          case hys => intro y hy; simp only [List.mem_singleton] at hy; rw [hy]; rfl
          case hn => simp
          case hf => simp
          case hlen => simp; omega
          case hba => exact hbz
          intro v4 w4 hG4 hg4))
        have HG4 := Lib.hid (show Grow w4 w.heap.size 3 1 v4 ((turns g T ++ turn (g.take (j + 1)) T).map D.int) by rw [HXS.out, List.map_append]; exact hG4)
        have S4 : Below w.heap.size w w4 := Below.trans bel (hg4.below (by simp; omega) (fun b hb => (HG.out.own_ge b hb).1))
        clear hG4 hg4
        go_wp2
        go_roundw
        case rel => exact ⟨j + 1, by omega, by go_num, by rw [HT2.out], HG4.out, S4⟩
        case measure => simp [intOf]; omega
theorem toI_append (a b : List Nat) : toI (a ++ b) = toI a ++ toI b := by unfold toI; rw [List.map_append]
theorem toI_flat {α : Type} (f : α → List Nat) (xs : List α) : toI (xs.flatMap f) = xs.flatMap fun x => toI (f x) := by unfold toI; rw [List.map_flatMap]
theorem wave_ord (p : Pgm) (k m : Int) : ordF p k m (fun j => turns ((toI3 (grpsF (instsF p) k.toNat m.toNat)).getD j []) 120) = WaveOrderF p k m := by
  unfold ordF WaveOrderF aroundF
  split
  · congr 1
    rw [toI_append, toI_append, toI_flat, ← toI3_len, flat_range (toI3 _) [] (fun g => turns g 120)]
    congr 2
    unfold toI3
    rw [List.flatMap_map]
    congr 1
    funext g
    exact turns_map _ g 120
  · rfl
theorem toI3_ok {G : List (List (List Nat))} (h : GrpsOk G) : (toI3 G).length ≤ 120 ∧ ∀ j (hj : j < (toI3 G).length), (toI3 G)[j].length ≤ 120 ∧ ∀ l ∈ (toI3 G)[j], l.length ≤ 120 := by
  refine ⟨by rw [toI3_len]; exact h.len.2, fun j hj => ?_⟩
  have hj2 : j < G.length := by rwa [toI3_len] at hj
  have e : (toI3 G)[j] = G[j].map toI := by simp [toI3]
  have h1 := h.grp (List.getElem_mem hj2)
  rw [e]
  refine ⟨by rw [List.length_map]; exact h1.2.1, fun l hl => ?_⟩
  obtain ⟨l0, hl0, rfl⟩ := List.mem_map.1 hl
  rw [toI_len]; exact h1.2.2 l0 hl0
theorem loop_there {p : Pgm} {k m : Int} (h : loopThere p k m) : ∃ (q r : Nat) (hq : q < p.parts.length), k = (q : Int) ∧ m = (r : Int) ∧ r < p.parts[q].nest.length := by
  obtain ⟨⟨h1, h2⟩, h3, h4⟩ := h
  obtain ⟨q, rfl⟩ := Int.eq_ofNat_of_zero_le h1
  obtain ⟨r, rfl⟩ := Int.eq_ofNat_of_zero_le h3
  have hq : q < p.parts.length := by omega
  have e1 : (p.parts.getD (q : Int).toNat ⟨[], []⟩).nest.length = p.parts[q].nest.length := by simp [List.getD_eq_getElem?_getD, hq]
  rw [e1] at h4
  exact ⟨q, r, hq, rfl, rfl, by omega⟩
theorem turns_cons_len {α : Type} (l : List α) (gs : List (List α)) : ∀ T, (turns (l :: gs) T).length = min T l.length + (turns gs T).length
  | 0 => by simp [turns]
  | T + 1 => by
    rw [turns_succ, turns_succ, List.length_append, List.length_append, turns_cons_len l gs T]
    have : (turn (l :: gs) T).length = (if T < l.length then 1 else 0) + (turn gs T).length := by
      unfold turn
      by_cases h : T < l.length
      · rw [List.filterMap_cons_some (by rw [List.getElem?_eq_getElem h]), if_pos h, List.length_cons]; omega
      · rw [List.filterMap_cons_none (by rw [List.getElem?_eq_none (by omega)]), if_neg h]; omega
    rw [this]
    split <;> omega
theorem turns_flat_len {α : Type} : ∀ (gs : List (List α)) (T : Nat), (turns gs T).length ≤ gs.flatten.length
  | [], T => by
    have := turns_len ([] : List (List α)) T
    simpa using this
  | l :: gs, T => by
    rw [turns_cons_len, List.flatten_cons, List.length_append]
    have := turns_flat_len gs T
    omega
theorem flat_grp {F : Nat → List Int} {G : List (List (List Nat))} (hG : GrpsOk G) (h : ∀ i (hi : i < G.length), (F i).length ≤ G[i].flatten.length) (j : Nat) (hj : j ≤ G.length) : ((List.range j).flatMap F).length ≤ 120 := by
  have key : ∀ j, j ≤ G.length → ((List.range j).flatMap F).length ≤ (G.take j).flatten.flatten.length := fun j => by
    induction j with
    | zero => simp
    | succ j ih =>
      intro hj
      rw [List.range_succ, List.flatMap_append, List.length_append, List.take_succ_eq_append_getElem (by omega), List.flatten_append, List.flatten_append, List.length_append]
      have h1 := ih (by omega)
      have h2 := h j (by omega)
      simp only [List.flatMap_cons, List.flatMap_nil, List.append_nil, List.flatten_cons, List.flatten_nil]
      omega
  have h1 := (flat_sub (flat_sub (List.take_sublist j G))).length_le
  exact Nat.le_trans (key j hj) (Nat.le_trans h1 hG.n)
theorem toI3_get {G : List (List (List Nat))} {j : Nat} (h : j < G.length) : (toI3 G).getD j [] = G[j].map toI := by
  rw [List.getD_eq_getElem?_getD, List.getElem?_eq_getElem (by rw [toI3_len]; exact h)]
  simp [toI3]
theorem mapI_flat (g : List (List Nat)) : (g.map toI).flatten.length = g.flatten.length := by
  induction g with
  | nil => rfl
  | cons l g ih => rw [List.map_cons, List.flatten_cons, List.flatten_cons, List.length_append, List.length_append, ih, toI_len]
theorem ordF_len {p : Pgm} {k m : Int} {F : Nat → List Int} (h : ∀ j, progOk p = true → loopThere p k m → j ≤ (grpsF (instsF p) k.toNat m.toNat).length → ((List.range j).flatMap F).length ≤ 120) : (ordF p k m F).1.length ≤ 1000000 := by
  unfold ordF
  split
  · rename_i hh
    have h1 := h _ hh.1 hh.2 (Nat.le_refl _)
    have h2 := progOk_insts hh.1
    have h3 := ixTo_len (instsF p) (fun a => decide (a.part < (k.toNat : Int))) (instsF p).length
    have h4 := ixTo_len (instsF p) (fun a => decide ((k.toNat : Int) < a.part)) (instsF p).length
    rw [ixTo_all] at h3 h4
    simp only [List.length_append, toI_len]
    unfold befF aftF
    omega
  · simp
theorem wave_flat {p : Pgm} {k m : Int} (hv : progOk p = true) (hl : loopThere p k m) (j : Nat) (hj : j ≤ (grpsF (instsF p) k.toNat m.toNat).length) : ((List.range j).flatMap fun j => turns ((toI3 (grpsF (instsF p) k.toNat m.toNat)).getD j []) 120).length ≤ 120 := by
  obtain ⟨q, r, hq, rfl, rfl, hr⟩ := loop_there hl
  rw [Int.toNat_natCast, Int.toNat_natCast] at hj ⊢
  refine flat_grp (grpsF_ok hv hq r) (fun i hi => ?_) j hj
  show (turns ((toI3 (grpsF (instsF p) q r)).getD i []) 120).length ≤ _
  rw [toI3_get hi, ← mapI_flat]
  exact turns_flat_len _ _
theorem WaveOrderF_len (p : Pgm) (k m : Int) : (WaveOrderF p k m).1.length ≤ 1000000 := by
  rw [← wave_ord]
  exact ordF_len fun j hv hl hj => wave_flat hv hl j hj
theorem implWaveOrder_c {w : World} {p : Pgm} {cs : List Value} {bs : List Nat} {k m : Int} (h : Rep w p.d cs bs) :
    Calls Tryz.prog 26 #[.agg cs.toArray, .int .i64 k, .int .i64 m] w (MadeIB w (WaveOrderF p k m)) := by
  have HP := Lib.hid h
  obtain ⟨A1, c1, A2, c2, d1, d2, rfl, rfl, g1, g2⟩ := Rep.pgm_iff.1 h
  have Garrays := Lib.hid g1
  have Gparts := Lib.hid g2
  clear h g1 g2
  go_enter Tryz.func26, Tryz.ntmps26
  go_wp2_with fail
  refine (around_c (I := fun _ _ => True) (N := []) (cap := #[]) (F := fun j => turns ((toI3 (grpsF (instsF p) k.toNat m.toNat)).getD j []) 120) (HP.out.below bel) wave1_e trivial (fun _ _ _ _ _ _ _ => trivial) (by simp) (fun hv hl => ?_) (fun j hv hl hj => ?_)).mono ?_
  · obtain ⟨q, r, hq, rfl, rfl, hr⟩ := loop_there hl
    have hok := toI3_ok (grpsF_ok hv hq r)
    intro j hj W A c bs _ _ hr _
    refine (wave1_c hr (hok.2 j hj).1 (hok.2 j hj).2).mono ?_
    rintro e w' ⟨A', n', c', bs', rfl, h1, _, _, h2⟩
    refine ⟨⟨A', n', c', bs', rfl, ?_⟩, Touch.of_below h2, trivial⟩
    show Rep w' (ints (turns ((toI3 (grpsF (instsF p) (q : Int).toNat (r : Int).toNat)).getD j []) 120)) [.slice A' n' c'] bs'
    have e : (toI3 (grpsF (instsF p) (q : Int).toNat (r : Int).toNat)).getD j [] = (toI3 (grpsF (instsF p) (q : Int).toNat (r : Int).toNat))[j] := by rw [List.getD_eq_getElem?_getD, List.getElem?_eq_getElem hj]; rfl
    rw [e]
    exact h1
  · exact Nat.le_trans (wave_flat hv hl j hj) (by omega)
  · rw [wave_ord]
    rintro e w1 ⟨⟨A1', n', c', bs', rfl, h1, h2, h3⟩, h4⟩
    have b1 : Below w.heap.size w w1 := below_tr bel (h4.below (Nat.le_refl _) (by simp))
    have R1 := Lib.hid h1; clear h1
    go_wp2
    go_ret2
    exact ⟨A1', n', c', bs', rfl, R1.out, h2, fun y hy => by have := h3 y hy; simp at this; omega, b1⟩
end Go.Proofs.YtgogjbnneoadkaaGreat
