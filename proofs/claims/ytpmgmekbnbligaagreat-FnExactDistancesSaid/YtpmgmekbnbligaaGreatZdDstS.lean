/- Distances of the reference: l6Minus, l6Add. -/
import Derived.Test.YtpmgmekbnbligaaGreatZdTri
import Derived.Test.YtpmgmekbnbligaaGreatZdDstF
import Derived.Test.YtpmgmekbnbligaaGreatZdSame
import Derived.Test.YtpmgmekbnbligaaGreatZdDeps1
import Derived.Test.YtpmgmekbnbligaaGreatZdInstsS
set_option linter.all false
set_option linter.unusedSimpArgs false
set_option linter.unusedVariables false
namespace Go.Proofs.YtpmgmekbnbligaaGreat
open Go.ChangeShapes Go.WideShapes Go.ChangeAt Go.RowKit Go.Deep

theorem minus_fit {xs ys : List Int} {i : Nat} (h : ∀ i, (-1000000 ≤ gi xs i ∧ gi xs i ≤ 1000000) ∧ (-1000000 ≤ gi ys i ∧ gi ys i ≤ 1000000)) : I64 (gi xs i - gi ys i) := by
  have := h i
  unfold I64; omega
set_option maxRecDepth 100000 in
set_option maxHeartbeats 2000000 in
theorem l6Minus_c {w : World} {xs ys : List Int} {A A' : Option Addr} {n c n' c' : Nat} {bs bs' : List Nat} (h : Rep w (ints xs) [.slice A n c] bs) (h' : Rep w (ints ys) [.slice A' n' c'] bs') (hl : xs.length ≤ ys.length) (hn : xs.length ≤ 1000000) (hf : ∀ i, (-1000000 ≤ gi xs i ∧ gi xs i ≤ 1000000) ∧ (-1000000 ≤ gi ys i ∧ gi ys i ≤ 1000000)) :
    Calls Tryz.prog 56 #[.slice A n c, .slice A' n' c'] w (MadeInts w (minusL xs ys)) := by
  obtain ⟨rfl, _, _⟩ := h.ints_len
  obtain ⟨rfl, h3, h4⟩ := h'.ints_len
  have hm : ys.length ≤ 9223372036854775807 := Nat.le_trans h3 h4
  have HX := Lib.hid h
  have HY := Lib.hid h'
  have HF := Lib.hid hf
  clear h h' hf h3 h4
  have HG0 := Lib.hid (Grow.made w (B := w.heap.size) 3 1 (Nat.le_refl _))
  go_enter Tryz.func56, Tryz.ntmps56
  go_wp2
  go_loopw [5, 6] (fun u i wr => ∃ j : Nat, j ≤ xs.length ∧ i = .int .i64 j ∧ Grow wr w.heap.size 3 1 u (((List.range j).map fun i => gi xs i - gi ys i).map D.int) ∧ Below w.heap.size w wr) (fun _ i _ => xs.length - (intOf i).toNat)
  case atStart => exact ⟨0, Nat.zero_le _, rfl, HG0.out, bel⟩
  case round =>
    obtain ⟨j, hj, rfl, hG, hb⟩ := hrel
    have HG := Lib.hid hG
    obtain ⟨Au, cu, hfu, _, _⟩ := hG.form
    rw [List.length_map, List.length_map, List.length_range] at hfu
    clear hG HG0
    by_cases hlt : j < xs.length
    · obtain ⟨b, o, rfl, _, hbl, hcx, _⟩ := HX.out.ints_at hlt
      obtain ⟨b', o', rfl, _, hbl', hcy, _⟩ := HY.out.ints_at (show j < ys.length by omega)
      have hfx := HF.out j
      have hI := Lib.hid (minus_fit (i := j) HF.out)
      have HS := Lib.hid (minusL_succ xs ys j)
      obtain ⟨x, hx⟩ : ∃ x, x = gi xs j := ⟨_, rfl⟩
      obtain ⟨y, hy⟩ : ∃ y, y = gi ys j := ⟨_, rfl⟩
      rw [← hx] at hcx hfx hI HS
      rw [← hy] at hcy hfx hI HS
      have hbz := hb.size
      have hcx2 := (hb.cell (p := ⟨b, o + j, none⟩) hbl).trans hcx
      have hcy2 := (hb.cell (p := ⟨b', o' + j, none⟩) hbl').trans hcy
      have hbr : b < wr.heap.size := by omega
      have hbr' : b' < wr.heap.size := by omega
      have HCC := Lib.hid (And.intro hcx hcy)
      have hw : IntKind.i64.wrap (x - y) = x - y := by rw [IntKind.wrap_i64]; omega
      have hj2 : (j : Int) < (ys.length : Int) := by omega
      clear hx hy hcx hcy
      subst hfu
      go_wp2_with fail
      refine wp_region_noPanic ?_
      refine wp_region_held_drew (S := fun w' => w'.cell? ⟨b, o + j, none⟩ = some (.int .i64 x) ∧ w'.cell? ⟨b', o' + j, none⟩ = some (.int .i64 y)) (by kernel_rfl) (⟨hcx2, hcy2⟩) (fun hHeld => ?_)
      refine goR 0 hHeld ?_
      refine goR 1 hHeld ?_
      refine goR 2 hHeld ?_
      refine goR 3 hHeld ?_
      refine goR 4 hHeld ?_
      refine goR 5 hHeld ?_
      refine goR 6 hHeld ?_
      refine goR 7 hHeld ?_
      refine goR 8 hHeld ?_
      refine takeR (i := 9) (v := ?_) rfl rfl (by kernel_rfl) (by kernel_rfl) (by kernel_rfl) (fun _ _ _ h => h) ?_ hHeld ?_
      rotate_left 1
      · intro w hSw; (try dsimp only at hSw); go_simp
        try simp only [hw]
        try with_reducible rfl
      simp only [Act.put, aq0, aq1, aq2]
      refine stepR (i := 10) rfl (by kernel_rfl) (wanted_none rfl) (fun K hK => ?_)
      (unfold Oper.wp; go_simp)
      refine hK.out _ _ (⟨(World.cell?_alloc_lt _ _ _ hbr).trans hHeld.1, (World.cell?_alloc_lt _ _ _ hbr').trans hHeld.2⟩) (fun hHeld => ?_)
      clear hK K
      try simp only [Act.put, aq0, aq1, aq2]
      refine stepR (i := 11) rfl (by kernel_rfl) (wanted_none rfl) (fun K hK => ?_)
      (refine wp_append_more (w0 := wr) (B := w.heap.size) (ys := [D.int (x - y)]) (.tmp 14) (.tmp 24) _ rfl _ Tryz.underlying27 Tryz.infoInt rfl (by decide) rfl HG.out ?hbw rfl (Rep.drewN (one_newN (w := wr) (d := .int (x - y)) (cells := [.int .i64 (x - y)]) (N := wr.heap.size) ⟨rfl, rfl, hI.out⟩ 3 rfl) 1) ?hys ?hn ?hf ?hlen hbz ?_; (case hbw => exact bel); (case hys => (intro y hy; simp only [List.mem_singleton] at hy; rw [hy]; rfl)); (case hn => simp); (case hf => simp); (case hlen => (simp; omega)); intro v4 w4 hG4 hg4; have S4 : Below w.heap.size w w4 := Below.trans (show Below w.heap.size w _ from hb.drew.alloc hb.size _) (hg4.below (Nat.le_trans hbz (by simp)) (fun b hb => (HG.out.own_ge b hb).1)); have HG4 := Lib.hid hG4; clear hG4 hg4)
      refine hK.out _ _ (⟨(S4.cell (p := ⟨b, o + j, none⟩) hbl).trans HCC.out.1, (S4.cell (p := ⟨b', o' + j, none⟩) hbl').trans HCC.out.2⟩) (fun hHeld => ?_)
      clear hK K
      try simp only [Act.put, aq0, aq1, aq2]
      refine goR 12 hHeld ?_
      refine wpAnyH_done (by kernel_rfl) ?_ _
      refine NoPanic.normal ?_
      have HG5 := Lib.hid (show Grow w4 w.heap.size 3 1 v4 (((List.range (j + 1)).map fun i => gi xs i - gi ys i).map D.int) by rw [HS.out, List.map_append]; exact HG4.out)
      go_wp2
      go_roundw
      case rel => exact ⟨j + 1, by omega, by go_num, HG5.out, S4⟩
      case measure => simp [intOf]; omega
    · have hjj : j = xs.length := by omega
      subst hjj
      subst hfu
      go_wp2
      go_ret
      obtain ⟨A, c, bs, he, h1, h2, h3, _⟩ := HG.out.ints
      exact ⟨A, _, c, bs, congrArg Ending.returned he, h1, h2, h3, hb⟩
/-- the reference's step on the elements -/
def putT (d : Tri) : List Tri → List Tri
  | [] => [d]
  | t :: T => if cmpL d.x t.x < 0 then d :: t :: T else t :: putT d T
def dnT (d : Tri) (T : List Tri) : Bool := T.any fun t => decide (cmpL d.x t.x < 0)
def outT (d : Tri) (T : List Tri) : List Tri := if dnT d T = true then putT d T else T
theorem putT_x (d : Tri) : ∀ T : List Tri, (putT d T).map Tri.x = putL d.x (T.map Tri.x)
  | [] => rfl
  | t :: T => by
    unfold putT
    rw [List.map_cons, putL]
    split
    · rfl
    · rw [List.map_cons, putT_x d T]
theorem putT_dn {d : Tri} : ∀ {T : List Tri}, dnT d T = true → ∀ t, putT d (T ++ [t]) = putT d T ++ [t]
  | [], h, _ => by simp [dnT] at h
  | u :: T, h, t => by
    rw [List.cons_append, putT, putT]
    by_cases k : cmpL d.x u.x < 0
    · rw [if_pos k, if_pos k]; rfl
    · rw [if_neg k, if_neg k]
      have h2 : dnT d T = true := by
        unfold dnT at h ⊢
        rw [List.any_cons, decide_eq_false k, Bool.false_or] at h
        exact h
      rw [putT_dn h2]; rfl
theorem putT_no {d : Tri} : ∀ {T : List Tri}, dnT d T = false → putT d T = T ++ [d]
  | [], _ => rfl
  | u :: T, h => by
    unfold dnT at h
    rw [List.any_cons, Bool.or_eq_false_iff] at h
    rw [putT, if_neg (of_decide_eq_false h.1), putT_no (T := T) h.2]; rfl
theorem putT_now {d t : Tri} : ∀ {T : List Tri}, dnT d T = false → cmpL d.x t.x < 0 → putT d (T ++ [t]) = T ++ [d, t]
  | [], _, k => by simp [putT, k]
  | u :: T, h, k => by
    unfold dnT at h
    rw [List.any_cons, Bool.or_eq_false_iff] at h
    rw [List.cons_append, putT, if_neg (of_decide_eq_false h.1), putT_now (T := T) h.2 k]; rfl
theorem dnT_snoc (d : Tri) (T : List Tri) (t : Tri) : dnT d (T ++ [t]) = (dnT d T || decide (cmpL d.x t.x < 0)) := by unfold dnT; rw [List.any_append]; simp
theorem outT_dn {d : Tri} {T : List Tri} (h : dnT d T = true) (t : Tri) : outT d (T ++ [t]) = outT d T ++ [t] := by
  unfold outT
  rw [dnT_snoc, h, Bool.true_or, if_pos rfl, if_pos rfl, putT_dn h]
theorem outT_now {d t : Tri} {T : List Tri} (h : dnT d T = false) (k : cmpL d.x t.x < 0) : outT d (T ++ [t]) = (outT d T ++ [d]) ++ [t] := by
  unfold outT
  rw [dnT_snoc, h, Bool.false_or, decide_eq_true k, if_pos rfl, if_neg (by simp), putT_now h k]; simp
theorem outT_not {d t : Tri} {T : List Tri} (h : dnT d T = false) (k : ¬ cmpL d.x t.x < 0) : outT d (T ++ [t]) = outT d T ++ [t] := by
  unfold outT
  rw [dnT_snoc, h, Bool.false_or, decide_eq_false k, if_neg (by simp), if_neg (by simp)]
theorem putT_mem {d t : Tri} : ∀ {T : List Tri}, t ∈ putT d T → t = d ∨ t ∈ T
  | [], h => .inl (by simpa [putT] using h)
  | u :: T, h => by
    unfold putT at h
    split at h
    · rcases List.mem_cons.1 h with h | h
      · exact .inl h
      · exact .inr h
    · rcases List.mem_cons.1 h with h | h
      · exact .inr (h ▸ List.mem_cons_self)
      · rcases putT_mem h with h | h
        · exact .inl h
        · exact .inr (List.mem_cons_of_mem _ h)
theorem outT_mem {d t : Tri} {T : List Tri} (h : t ∈ outT d T) : t = d ∨ t ∈ T := by
  unfold outT at h
  split at h
  · exact putT_mem h
  · exact .inr h
/-- a new element's blocks are apart from those of the list so far -/
theorem outT_far {d t : Tri} {T : List Tri} (hT : (TriB (T ++ [t]) ++ d.b).Nodup) : ∀ y ∈ t.b, y ∉ TriB (outT d T) := fun y hy hm => by
  rw [triB_snoc, List.append_assoc] at hT
  obtain ⟨_, h2, h3⟩ := List.nodup_append.1 hT
  obtain ⟨u, hu, hyu⟩ := triB_mem.1 hm
  rcases outT_mem hu with rfl | hu
  · exact (List.nodup_append.1 h2).2.2 y hy y hyu rfl
  · exact h3 y (triB_mem.2 ⟨u, hu, hyu⟩) y (List.mem_append_left _ hy) rfl
theorem outT_farD {d : Tri} {T : List Tri} (h : dnT d T = false) (hT : (TriB T ++ d.b).Nodup) : ∀ y ∈ d.b, y ∉ TriB (outT d T) := fun y hy hm => by
  unfold outT at hm
  rw [h, if_neg (by simp)] at hm
  exact (List.nodup_append.1 hT).2.2 y hm y hy rfl
theorem triB_take_nd {T : List Tri} {B : List Nat} (h : (TriB T ++ B).Nodup) (j : Nat) : (TriB (T.take j) ++ B).Nodup :=
  h.sublist ((by
    have : (TriB (T.take j)).Sublist (TriB T) := by
      conv => rhs; rw [← List.take_append_drop j T]
      unfold TriB; rw [List.flatMap_append]; exact List.sublist_append_left _ _
    exact this.append (List.Sublist.refl _)))
theorem GrowT.some {w : World} {B n c : Nat} {e : TypeId} {A : Option Addr} {T : List Tri} (h : GrowT w B e (.slice A n c) T) (hn : T.length = n) (h0 : 0 < n) : ∃ g, A = some ⟨g, 0, none⟩ ∧ RowV w g e c (T.map Tri.e) ∧ B ≤ g ∧ g < w.heap.size := by
  subst hn
  have ho := h.own
  rcases ho.2 with ⟨h1, _⟩ | ⟨g, cap, cur, hv, h2, h3, _⟩
  · simp only [Value.slice.injEq] at h1; omega
  · simp only [Value.slice.injEq] at hv
    obtain ⟨rfl, _, rfl⟩ := hv
    obtain ⟨hV, hB, _, _⟩ := own_rowV ho
    obtain ⟨rest, hr, hl⟩ := hV
    exact ⟨g, rfl, ⟨rest, hr, hl⟩, hB, hr.lt⟩
theorem putT_len (d : Tri) : ∀ T : List Tri, (putT d T).length = T.length + 1
  | [] => rfl
  | t :: T => by
    unfold putT
    split
    · simp
    · simp [putT_len d T]
theorem outT_len (d : Tri) (T : List Tri) : (outT d T).length ≤ T.length + 1 := by
  unfold outT
  split
  · rw [putT_len]; exact Nat.le_refl _
  · omega
theorem okAs {w : World} {t : Tri} {v : Value} (h : t.ok w) (e : t.e = v) : Rep w (ints t.x) [v] t.b := by
  unfold Tri.ok at h
  rwa [e] at h
end Go.Proofs.YtpmgmekbnbligaaGreat
