/- BoxNest of both sides. -/
import Derived.Test.YtadmmlflngkpiaaGrow
import Derived.Test.YtadmmlflngkpiaaTyLoop
import Derived.Test.YtadmmlflngkpiaaVar
import Derived.Test.YtadmmlflngkpiaaValid
import Derived.Test.YtadmmlflngkpiaaRegionT
set_option linter.all false
set_option linter.unusedSimpArgs false
set_option linter.unusedVariables false
namespace Go.Proofs.Ytadmmlflngkpiaa
open Go.ChangeShapes Go.WideShapes Go.ChangeAt Go.RowKit Go.Deep

def boxBad (x : Int) : Bool := !inB x 0 99
def boxLp (x : Int) : Lp := ⟨[affConst 0], [affConst x]⟩
def BoxNestF (xs : List Int) : List Lp × Bool := if decide (xs.length ≤ 4) && !xs.any boxBad then (xs.map boxLp, true) else ([], false)
theorem BoxNestF_1 {xs : List Int} (h : ¬ xs.length ≤ 4) : BoxNestF xs = ([], false) := by simp [BoxNestF, h]
theorem BoxNestF_2 {xs : List Int} (h : xs.any boxBad = true) : BoxNestF xs = ([], false) := by simp only [BoxNestF, h, Bool.not_true, Bool.and_false]; rfl
theorem BoxNestF_3 {xs : List Int} (h : xs.length ≤ 4) (h2 : xs.any boxBad = false) : BoxNestF xs = (xs.map boxLp, true) := by simp only [BoxNestF, h, h2, decide_true, Bool.not_false, Bool.and_true]; rfl
theorem BoxNestF_len (xs : List Int) : cntL Lp.cntE (BoxNestF xs).1 ≤ 1000000 := by
  by_cases h : xs.length ≤ 4
  · cases h2 : xs.any boxBad with
    | true => rw [BoxNestF_2 h2]; simp [cntL]
    | false =>
      rw [BoxNestF_3 h h2]
      have : ∀ ys : List Int, cntL Lp.cntE (ys.map boxLp) = 10 * ys.length := fun ys => by
        induction ys with
        | nil => rfl
        | cons y ys ih => simp only [List.map_cons, cntL, ih, List.length_cons]; simp [boxLp, Lp.cntE, cntL, affConst, Aff.cntE]; omega
      show cntL Lp.cntE (xs.map boxLp) ≤ 1000000
      rw [this]; omega
  · rw [BoxNestF_1 h]; simp [cntL]
theorem boxTake {xs : List Int} {j : Nat} (h : j < xs.length) : ((xs.take (j + 1)).map boxLp).map Lp.d = ((xs.take j).map boxLp).map Lp.d ++ [(boxLp xs[j]).d] := by
  rw [List.take_succ_eq_append_getElem h, List.map_append, List.map_append]; rfl
theorem anyBox_drop (xs : List Int) (j : Nat) (h : j < xs.length) : (xs.drop j).any boxBad = (boxBad xs[j] || (xs.drop (j + 1)).any boxBad) := by
  rw [← List.getElem_cons_drop h, List.any_cons]
theorem boxBad_lo {x : Int} (h : x < 0) : boxBad x = true := by simp [boxBad, inB, show ¬ 0 ≤ x by omega]
theorem boxBad_hi {x : Int} (h : 99 < x) : boxBad x = true := by simp [boxBad, inB, show ¬ x ≤ 99 by omega]
theorem boxBad_ok {x : Int} (h : ¬ x < 0) (h2 : ¬ 99 < x) : boxBad x = false := by simp [boxBad, inB, show 0 ≤ x by omega, show x ≤ 99 by omega]

/-- the call answers a new nest and a truth value -/
def MadeLoopsB (w : World) (r : List Lp × Bool) (e : Ending) (w' : World) : Prop :=
  ∃ A n c bs, e = .returned (.tuple #[.slice A n c, .bool r.2]) ∧ Rep w' (sls Lp.d r.1) [.slice A n c] bs ∧ bs.Nodup ∧ (∀ b ∈ bs, w.heap.size ≤ b) ∧ Below w.heap.size w w'
theorem MadeLoopsB.of_grow {w w' : World} {e : TypeId} {v : Value} {r : List Lp × Bool} (h : Grow w' w.heap.size e 2 v (r.1.map Lp.d)) (hb : Below w.heap.size w w') : MadeLoopsB w r (.returned (.tuple #[v, .bool r.2])) w' := by
  obtain ⟨A, c, bs, rfl, h1, h2, h3⟩ := h.rep
  rw [List.length_map] at h1 ⊢
  exact ⟨A, _, c, bs, rfl, h1, h2, h3, hb⟩

section
variable {w : World} {xs : List Int} {A : Option Addr} {n c : Nat} {bs : List Nat}

theorem new_cellsN (w : World) (l : List Value) (t : TypeId) {N : Nat} (hN : w.heap.size = N) : ∀ j u, l[j]? = some u → (w.alloc (.cells l.toArray t)).cell? ⟨N, j, none⟩ = some u := by subst hN; exact new_cells w l t
/-- the cells of a box loop: two slices of one constant each -/
theorem boxLp_rep {W : World} {x : Int} {g1 g2 : Nat} {b1 b2 : List Nat} (h1 : Rep W (.sl [(affConst 0).d]) [.slice (some ⟨g1, 0, none⟩) 1 1] b1) (h2 : Rep W (.sl [(affConst x).d]) [.slice (some ⟨g2, 0, none⟩) 1 1] b2) :
    Rep W (boxLp x).d [.slice (some ⟨g1, 0, none⟩) 1 1, .slice (some ⟨g2, 0, none⟩) 1 1] (b1 ++ b2) :=
  Rep.lp_iff.2 ⟨_, _, _, _, _, _, rfl, rfl, h1, h2⟩

theorem cell_toL {w w' : World} {g o : Nat} {u : Value} (h : w.cell? ⟨g, o, none⟩ = some u) (hb : Below w.heap.size w w') : w'.cell? ⟨g, o, none⟩ = some u := by rw [hb.cell (lt_of_cell h)]; exact h
theorem cell_alL {w : World} {p : Addr} {v : Value} {o : Obj} (h : w.cell? p = some v) : (w.alloc o).cell? p = some v := (World.cell?_alloc_some _ _ _ (by rw [h]; rfl)).trans h
theorem one_newL {w : World} {d : D} {cells : List Value} {b : List Nat} {N : Nat} (h : Rep w d cells b) (t : TypeId) (hN : w.heap.size = N) : Rep (w.alloc (.cells cells.toArray t)) (.sl [d]) [.slice (some ⟨N, 0, none⟩) 1 1] (N :: b) := by
  subst hN; exact one_new w h t
theorem bl_gen {W a b g1 g2 : Nat} {bs1 bs2 : List Nat} (n1 : bs1.Nodup) (n2 : bs2.Nodup) (h1 : ∀ y ∈ bs1, W ≤ y) (l1 : ∀ y ∈ bs1, y < a) (h2 : ∀ y ∈ bs2, a ≤ y) (l2 : ∀ y ∈ bs2, y < b) (ha : W ≤ a) (hab : a ≤ b) (e1 : b ≤ g1) (e2 : b ≤ g2) (e3 : g1 ≠ g2) : (g1 :: bs1 ++ g2 :: bs2).Nodup ∧ ∀ y ∈ g1 :: bs1 ++ g2 :: bs2, W ≤ y := by
  refine ⟨List.nodup_append.2 ⟨List.nodup_cons.2 ⟨fun hm => by have := l1 _ hm; omega, n1⟩, List.nodup_cons.2 ⟨fun hm => by have := l2 _ hm; omega, n2⟩, fun y hy z hz e => ?_⟩, fun y hy => ?_⟩
  · subst e
    rcases List.mem_cons.1 hy with rfl | hy <;> rcases List.mem_cons.1 hz with rfl | hz
    · exact e3 rfl
    · have := l2 _ hz; omega
    · have := l1 _ hy; omega
    · have := l1 _ hy; have := h2 _ hz; omega
  · rcases List.mem_append.1 hy with hy | hy
    · rcases List.mem_cons.1 hy with rfl | hy
      · omega
      · exact h1 y hy
    · rcases List.mem_cons.1 hy with rfl | hy
      · omega
      · have := h2 y hy; omega
theorem box_blocks {W N1 N2 : Nat} {bs1 bs2 : List Nat} (h1 : bs1.Nodup ∧ (∀ y ∈ bs1, W ≤ y) ∧ ∀ y ∈ bs1, y < N1) (h2 : bs2.Nodup ∧ (∀ y ∈ bs2, N1 + 1 ≤ y) ∧ ∀ y ∈ bs2, y < N2) (z1 : W ≤ N1) (z2 : N1 + 1 ≤ N2) : (N1 :: bs1 ++ N2 :: bs2).Nodup ∧ ∀ y ∈ N1 :: bs1 ++ N2 :: bs2, W ≤ y := by
  obtain ⟨m1, m2, m3⟩ := h1
  obtain ⟨m4, m5, m6⟩ := h2
  refine ⟨List.nodup_append.2 ⟨List.nodup_cons.2 ⟨fun hm => by have := m3 _ hm; omega, m1⟩, List.nodup_cons.2 ⟨fun hm => by have := m6 _ hm; omega, m4⟩, fun y hy z hz e => ?_⟩, fun y hy => ?_⟩
  · subst e
    have a1 : y ≤ N1 := by
      rcases List.mem_cons.1 hy with rfl | hy
      · exact Nat.le_refl _
      · exact Nat.le_of_lt (m3 y hy)
    rcases List.mem_cons.1 hz with rfl | hz
    · omega
    · have := m5 y hz; omega
  · rcases List.mem_append.1 hy with hy | hy
    · rcases List.mem_cons.1 hy with rfl | hy
      · omega
      · have := m2 y hy; omega
    · rcases List.mem_cons.1 hy with rfl | hy
      · omega
      · have := m5 y hy; omega

theorem BoxNest1_c (x : Int) (W : World) : Calls Try.prog 36 (#[.int .i64 x] ++ #[]) W fun e w' => e = .returned (.bool (boxBad x)) ∧ W = w' := by
  show Calls Try.prog 36 #[.int .i64 x] W _
  go_enter Try.func36, Try.ntmps36
  go_wp2_with fail
  refine (within_c _ _ _ _).mono ?_
  rintro e w' ⟨rfl, rfl⟩
  go_wp2
  go_ret
  exact ⟨rfl, rfl⟩
theorem BoxNest1_e : Enters Try.prog 36 := fun args W => by go_simp

set_option maxRecDepth 100000 in
set_option maxHeartbeats 4000000 in
theorem implBoxNest_c (h : Rep w (ints xs) [.slice A n c] bs) :
    Calls Try.prog 9 #[.slice A n c] w (MadeLoopsB w (BoxNestF xs)) := by
  obtain ⟨rfl, h2, h3⟩ := h.ints_len
  have hn : xs.length ≤ 9223372036854775807 := Nat.le_trans h2 h3
  clear h2 h3
  have H := Lib.hid h; clear h
  by_cases hl : xs.length ≤ 4
  case neg =>
    have HX := Lib.hid (BoxNestF_1 hl)
    go_enter Try.func9, Try.ntmps9
    go_wp2
    go_ret2
    rw [HX.out]
    exact MadeLoopsB.of_grow (e := 0) (r := ([], false)) (Grow.nil _ _ _ _) (Below.refl _ _)
  case pos =>
  cases hv : xs.any boxBad with
  | true =>
    have HX := Lib.hid (BoxNestF_2 hv)
    have HV := Lib.hid hv; clear hv
    go_enter Try.func9, Try.ntmps9
    go_wp2_with fail
    refine (ContainsFunc_int_c H.out BoxNest1_e fun x W _ => BoxNest1_c x W).mono ?_
    rintro e w' ⟨rfl, rfl⟩
    rw [HV.out]
    go_wp2
    go_ret2
    rw [HX.out]
    exact MadeLoopsB.of_grow (e := 0) (r := ([], false)) (Grow.nil _ _ _ _) (Below.refl _ _)
  | false =>
    have HX := Lib.hid (BoxNestF_3 hl hv)
    have HV := Lib.hid hv; clear hv
    rw [HX.out]
    go_enter Try.func9, Try.ntmps9
    go_wp2_with fail
    refine (ContainsFunc_int_c H.out BoxNest1_e fun x W _ => BoxNest1_c x W).mono ?_
    rintro e w' ⟨rfl, rfl⟩
    rw [HV.out]
    go_wp2
    go_loopw [4, 16] (fun v i wr => ∃ j : Nat, j ≤ xs.length ∧ i = .int .i64 j ∧ Grow wr w.heap.size 71 2 v (((xs.take j).map boxLp).map Lp.d) ∧ Below w.heap.size w wr) (fun _ i _ => xs.length - (intOf i).toNat)
    case atStart => exact ⟨0, Nat.zero_le _, rfl, Grow.nil _ _ _ _, Below.refl _ _⟩
    case round =>
      obtain ⟨j, hj, rfl, hG, hb⟩ := hrel
      have HG := Lib.hid hG; clear hG
      by_cases hlt : j < xs.length
      · have HT := Lib.hid (boxTake hlt)
        have hfit := Lib.hid (H.out.ints_fit _ (List.getElem_mem hlt))
        obtain ⟨b, o, rfl, _, hbl, hc, _⟩ := (H.out.below hb).ints_at hlt
        rw [gi_eq hlt] at hc
        go_wp2_with fail
        refine (constant_c 0 i64z _).mono ?_
        rintro e w1 ⟨A1, n1, c1, k1, bs1, rfl, r1, nd1, hb1, b1⟩
        have Z1 := Lib.hid (show wr.heap.size ≤ w1.heap.size from b1.size)
        have R1 := Lib.hid (one_new w1 r1 47)
        have M1 := Lib.hid (And.intro nd1 (And.intro (show ∀ y ∈ bs1, wr.heap.size ≤ y from hb1) (Rep.lt _ r1)))
        have S1 : Below wr.heap.size wr w1 := b1
        clear r1 nd1 hb1 b1
        go_wp2_with fail
        refine (constant_c xs[j] hfit.out _).mono ?_
        rintro e w2 ⟨A2, n2, c2, k2, bs2, rfl, r2, nd2, hb2, b2⟩
        have Z2 := Lib.hid (show w1.heap.size + 1 ≤ w2.heap.size by have := b2.size; simpa using this)
        have R2 := Lib.hid (one_new w2 r2 47)
        have R1' := Lib.hid (Rep.below (R1.out.below b2) (w' := w2.alloc (.cells [.slice A2 n2 c2, .int .i64 k2].toArray 47)) ((Below.refl _ _).alloc (Nat.le_refl _) _))
        have M2 := Lib.hid (And.intro nd2 (And.intro (show ∀ y ∈ bs2, w1.heap.size + 1 ≤ y from fun y hy => by have := hb2 y hy; simpa using this) (Rep.lt _ r2)))
        have S2 : Below wr.heap.size wr w2 := bel
        clear r2 nd2 hb2 b2 R1 S1
        have hd := Lib.hid (show (w1.heap.size :: bs1 ++ w2.heap.size :: bs2).Nodup ∧ (∀ y ∈ w1.heap.size :: bs1 ++ w2.heap.size :: bs2, wr.heap.size ≤ y) by
          obtain ⟨m1, m2, m3⟩ := M1.out
          obtain ⟨m4, m5, m6⟩ := M2.out
          have z1 := Z1.out
          have z2 := Z2.out
          refine ⟨List.nodup_append.2 ⟨List.nodup_cons.2 ⟨fun hm => by have := m3 _ hm; omega, m1⟩, List.nodup_cons.2 ⟨fun hm => by have := m6 _ hm; omega, m4⟩, fun y hy z hz e => ?_⟩, fun y hy => ?_⟩
          · subst e
            have a1 : y ≤ w1.heap.size := by
              rcases List.mem_cons.1 hy with rfl | hy
              · exact Nat.le_refl _
              · exact Nat.le_of_lt (m3 y hy)
            rcases List.mem_cons.1 hz with rfl | hz
            · omega
            · have := m5 y hz; omega
          · rcases List.mem_append.1 hy with hy | hy
            · rcases List.mem_cons.1 hy with rfl | hy
              · omega
              · have := m2 y hy; omega
            · rcases List.mem_cons.1 hy with rfl | hy
              · omega
              · have := m5 y hy; omega)
        go_wp2_with (
          at_builtin
          refine wpList_append_grow (w0 := wr) rfl (.tmp 20) (.tmp 27) _ rfl _ Try.underlying23 Try.infoLoop rfl (by decide) rfl HG.out ?hbw (d := (boxLp xs[j]).d) (news := [.slice (some ⟨w1.heap.size, 0, none⟩) 1 1, .slice (some ⟨w2.heap.size, 0, none⟩) 1 1]) rfl ?hrep hd.out.1 hd.out.2 (new_cellsN _ [_, _] _ (by simp)) rfl ?hone ?hlen hb.size ?_
          case hbw => exact bel
          case hrep => exact (boxLp_rep R1'.out R2.out).below ((Below.refl _ _).alloc (Nat.le_refl _) _)
          case hone => intro u hu; simp only [List.mem_cons, List.not_mem_nil, or_false] at hu; rcases hu with rfl | rfl <;> rfl
          case hlen => simp only [List.length_map, List.length_take]; omega
          intro v' w4 hG4 hB4)
        rw [← HT.out] at hG4
        have S4 : Below w.heap.size w w4 := Below.trans (below_tr hb (show Below wr.heap.size wr _ from bel)) hB4
        clear HG
        go_wp2
        go_roundw
        case rel => exact ⟨j + 1, by omega, by go_num, hG4, S4⟩
        case measure => simp [intOf]; omega
      · have hjj : j = xs.length := by omega
        subst hjj
        obtain ⟨Av, cv, hv, _, _⟩ := HG.out.form
        have HV2 := Lib.hid hv
        subst hv
        go_wp2
        go_ret2
        have hg := HG.out
        rw [List.take_length] at hg
        have := MadeLoopsB.of_grow (r := (xs.map boxLp, true)) hg hb
        first | exact this | simpa using this

theorem l1Const_c (k : Int) (hk : I64 k) (w : World) : Calls Try.prog 34 #[.int .i64 k] w (MadeAff w (affConst k)) := by
  have HK := Lib.hid hk; clear hk
  go_enter Try.func34, Try.ntmps34
  go_wp2_with fail
  refine (l1Zero_c _).mono ?_
  rintro e w1 ⟨A, n, c, q, bs, rfl, r1, nd, hbs, b1⟩
  obtain ⟨hq, r2, _⟩ := r1.aff
  simp only [affConst] at hq
  subst hq
  obtain ⟨hc1, hf1⟩ := bcell b1
  have hz1 : w.heap.size < w1.heap.size := by have := b1.size; simp at this; omega
  have hbs' : w.heap.size ∉ bs := fun h => by have := hbs _ h; simp at this; omega
  have HR := Lib.hid r2; clear r1 r2
  have hlt := Rep.lt _ HR.out
  go_wp2
  refine bodyPost_ret (v := .agg #[.slice A n c, .int .i64 k]) (by simp [results, Try.results34, go_sem, hc1, hz1]) rfl ⟨_, _, _, _, bs, rfl, Rep.aff_iff.2 ⟨_, _, _, rfl, Rep.keep _ HR.out ?_, HK.out⟩, nd, fun b hb => by have := hbs b hb; simp at this; omega, bel⟩
  repeat (first | with_reducible exact Keeps.refl _ _ | refine Keeps.setCell ?_ hbs' _ | refine Keeps.alloc ?_ (fun y hy => by have := hlt y hy; simp [World.setCell]; omega) _)
set_option maxRecDepth 100000 in
set_option maxHeartbeats 8000000 in
theorem specBoxNest_c (h : Rep w (ints xs) [.slice A n c] bs) :
    Calls Try.prog 7 #[.slice A n c] w (MadeLoopsB w (BoxNestF xs)) := by
  obtain ⟨rfl, h2, h3⟩ := h.ints_len
  have hn : xs.length ≤ 9223372036854775807 := Nat.le_trans h2 h3
  clear h2 h3
  have H := Lib.hid h; clear h
  by_cases hl : xs.length ≤ 4
  case neg =>
    have HX := Lib.hid (BoxNestF_1 hl)
    go_enter Try.func7, Try.ntmps7
    go_wp2
    go_ret2
    rw [HX.out]
    exact MadeLoopsB.of_grow (e := 71) (r := ([], false)) (Grow.made w _ 2 (Nat.le_refl _)) bel
  case pos =>
  have HF := Lib.hid (And.intro (fun h => BoxNestF_2 (xs := xs) h) (fun h => BoxNestF_3 hl h))
  go_enter Try.func7, Try.ntmps7
  go_wp2
  go_loopw [4, 5] (fun v i wr => ∃ j : Nat, j ≤ xs.length ∧ i = .int .i64 j ∧ xs.any boxBad = (xs.drop j).any boxBad ∧ Grow wr w.heap.size 71 2 v (((xs.take j).map boxLp).map Lp.d) ∧ Below w.heap.size w wr) (fun _ i _ => xs.length - (intOf i).toNat)
  case atStart => exact ⟨0, Nat.zero_le _, rfl, rfl, Grow.made w _ 2 (Nat.le_refl _), bel⟩
  case round =>
    obtain ⟨j, hj, rfl, ha, hG, hb⟩ := hrel
    have HG := Lib.hid hG; clear hG
    have HA := Lib.hid ha; clear ha
    by_cases hlt : j < xs.length
    case neg =>
      have hjj : j = xs.length := by omega
      subst hjj
      have HX := Lib.hid (HF.out.2 (by rw [HA.out, List.drop_length]; rfl))
      rw [List.take_length] at HG
      obtain ⟨Av, cv, hv, _, _⟩ := HG.out.form
      subst hv
      go_wp2
      go_ret2
      rw [HX.out]
      exact MadeLoopsB.of_grow (r := (xs.map boxLp, true)) HG.out hb
    have HD := Lib.hid (anyBox_drop xs j hlt)
    have HT := Lib.hid (boxTake hlt)
    have hfit := Lib.hid (H.out.ints_fit _ (List.getElem_mem hlt))
    obtain ⟨b, o, rfl, _, hbl0, hc0, _⟩ := H.out.ints_at hlt
    have hc := cell_toL hc0 hb
    rw [gi_eq hlt] at hc
    have hbl := Nat.lt_of_lt_of_le hbl0 hb.size
    have hhb := hb.size
    obtain ⟨x, hx⟩ : ∃ x, x = xs[j] := ⟨_, rfl⟩
    rw [← hx] at hc HD HT hfit
    clear hx hc0
    by_cases hlo : x < 0
    case pos =>
      have HX := Lib.hid (HF.out.1 (by rw [HA.out, HD.out, boxBad_lo hlo, Bool.true_or]))
      obtain ⟨Av, cv, hv, _, _⟩ := HG.out.form
      subst hv
      go_wp2
      go_ret2
      rw [HX.out]
      exact MadeLoopsB.of_grow (e := 71) (r := ([], false)) (Grow.made _ _ 2 hhb) bel
    by_cases hhi : 99 < x
    case pos =>
      have HX := Lib.hid (HF.out.1 (by rw [HA.out, HD.out, boxBad_hi hhi, Bool.true_or]))
      obtain ⟨Av, cv, hv, _, _⟩ := HG.out.form
      subst hv
      go_wp2
      go_ret2
      rw [HX.out]
      exact MadeLoopsB.of_grow (e := 71) (r := ([], false)) (Grow.made _ _ 2 hhb) bel
    have HA2 := Lib.hid (HA.out.trans (by rw [HD.out, boxBad_ok hlo hhi, Bool.false_or]))
    obtain ⟨Av, cv, hv, _, _⟩ := HG.out.form
    have hvl : (((xs.take j).map boxLp).map Lp.d).length = j := by simp; omega
    rw [hvl] at hv
    subst hv
    clear hvl
    go_wp2_with fail
    refine wp_region_noPanic ?_
    refine wp_regionT (S := fun w' => w'.cell? ⟨b, o + j, none⟩ = some (.int .i64 x)) 7 (by kernel_rfl) ((by go_simp)) (fun hHeld => ?_)
    refine goU 0 (fun _ => hHeld) ?_
    refine goU 3 (fun _ => hHeld) ?_
    refine goU 4 (fun _ => hHeld) ?_
    refine goU 5 (fun _ => hHeld) ?_
    refine goT 6 hHeld ?_
    refine readyT (rs := [1]) (by kernel_rfl) (by simp) (all1 ?_)
    refine opT (i := 1) rfl (wanted_none rfl) (fun K hK => ?_)
    go_simp
    (refine (l1Zero_c _).mono ?_; rintro e w1 ⟨A1, n1, c1, k1, bs1, rfl, r1, nd1, hb1, b1⟩; have B1 : Below wr.heap.size wr w1 := of_drew b1; have R1 := Lib.hid r1; have L1 := Lib.hid (Rep.lt _ r1); have M1 := Lib.hid (And.intro nd1 (show ∀ y ∈ bs1, wr.heap.size ≤ y from hb1)); clear r1 nd1 hb1)
    go_wp2_with fail
    refine hK.out _ _ (cell_toL hHeld b1) (fun hHeld => ?_)
    clear hK K
    try simp only [Act.put, List.setIfInBounds_toArray, List.set_cons_zero, List.set_cons_succ]
    refine readyT (rs := [2, 7]) (by kernel_rfl) (by simp) (all2 ?_ ?_)
    · refine opT (i := 2) rfl (wanted_none rfl) (fun K hK => ?_)
      (unfold Oper.wp; go_simp)
      refine hK.out _ _ (cell_alL hHeld) (fun hHeld => ?_)
      clear hK K
      try simp only [Act.put, List.setIfInBounds_toArray, List.set_cons_zero, List.set_cons_succ]
      refine readyT (rs := [7]) (by kernel_rfl) (by simp) (all1 ?_)
      refine opTT (i := 7) rfl (wanted_none rfl) (by kernel_rfl) (fun K hK => ?_)
      go_simp
      (refine (l1Const_c x hfit.out _).mono ?_; rintro e w2 ⟨A2, n2, c2, k2, bs2, rfl, r2, nd2, hb2, b2⟩; have R2 := Lib.hid r2; have L2 := Lib.hid (Rep.lt _ r2); have M2 := Lib.hid (And.intro nd2 hb2); clear r2 nd2 hb2; have hHeld := cell_toL hHeld b2)
      go_wp2_with fail
      refine hK.out _ _ ?_
      clear hK K
      try simp only [Act.put, List.setIfInBounds_toArray, List.set_cons_zero, List.set_cons_succ]
      refine readyT (rs := [8]) (by kernel_rfl) (by simp) (all1 ?_)
      refine opT (i := 8) rfl (wanted_none rfl) (fun K hK => ?_)
      (unfold Oper.wp; go_simp)
      refine hK.out _ _ (cell_alL hHeld) (fun hHeld => ?_)
      clear hK K
      try simp only [Act.put, List.setIfInBounds_toArray, List.set_cons_zero, List.set_cons_succ]
      refine goU 9 (fun h => absurd h (by decide)) ?_
      refine readyT (rs := [10]) (by kernel_rfl) (by simp) (all1 ?_)
      refine opT (i := 10) rfl (wanted_none rfl) (fun K hK => ?_)
      (unfold Oper.wp; go_simp)
      refine hK.out _ _ (cell_alL hHeld) (fun hHeld => ?_)
      clear hK K
      try simp only [Act.put, List.setIfInBounds_toArray, List.set_cons_zero, List.set_cons_succ]
      refine readyT (rs := [11]) (by kernel_rfl) (by simp) (all1 ?_)
      refine opTT (i := 11) rfl (wanted_none rfl) (by kernel_rfl) (fun K hK => ?_)
      (first | (have O1 := Lib.hid (Rep.below ((one_newL (N := w1.heap.size) R1.out 47 rfl).below b2) (w' := w2.alloc (.cells [.slice A2 n2 c2, .int .i64 k2].toArray 47)) ((Below.refl _ _).alloc (Nat.le_refl _) _)); have O2 := Lib.hid (one_newL (N := w2.heap.size) R2.out 47 rfl); have hd := Lib.hid (box_blocks (And.intro M1.out.1 (And.intro M1.out.2 L1.out)) (And.intro M2.out.1 (And.intro (fun y hy => by have := M2.out.2 y hy; simpa using this) L2.out)) B1.size (by have := b2.size; simpa using this)); refine wp_append_grow (w0 := wr) (.tmp 30) (.tmp 40) _ rfl _ Try.underlying23 Try.infoLoop rfl (by decide) rfl HG.out ?hbw6A (d := (boxLp x).d) (news := [.slice (some ⟨w1.heap.size, 0, none⟩) 1 1, .slice (some ⟨w2.heap.size, 0, none⟩) 1 1]) rfl ?hrep6A hd.out.1 hd.out.2 (new_cellsN _ [_, _] _ (by simp)) rfl ?hone6A ?hlen6A hhb ?_; (case hbw6A => exact bel); (case hrep6A => exact (boxLp_rep O1.out O2.out).below ((Below.refl _ _).alloc (Nat.le_refl _) _)); (case hone6A => (intro u hu; simp only [List.mem_cons, List.not_mem_nil, or_false] at hu; rcases hu with rfl | rfl <;> rfl)); (case hlen6A => (simp only [List.length_map, List.length_take]; omega)); intro v' w4 hG4 hB4; rw [← HT.out] at hG4; have S4 : Below w.heap.size w w4 := Below.trans (below_tr hb (show Below wr.heap.size wr _ from bel)) hB4; have HG4 := Lib.hid hG4) | (have O1 := Lib.hid (Rep.below (one_newL (N := w2.heap.size) (R1.out.below b2) 47 rfl) (w' := (w2.alloc (.cells [.slice A1 n1 c1, .int .i64 k1].toArray 47)).alloc (.cells [.slice A2 n2 c2, .int .i64 k2].toArray 47)) ((Below.refl _ _).alloc (Nat.le_refl _) _)); have O2 := Lib.hid (one_newL (N := w2.heap.size + 1) (Rep.below R2.out (w' := w2.alloc (.cells [.slice A1 n1 c1, .int .i64 k1].toArray 47)) ((Below.refl _ _).alloc (Nat.le_refl _) _)) 47 (by simp)); have hd := Lib.hid (bl_gen (g1 := w2.heap.size) (g2 := (w2.heap.size + 1)) M1.out.1 M2.out.1 M1.out.2 L1.out M2.out.2 L2.out B1.size b2.size (by omega) (by omega) (by omega)); refine wp_append_grow (w0 := wr) (.tmp 30) (.tmp 40) _ rfl _ Try.underlying23 Try.infoLoop rfl (by decide) rfl HG.out ?hbw6B (d := (boxLp x).d) (news := [.slice (some ⟨w2.heap.size, 0, none⟩) 1 1, .slice (some ⟨(w2.heap.size + 1), 0, none⟩) 1 1]) rfl ?hrep6B hd.out.1 hd.out.2 (new_cellsN _ [_, _] _ (by simp)) rfl ?hone6B ?hlen6B hhb ?_; (case hbw6B => exact bel); (case hrep6B => exact (boxLp_rep O1.out O2.out).below ((Below.refl _ _).alloc (Nat.le_refl _) _)); (case hone6B => (intro u hu; simp only [List.mem_cons, List.not_mem_nil, or_false] at hu; rcases hu with rfl | rfl <;> rfl)); (case hlen6B => (simp only [List.length_map, List.length_take]; omega)); intro v' w4 hG4 hB4; rw [← HT.out] at hG4; have S4 : Below w.heap.size w w4 := Below.trans (below_tr hb (show Below wr.heap.size wr _ from bel)) hB4; have HG4 := Lib.hid hG4) | (have O1 := Lib.hid (one_newL (N := w2.heap.size + 1) (Rep.below (R1.out.below b2) (w' := w2.alloc (.cells [.slice A2 n2 c2, .int .i64 k2].toArray 47)) ((Below.refl _ _).alloc (Nat.le_refl _) _)) 47 (by simp)); have O2 := Lib.hid (Rep.below (one_newL (N := w2.heap.size) R2.out 47 rfl) (w' := (w2.alloc (.cells [.slice A2 n2 c2, .int .i64 k2].toArray 47)).alloc (.cells [.slice A1 n1 c1, .int .i64 k1].toArray 47)) ((Below.refl _ _).alloc (Nat.le_refl _) _)); have hd := Lib.hid (bl_gen (g1 := (w2.heap.size + 1)) (g2 := w2.heap.size) M1.out.1 M2.out.1 M1.out.2 L1.out M2.out.2 L2.out B1.size b2.size (by omega) (by omega) (by omega)); refine wp_append_grow (w0 := wr) (.tmp 30) (.tmp 40) _ rfl _ Try.underlying23 Try.infoLoop rfl (by decide) rfl HG.out ?hbw6C (d := (boxLp x).d) (news := [.slice (some ⟨(w2.heap.size + 1), 0, none⟩) 1 1, .slice (some ⟨w2.heap.size, 0, none⟩) 1 1]) rfl ?hrep6C hd.out.1 hd.out.2 (new_cellsN _ [_, _] _ (by simp)) rfl ?hone6C ?hlen6C hhb ?_; (case hbw6C => exact bel); (case hrep6C => exact (boxLp_rep O1.out O2.out).below ((Below.refl _ _).alloc (Nat.le_refl _) _)); (case hone6C => (intro u hu; simp only [List.mem_cons, List.not_mem_nil, or_false] at hu; rcases hu with rfl | rfl <;> rfl)); (case hlen6C => (simp only [List.length_map, List.length_take]; omega)); intro v' w4 hG4 hB4; rw [← HT.out] at hG4; have S4 : Below w.heap.size w w4 := Below.trans (below_tr hb (show Below wr.heap.size wr _ from bel)) hB4; have HG4 := Lib.hid hG4))
      refine hK.out _ _ ?_
      clear hK K
      try simp only [Act.put, List.setIfInBounds_toArray, List.set_cons_zero, List.set_cons_succ]
      refine goU 12 (fun h => absurd h (by decide)) ?_
      refine wpAnyT_done (by kernel_rfl) ?_ _
      refine NoPanic.normal ?_
      (go_wp2; go_roundw; (case rel => exact ⟨j + 1, by omega, by go_num, HA2.out, HG4.out, S4⟩); (case measure => (simp [intOf]; omega)))
    · refine opTT (i := 7) rfl (wanted_none rfl) (by kernel_rfl) (fun K hK => ?_)
      go_simp
      (refine (l1Const_c x hfit.out _).mono ?_; rintro e w2 ⟨A2, n2, c2, k2, bs2, rfl, r2, nd2, hb2, b2⟩; have R2 := Lib.hid r2; have L2 := Lib.hid (Rep.lt _ r2); have M2 := Lib.hid (And.intro nd2 hb2); clear r2 nd2 hb2; have hHeld := cell_toL hHeld b2)
      go_wp2_with fail
      refine hK.out _ _ ?_
      clear hK K
      try simp only [Act.put, List.setIfInBounds_toArray, List.set_cons_zero, List.set_cons_succ]
      refine readyT (rs := [2, 8]) (by kernel_rfl) (by simp) (all2 ?_ ?_)
      · refine opT (i := 2) rfl (wanted_none rfl) (fun K hK => ?_)
        (unfold Oper.wp; go_simp)
        refine hK.out _ _ (cell_alL hHeld) (fun hHeld => ?_)
        clear hK K
        try simp only [Act.put, List.setIfInBounds_toArray, List.set_cons_zero, List.set_cons_succ]
        refine readyT (rs := [8]) (by kernel_rfl) (by simp) (all1 ?_)
        refine opT (i := 8) rfl (wanted_none rfl) (fun K hK => ?_)
        (unfold Oper.wp; go_simp)
        refine hK.out _ _ (cell_alL hHeld) (fun hHeld => ?_)
        clear hK K
        try simp only [Act.put, List.setIfInBounds_toArray, List.set_cons_zero, List.set_cons_succ]
        refine goU 9 (fun h => absurd h (by decide)) ?_
        refine readyT (rs := [10]) (by kernel_rfl) (by simp) (all1 ?_)
        refine opT (i := 10) rfl (wanted_none rfl) (fun K hK => ?_)
        (unfold Oper.wp; go_simp)
        refine hK.out _ _ (cell_alL hHeld) (fun hHeld => ?_)
        clear hK K
        try simp only [Act.put, List.setIfInBounds_toArray, List.set_cons_zero, List.set_cons_succ]
        refine readyT (rs := [11]) (by kernel_rfl) (by simp) (all1 ?_)
        refine opTT (i := 11) rfl (wanted_none rfl) (by kernel_rfl) (fun K hK => ?_)
        (first | (have O1 := Lib.hid (Rep.below ((one_newL (N := w1.heap.size) R1.out 47 rfl).below b2) (w' := w2.alloc (.cells [.slice A2 n2 c2, .int .i64 k2].toArray 47)) ((Below.refl _ _).alloc (Nat.le_refl _) _)); have O2 := Lib.hid (one_newL (N := w2.heap.size) R2.out 47 rfl); have hd := Lib.hid (box_blocks (And.intro M1.out.1 (And.intro M1.out.2 L1.out)) (And.intro M2.out.1 (And.intro (fun y hy => by have := M2.out.2 y hy; simpa using this) L2.out)) B1.size (by have := b2.size; simpa using this)); refine wp_append_grow (w0 := wr) (.tmp 30) (.tmp 40) _ rfl _ Try.underlying23 Try.infoLoop rfl (by decide) rfl HG.out ?hbw11A (d := (boxLp x).d) (news := [.slice (some ⟨w1.heap.size, 0, none⟩) 1 1, .slice (some ⟨w2.heap.size, 0, none⟩) 1 1]) rfl ?hrep11A hd.out.1 hd.out.2 (new_cellsN _ [_, _] _ (by simp)) rfl ?hone11A ?hlen11A hhb ?_; (case hbw11A => exact bel); (case hrep11A => exact (boxLp_rep O1.out O2.out).below ((Below.refl _ _).alloc (Nat.le_refl _) _)); (case hone11A => (intro u hu; simp only [List.mem_cons, List.not_mem_nil, or_false] at hu; rcases hu with rfl | rfl <;> rfl)); (case hlen11A => (simp only [List.length_map, List.length_take]; omega)); intro v' w4 hG4 hB4; rw [← HT.out] at hG4; have S4 : Below w.heap.size w w4 := Below.trans (below_tr hb (show Below wr.heap.size wr _ from bel)) hB4; have HG4 := Lib.hid hG4) | (have O1 := Lib.hid (Rep.below (one_newL (N := w2.heap.size) (R1.out.below b2) 47 rfl) (w' := (w2.alloc (.cells [.slice A1 n1 c1, .int .i64 k1].toArray 47)).alloc (.cells [.slice A2 n2 c2, .int .i64 k2].toArray 47)) ((Below.refl _ _).alloc (Nat.le_refl _) _)); have O2 := Lib.hid (one_newL (N := w2.heap.size + 1) (Rep.below R2.out (w' := w2.alloc (.cells [.slice A1 n1 c1, .int .i64 k1].toArray 47)) ((Below.refl _ _).alloc (Nat.le_refl _) _)) 47 (by simp)); have hd := Lib.hid (bl_gen (g1 := w2.heap.size) (g2 := (w2.heap.size + 1)) M1.out.1 M2.out.1 M1.out.2 L1.out M2.out.2 L2.out B1.size b2.size (by omega) (by omega) (by omega)); refine wp_append_grow (w0 := wr) (.tmp 30) (.tmp 40) _ rfl _ Try.underlying23 Try.infoLoop rfl (by decide) rfl HG.out ?hbw11B (d := (boxLp x).d) (news := [.slice (some ⟨w2.heap.size, 0, none⟩) 1 1, .slice (some ⟨(w2.heap.size + 1), 0, none⟩) 1 1]) rfl ?hrep11B hd.out.1 hd.out.2 (new_cellsN _ [_, _] _ (by simp)) rfl ?hone11B ?hlen11B hhb ?_; (case hbw11B => exact bel); (case hrep11B => exact (boxLp_rep O1.out O2.out).below ((Below.refl _ _).alloc (Nat.le_refl _) _)); (case hone11B => (intro u hu; simp only [List.mem_cons, List.not_mem_nil, or_false] at hu; rcases hu with rfl | rfl <;> rfl)); (case hlen11B => (simp only [List.length_map, List.length_take]; omega)); intro v' w4 hG4 hB4; rw [← HT.out] at hG4; have S4 : Below w.heap.size w w4 := Below.trans (below_tr hb (show Below wr.heap.size wr _ from bel)) hB4; have HG4 := Lib.hid hG4) | (have O1 := Lib.hid (one_newL (N := w2.heap.size + 1) (Rep.below (R1.out.below b2) (w' := w2.alloc (.cells [.slice A2 n2 c2, .int .i64 k2].toArray 47)) ((Below.refl _ _).alloc (Nat.le_refl _) _)) 47 (by simp)); have O2 := Lib.hid (Rep.below (one_newL (N := w2.heap.size) R2.out 47 rfl) (w' := (w2.alloc (.cells [.slice A2 n2 c2, .int .i64 k2].toArray 47)).alloc (.cells [.slice A1 n1 c1, .int .i64 k1].toArray 47)) ((Below.refl _ _).alloc (Nat.le_refl _) _)); have hd := Lib.hid (bl_gen (g1 := (w2.heap.size + 1)) (g2 := w2.heap.size) M1.out.1 M2.out.1 M1.out.2 L1.out M2.out.2 L2.out B1.size b2.size (by omega) (by omega) (by omega)); refine wp_append_grow (w0 := wr) (.tmp 30) (.tmp 40) _ rfl _ Try.underlying23 Try.infoLoop rfl (by decide) rfl HG.out ?hbw11C (d := (boxLp x).d) (news := [.slice (some ⟨(w2.heap.size + 1), 0, none⟩) 1 1, .slice (some ⟨w2.heap.size, 0, none⟩) 1 1]) rfl ?hrep11C hd.out.1 hd.out.2 (new_cellsN _ [_, _] _ (by simp)) rfl ?hone11C ?hlen11C hhb ?_; (case hbw11C => exact bel); (case hrep11C => exact (boxLp_rep O1.out O2.out).below ((Below.refl _ _).alloc (Nat.le_refl _) _)); (case hone11C => (intro u hu; simp only [List.mem_cons, List.not_mem_nil, or_false] at hu; rcases hu with rfl | rfl <;> rfl)); (case hlen11C => (simp only [List.length_map, List.length_take]; omega)); intro v' w4 hG4 hB4; rw [← HT.out] at hG4; have S4 : Below w.heap.size w w4 := Below.trans (below_tr hb (show Below wr.heap.size wr _ from bel)) hB4; have HG4 := Lib.hid hG4))
        refine hK.out _ _ ?_
        clear hK K
        try simp only [Act.put, List.setIfInBounds_toArray, List.set_cons_zero, List.set_cons_succ]
        refine goU 12 (fun h => absurd h (by decide)) ?_
        refine wpAnyT_done (by kernel_rfl) ?_ _
        refine NoPanic.normal ?_
        (go_wp2; go_roundw; (case rel => exact ⟨j + 1, by omega, by go_num, HA2.out, HG4.out, S4⟩); (case measure => (simp [intOf]; omega)))
      · refine opT (i := 8) rfl (wanted_none rfl) (fun K hK => ?_)
        (unfold Oper.wp; go_simp)
        refine hK.out _ _ (cell_alL hHeld) (fun hHeld => ?_)
        clear hK K
        try simp only [Act.put, List.setIfInBounds_toArray, List.set_cons_zero, List.set_cons_succ]
        refine readyT (rs := [2]) (by kernel_rfl) (by simp) (all1 ?_)
        refine opT (i := 2) rfl (wanted_none rfl) (fun K hK => ?_)
        (unfold Oper.wp; go_simp)
        refine hK.out _ _ (cell_alL hHeld) (fun hHeld => ?_)
        clear hK K
        try simp only [Act.put, List.setIfInBounds_toArray, List.set_cons_zero, List.set_cons_succ]
        refine goU 9 (fun h => absurd h (by decide)) ?_
        refine readyT (rs := [10]) (by kernel_rfl) (by simp) (all1 ?_)
        refine opT (i := 10) rfl (wanted_none rfl) (fun K hK => ?_)
        (unfold Oper.wp; go_simp)
        refine hK.out _ _ (cell_alL hHeld) (fun hHeld => ?_)
        clear hK K
        try simp only [Act.put, List.setIfInBounds_toArray, List.set_cons_zero, List.set_cons_succ]
        refine readyT (rs := [11]) (by kernel_rfl) (by simp) (all1 ?_)
        refine opTT (i := 11) rfl (wanted_none rfl) (by kernel_rfl) (fun K hK => ?_)
        (first | (have O1 := Lib.hid (Rep.below ((one_newL (N := w1.heap.size) R1.out 47 rfl).below b2) (w' := w2.alloc (.cells [.slice A2 n2 c2, .int .i64 k2].toArray 47)) ((Below.refl _ _).alloc (Nat.le_refl _) _)); have O2 := Lib.hid (one_newL (N := w2.heap.size) R2.out 47 rfl); have hd := Lib.hid (box_blocks (And.intro M1.out.1 (And.intro M1.out.2 L1.out)) (And.intro M2.out.1 (And.intro (fun y hy => by have := M2.out.2 y hy; simpa using this) L2.out)) B1.size (by have := b2.size; simpa using this)); refine wp_append_grow (w0 := wr) (.tmp 30) (.tmp 40) _ rfl _ Try.underlying23 Try.infoLoop rfl (by decide) rfl HG.out ?hbw15A (d := (boxLp x).d) (news := [.slice (some ⟨w1.heap.size, 0, none⟩) 1 1, .slice (some ⟨w2.heap.size, 0, none⟩) 1 1]) rfl ?hrep15A hd.out.1 hd.out.2 (new_cellsN _ [_, _] _ (by simp)) rfl ?hone15A ?hlen15A hhb ?_; (case hbw15A => exact bel); (case hrep15A => exact (boxLp_rep O1.out O2.out).below ((Below.refl _ _).alloc (Nat.le_refl _) _)); (case hone15A => (intro u hu; simp only [List.mem_cons, List.not_mem_nil, or_false] at hu; rcases hu with rfl | rfl <;> rfl)); (case hlen15A => (simp only [List.length_map, List.length_take]; omega)); intro v' w4 hG4 hB4; rw [← HT.out] at hG4; have S4 : Below w.heap.size w w4 := Below.trans (below_tr hb (show Below wr.heap.size wr _ from bel)) hB4; have HG4 := Lib.hid hG4) | (have O1 := Lib.hid (Rep.below (one_newL (N := w2.heap.size) (R1.out.below b2) 47 rfl) (w' := (w2.alloc (.cells [.slice A1 n1 c1, .int .i64 k1].toArray 47)).alloc (.cells [.slice A2 n2 c2, .int .i64 k2].toArray 47)) ((Below.refl _ _).alloc (Nat.le_refl _) _)); have O2 := Lib.hid (one_newL (N := w2.heap.size + 1) (Rep.below R2.out (w' := w2.alloc (.cells [.slice A1 n1 c1, .int .i64 k1].toArray 47)) ((Below.refl _ _).alloc (Nat.le_refl _) _)) 47 (by simp)); have hd := Lib.hid (bl_gen (g1 := w2.heap.size) (g2 := (w2.heap.size + 1)) M1.out.1 M2.out.1 M1.out.2 L1.out M2.out.2 L2.out B1.size b2.size (by omega) (by omega) (by omega)); refine wp_append_grow (w0 := wr) (.tmp 30) (.tmp 40) _ rfl _ Try.underlying23 Try.infoLoop rfl (by decide) rfl HG.out ?hbw15B (d := (boxLp x).d) (news := [.slice (some ⟨w2.heap.size, 0, none⟩) 1 1, .slice (some ⟨(w2.heap.size + 1), 0, none⟩) 1 1]) rfl ?hrep15B hd.out.1 hd.out.2 (new_cellsN _ [_, _] _ (by simp)) rfl ?hone15B ?hlen15B hhb ?_; (case hbw15B => exact bel); (case hrep15B => exact (boxLp_rep O1.out O2.out).below ((Below.refl _ _).alloc (Nat.le_refl _) _)); (case hone15B => (intro u hu; simp only [List.mem_cons, List.not_mem_nil, or_false] at hu; rcases hu with rfl | rfl <;> rfl)); (case hlen15B => (simp only [List.length_map, List.length_take]; omega)); intro v' w4 hG4 hB4; rw [← HT.out] at hG4; have S4 : Below w.heap.size w w4 := Below.trans (below_tr hb (show Below wr.heap.size wr _ from bel)) hB4; have HG4 := Lib.hid hG4) | (have O1 := Lib.hid (one_newL (N := w2.heap.size + 1) (Rep.below (R1.out.below b2) (w' := w2.alloc (.cells [.slice A2 n2 c2, .int .i64 k2].toArray 47)) ((Below.refl _ _).alloc (Nat.le_refl _) _)) 47 (by simp)); have O2 := Lib.hid (Rep.below (one_newL (N := w2.heap.size) R2.out 47 rfl) (w' := (w2.alloc (.cells [.slice A2 n2 c2, .int .i64 k2].toArray 47)).alloc (.cells [.slice A1 n1 c1, .int .i64 k1].toArray 47)) ((Below.refl _ _).alloc (Nat.le_refl _) _)); have hd := Lib.hid (bl_gen (g1 := (w2.heap.size + 1)) (g2 := w2.heap.size) M1.out.1 M2.out.1 M1.out.2 L1.out M2.out.2 L2.out B1.size b2.size (by omega) (by omega) (by omega)); refine wp_append_grow (w0 := wr) (.tmp 30) (.tmp 40) _ rfl _ Try.underlying23 Try.infoLoop rfl (by decide) rfl HG.out ?hbw15C (d := (boxLp x).d) (news := [.slice (some ⟨(w2.heap.size + 1), 0, none⟩) 1 1, .slice (some ⟨w2.heap.size, 0, none⟩) 1 1]) rfl ?hrep15C hd.out.1 hd.out.2 (new_cellsN _ [_, _] _ (by simp)) rfl ?hone15C ?hlen15C hhb ?_; (case hbw15C => exact bel); (case hrep15C => exact (boxLp_rep O1.out O2.out).below ((Below.refl _ _).alloc (Nat.le_refl _) _)); (case hone15C => (intro u hu; simp only [List.mem_cons, List.not_mem_nil, or_false] at hu; rcases hu with rfl | rfl <;> rfl)); (case hlen15C => (simp only [List.length_map, List.length_take]; omega)); intro v' w4 hG4 hB4; rw [← HT.out] at hG4; have S4 : Below w.heap.size w w4 := Below.trans (below_tr hb (show Below wr.heap.size wr _ from bel)) hB4; have HG4 := Lib.hid hG4))
        refine hK.out _ _ ?_
        clear hK K
        try simp only [Act.put, List.setIfInBounds_toArray, List.set_cons_zero, List.set_cons_succ]
        refine goU 12 (fun h => absurd h (by decide)) ?_
        refine wpAnyT_done (by kernel_rfl) ?_ _
        refine NoPanic.normal ?_
        (go_wp2; go_roundw; (case rel => exact ⟨j + 1, by omega, by go_num, HA2.out, HG4.out, S4⟩); (case measure => (simp [intOf]; omega)))
end
end Go.Proofs.Ytadmmlflngkpiaa
