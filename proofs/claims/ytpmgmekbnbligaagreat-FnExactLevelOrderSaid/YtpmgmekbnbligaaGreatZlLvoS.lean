/- The order by levels: LevelOrder of the program and of the reference. -/
import Derived.Test.YtpmgmekbnbligaaGreatZlStabT
import Derived.Test.YtpmgmekbnbligaaGreatZlLevO
import Derived.Test.YtpmgmekbnbligaaGreatZlLevs1
set_option linter.all false
set_option linter.unusedSimpArgs false
set_option linter.unusedVariables false
namespace Go.Proofs.YtpmgmekbnbligaaGreat
open Go.ChangeShapes Go.WideShapes Go.ChangeAt Go.RowKit Go.Deep

def LevelOrderF (p : Pgm) : List Int := ordF (LevelsOfF p)
theorem ordF_len {ls : List Int} (h : ∀ x ∈ ls, 0 ≤ x) : (ordF ls).length = ls.length := by rw [(ordF_perm h).length_eq, idxL_len]
theorem LevelOrderF_len (p : Pgm) : (LevelOrderF p).length ≤ 1000000 := by
  unfold LevelOrderF
  rw [ordF_len fun x hx => (LevelsOfF_bd p x hx).1]; exact LevelsOfF_len p
/-- a grown slice that is not empty is a row of numbers -/
theorem Grow.rowI {w : World} {B : Nat} {e : TypeId} {v : Value} {xs : List Int} (h : Grow w B e 1 v (xs.map D.int)) (hx : xs ≠ []) : ∃ g c, v = .slice (some ⟨g, 0, none⟩) xs.length c ∧ RowI w g e xs ∧ B ≤ g ∧ xs.length ≤ c ∧ c ≤ maxLen := by
  obtain ⟨es, cb, ho, hr, _⟩ := h
  obtain ⟨rfl, rfl, _⟩ := (reps_ints xs).1 hr
  rw [List.length_map] at ho
  rcases ho.2 with ⟨_, h0⟩ | ⟨g, cap, cur, rfl, h1, h2, h3, h4, h5, h6⟩
  · exact absurd (List.length_eq_zero_iff.1 h0) hx
  · refine ⟨g, cap, rfl, ⟨cur.toList.drop xs.length, ?_⟩, h1, h3, h4⟩
    have : List.map (fun x => Value.int .i64 x) xs ++ cur.toList.drop xs.length = cur.toList := by
      rw [← List.take_append_drop xs.length cur.toList]
      congr 1
      · rw [← h6]; simp
      · simp
    rw [this]
    unfold Row
    rw [h2]
theorem RowI.rep {w : World} {g c : Nat} {t : TypeId} {xs : List Int} (h : RowI w g t xs) (hi : ∀ x ∈ xs, I64 x) (hc : xs.length ≤ c) (hm : c ≤ maxLen) : Rep w (ints xs) [.slice (some ⟨g, 0, none⟩) xs.length c] [g] := by
  obtain ⟨rest, h⟩ := h
  have := h.rep (xs := xs.map D.int) (cb := []) ((reps_ints xs).2 ⟨rfl, rfl, hi⟩) (by simpa using hc) hm
  simpa [ints] using this
set_option maxRecDepth 100000 in
theorem insertion_nil {w : World} {fv : Value} : Calls Tryz.prog 71 #[.slice none 0 0, .int .i64 0, .int .i64 0, fv] w fun e w' => e = .returned (.tuple #[]) ∧ w' = w := by
  go_enter Tryz.func71, Tryz.ntmps71
  go_wp2
  go_loop [8] (fun u => u = .int .i64 1) (fun _ => 0)
  case atStart => rfl
  case round =>
    subst hrel
    go_wp2
    go_end0
    exact ⟨rfl, rfl⟩
set_option maxRecDepth 100000 in
theorem stable_nil {w : World} {fv : Value} : Calls Tryz.prog 45 #[.slice none 0 0, .int .i64 0, fv] w fun e w' => e = .returned (.tuple #[]) ∧ w' = w := by
  go_enter Tryz.func45, Tryz.ntmps45
  go_wp2
  go_loop [7, 8] (fun u v => u = .int .i64 0 ∧ v = .int .i64 20) (fun _ _ => 0)
  case atStart => exact ⟨rfl, rfl⟩
  case round =>
    obtain ⟨rfl, rfl⟩ := hrel
    go_wp2_with fail
    refine insertion_nil.mono ?_
    rintro e w3 ⟨rfl, rfl⟩
    go_wp2
    go_loop [6] (fun u => u = .int .i64 20) (fun _ => 0)
    case atStart => rfl
    case round =>
      subst hrel
      go_wp2
      go_end0
      exact ⟨rfl, rfl⟩
set_option maxRecDepth 100000 in
theorem sortStable_nil {w : World} {fv : Value} : Calls Tryz.prog 26 #[.slice none 0 0, fv] w fun e w' => e = .returned (.tuple #[]) ∧ w' = w := by
  go_enter Tryz.func26, Tryz.ntmps26
  go_wp2_with fail
  refine stable_nil.mono ?_
  rintro e w3 ⟨rfl, rfl⟩
  go_wp2
  go_end0
  exact ⟨rfl, rfl⟩
set_option maxRecDepth 100000 in
theorem lessK {w : World} {g3 c : Nat} {A : Option Addr} {ls : List Int} {bs : List Nat} {x y : Int} (hc : w.cell? ⟨g3, 0, none⟩ = some (.slice A ls.length c)) (hr : Rep w (ints ls) [.slice A ls.length c] bs) (hbd : ∀ x ∈ ls, 0 ≤ x ∧ x ≤ 120) (hx : 0 ≤ x ∧ x < (ls.length : Int)) (hy : 0 ≤ y ∧ y < (ls.length : Int)) :
    Calls Tryz.prog 27 #[.int .i64 x, .int .i64 y, .pointer (some ⟨g3, 0, none⟩)] w fun e w' => e = .returned (.int .i64 (keyL ls x - keyL ls y)) ∧ ∃ q, w' = w.drewN q := by
  obtain ⟨i, rfl⟩ : ∃ i : Nat, x = (i : Int) := ⟨x.toNat, by omega⟩
  obtain ⟨j, rfl⟩ : ∃ j : Nat, y = (j : Int) := ⟨y.toNat, by omega⟩
  have hi : i < ls.length := by omega
  have hj : j < ls.length := by omega
  obtain ⟨b, o, rfl, _, hbl, hci, _⟩ := hr.ints_at hi
  obtain ⟨b', o', e', _, _, hcj, _⟩ := hr.ints_at hj
  simp only [Option.some.injEq, Addr.mk.injEq] at e'
  obtain ⟨rfl, rfl, _⟩ := e'
  have k1 := hbd _ (List.getElem_mem hi)
  have k2 := hbd _ (List.getElem_mem hj)
  rw [← gi_eq hi] at k1
  rw [← gi_eq hj] at k2
  have HK := Lib.hid (show keyL ls (i : Int) - keyL ls (j : Int) = gi ls i - gi ls j from rfl)
  rw [HK.out]
  obtain ⟨u, hu⟩ : ∃ u, u = gi ls i := ⟨_, rfl⟩
  obtain ⟨v, hv⟩ : ∃ v, v = gi ls j := ⟨_, rfl⟩
  rw [← hu] at hci k1 ⊢
  rw [← hv] at hcj k2 ⊢
  have hn : (ls.length : Nat) ≤ 9223372036854775807 := by
    obtain ⟨_, h1, h2⟩ := hr.ints_len
    exact Nat.le_trans h1 h2
  clear hu hv hr hbd hx hy
  go_enter Tryz.func27, Tryz.ntmps27
  go_wp2
  go_quiet (fail)
  go_wp2
  go_ret
  exact ⟨rfl, nq, rfl⟩
set_option maxRecDepth 100000 in
set_option maxHeartbeats 8000000 in
theorem implLevelOrder_k {w : World} {p : Pgm} {cs : List Value} {bs : List Nat} (h : Rep w p.d cs bs) :
    Calls Tryz.prog 8 #[.agg cs.toArray] w (MadeInts w (LevelOrderF p)) := by
  have HP := Lib.hid h
  obtain ⟨A1, c1, A2, c2, d1, d2, rfl, rfl, g1, g2⟩ := Rep.pgm_iff.1 h
  have Garrays := Lib.hid g1
  have Gparts := Lib.hid g2
  clear h g1 g2
  go_enter Tryz.func8, Tryz.ntmps8
  go_wp2_with fail
  refine (implLevelsOf_c (HP.out.below bel)).mono ?_
  rintro e w1 ⟨A3, n3, c3, bs3, rfl, r1, _, hb3, b1⟩
  have S1 : Below w.heap.size w w1 := bel
  clear b1
  obtain ⟨rfl, h1, h2⟩ := r1.ints_len
  have hn : (LevelsOfF p).length ≤ 1000000 := LevelsOfF_len p
  have R1 := Lib.hid r1; clear r1 h1 h2
  have HBD := Lib.hid (LevelsOfF_bd p)
  obtain ⟨l, hl⟩ : ∃ l, l = LevelsOfF p := ⟨_, rfl⟩
  have HE := Lib.hid (show LevelOrderF p = ordF l by rw [hl]; rfl)
  rw [← hl] at R1 hn HBD ⊢
  clear hl
  obtain ⟨n, hln⟩ : ∃ n, n = l.length := ⟨_, rfl⟩
  rw [← hln] at R1 hn ⊢
  have HLN := Lib.hid hln; clear hln
  go_wp2
  obtain ⟨Wx, hWx⟩ : ∃ Wx, Wx = w1.alloc (.cells #[.slice A3 n c3] 27) := ⟨_, rfl⟩
  have hcx : Wx.cell? ⟨w1.heap.size, 0, none⟩ = some (.slice A3 n c3) := by rw [hWx]; go_simp
  have BX : Below w1.heap.size w1 Wx := by rw [hWx]; exact (Below.refl _ _).alloc (Nat.le_refl _) _
  have hgx := lt_of_cell hcx
  rw [← hWx]
  have HCX := Lib.hid hcx
  have RX := Lib.hid (R1.out.below BX)
  have SX := Lib.hid (below_tr S1 BX)
  clear hWx hcx BX R1 S1 hb3
  go_loopw [4, 10] (fun u i wr => ∃ j : Nat, j ≤ n ∧ i = .int .i64 j ∧ Grow wr Wx.heap.size 3 1 u ((idxL j).map D.int) ∧ Below Wx.heap.size Wx wr ∧ (j = 0 → u = .slice none 0 0)) (fun _ i _ => n - (intOf i).toNat)
  case atStart => exact ⟨0, Nat.zero_le _, rfl, Grow.nil _ _ _ _, Below.refl _ _, fun _ => rfl⟩
  case round =>
    obtain ⟨j, hj, rfl, hG, hb, hu0⟩ := hrel
    have HG := Lib.hid hG
    have hbz := hb.size
    by_cases hlt : j < n
    · have hI := Lib.hid (show I64 (j : Int) by unfold I64; omega)
      obtain ⟨Au, cu, hfu, _, _⟩ := hG.form
      rw [List.length_map, idxL_len] at hfu
      clear hG hu0
      subst hfu
      go_wp2_with (
        at_builtin
        refine wpList_append_more (w0 := wr) (B := Wx.heap.size) (xs := (idxL j).map D.int) (ys := [D.int (j : Int)]) rfl (.tmp 13) (.tmp 15) _ rfl _ Tryz.underlying27 Tryz.infoInt rfl (by decide) rfl HG.out ?hbw rfl (one_int _ hI.out _) ?hys ?hn ?hf ?hlen ?hba ?_
        case hbw => exact bel
        case hys => intro y hy; simp only [List.mem_singleton] at hy; rw [hy]; rfl
        case hn => simp
        case hf => simp
        case hlen => simp [idxL_len]; omega
        case hba => exact hbz
        intro v4 w4 hG4 hg4)
      have HG4 := Lib.hid (show Grow w4 Wx.heap.size 3 1 v4 ((idxL (j + 1)).map D.int) by rw [idxL_succ, List.map_append]; exact hG4)
      have S4 : Below Wx.heap.size Wx w4 := (hb.alloc hb.size _).trans (hg4.below (Nat.le_trans hbz (by simp)) (fun b hb => (HG.out.own_ge b hb).1))
      clear hG4 hg4
      go_wp2
      go_roundw
      case rel => exact ⟨j + 1, by omega, by go_num, HG4.out, S4, fun h => by omega⟩
      case measure => simp [intOf]; omega
    · have hjn : j = n := by omega
      subst hjn
      have hjz : ¬ (j : Int) < (j : Int) := by omega
      by_cases h0 : j = 0
      · subst h0
        obtain rfl := hu0 rfl
        clear hG HG hu0
        go_wp2_with fail
        refine sortStable_nil.mono ?_
        rintro e w5 ⟨rfl, rfl⟩
        go_wp2
        go_ret
        have hl0 : l = [] := List.length_eq_zero_iff.1 HLN.out.symm
        rw [HE.out, hl0]
        exact ⟨_, _, _, [], rfl, Rep.ints_nil (Nat.zero_le _), by simp, by simp, SX.out.trans (hb.mono SX.out.size)⟩
      · obtain ⟨g, cg, rfl, hR, hgB, hcg, hcm⟩ := hG.rowI (by intro e; have := congrArg List.length e; rw [idxL_len] at this; simp at this; omega)
        rw [idxL_len] at hcg ⊢
        clear hu0
        have HCMP := Lib.hid (show CmpI Tryz.prog 27 (.pointer (some ⟨w1.heap.size, 0, none⟩)) (keyL l) wr g j from fun w' x y ht hx hy => by
          have h1 : w'.cell? ⟨w1.heap.size, 0, none⟩ = some (.slice A3 l.length c3) := by
            rw [← HLN.out, ht.cell (by omega) (by simp; omega), hb.cell (p := ⟨w1.heap.size, 0, none⟩) hgx]; exact HCX.out
          have h2 : Rep w' (ints l) [.slice A3 l.length c3] bs3 := by
            rw [← HLN.out]
            exact Rep.keep _ (RX.out.below hb) (ht.keeps fun y hy => ⟨Nat.lt_of_lt_of_le (Rep.lt _ RX.out y hy) hbz, by simp; have := Rep.lt _ RX.out y hy; omega⟩)
          rw [HLN.out] at hx hy
          exact lessK h1 h2 HBD.out hx hy)
        have HS := Lib.hid (sortStable_c (c := cg) (t := 3) (N := j) hR (idxL_len j) hn (idxL_up j) (fun x hx => by unfold idxL at hx; obtain ⟨i, hi, rfl⟩ := List.mem_map.1 hx; have := List.mem_range.1 hi; omega) (Touch.refl _ _) HCMP.out)
        have HRR := Lib.hid hR
        clear hG hR HG
        go_wp2_with fail
        refine HS.out.mono ?_
        rintro e w5 ⟨rfl, ys, h5, x5, s5, t5⟩
        have H5 := Lib.hid (And.intro h5 (And.intro x5 (And.intro s5 t5))); clear h5 x5 s5 t5
        go_wp2
        go_ret
        have hys : ys = ordF l := ord_eq (fun x hx => (HBD.out x hx).1) (HLN.out ▸ H5.out.2.1) (HLN.out ▸ H5.out.2.2.1)
        have hyl : ys.length = j := H5.out.2.1.length_eq.trans (idxL_len j)
        refine ⟨some ⟨g, 0, none⟩, j, cg, [g], rfl, ?_, by simp, ?_, ?_⟩
        · rw [HE.out, ← hys, ← hyl]
          refine H5.out.1.rep (fun x hx => ?_) (by omega) hcm
          have := (H5.out.2.1.mem_iff).1 hx
          unfold idxL at this
          obtain ⟨i, hi, rfl⟩ := List.mem_map.1 this
          have := List.mem_range.1 hi
          unfold I64; omega
        · intro y hy
          have := SX.out.size
          simp only [List.mem_singleton] at hy; omega
        · exact (SX.out.trans (hb.mono SX.out.size)).trans (H5.out.2.2.2.below (B := w.heap.size) (Nat.le_trans SX.out.size hbz) (fun y hy => by have := SX.out.size; simp only [List.mem_singleton] at hy; omega))
theorem ordJ_full_len (ls : List Int) (n j : Nat) : (ordJ ls n j).length ≤ j := by
  unfold ordJ; rw [List.length_map]
  exact Nat.le_trans (List.length_filter_le _ _) (by simp)
theorem ordN_len (ls : List Int) (n : Nat) (hn : n ≤ 200) : (ordN ls n).length ≤ n * ls.length := by
  induction n with
  | zero => simp [ordN_zero]
  | succ n ih =>
    rw [ordN_succ, List.length_append, Nat.succ_mul]
    have := ordJ_full_len ls n ls.length
    have := ih (by omega)
    omega
set_option maxRecDepth 100000 in
set_option maxHeartbeats 400000 in
theorem specLevelOrder_k {w : World} {p : Pgm} {cs : List Value} {bs : List Nat} (h : Rep w p.d cs bs) :
    Calls Tryz.prog 6 #[.agg cs.toArray] w (MadeInts w (LevelOrderF p)) := by
  have HP := Lib.hid h
  obtain ⟨A1, c1, A2, c2, d1, d2, rfl, rfl, g1, g2⟩ := Rep.pgm_iff.1 h
  have Garrays := Lib.hid g1
  have Gparts := Lib.hid g2
  clear h g1 g2
  go_enter Tryz.func6, Tryz.ntmps6
  go_wp2_with fail
  refine (specLevelsOf_c (HP.out.below bel)).mono ?_
  rintro e w1 ⟨A3, n3, c3, bs3, rfl, r1, _, hb3, b1⟩
  have S1 : Below w.heap.size w w1 := bel
  obtain ⟨rfl, h1, h2⟩ := r1.ints_len
  have hn : (LevelsOfF p).length ≤ 120 := by unfold LevelsOfF levelsF; have := usP_le p; simp; omega
  have R1 := Lib.hid r1; clear r1 h1 h2
  have HBD := Lib.hid (LevelsOfF_bd p)
  obtain ⟨l, hl⟩ : ∃ l, l = LevelsOfF p := ⟨_, rfl⟩
  have HE := Lib.hid (show LevelOrderF p = ordN l (critF l).toNat by rw [hl]; rfl)
  have hcr := critF_bd (l := l) (b := 121) (by omega) (fun x hx => by have := HBD.out x (hl ▸ hx); omega)
  rw [← hl] at R1 hn HBD ⊢
  clear hl
  obtain ⟨n, hln⟩ : ∃ n, n = l.length := ⟨_, rfl⟩
  rw [← hln] at R1 hn ⊢
  have HLN := Lib.hid hln; clear hln
  obtain ⟨m, hm⟩ : ∃ m : Nat, critF l = (m : Int) := ⟨(critF l).toNat, by omega⟩
  have HM := Lib.hid hm
  have hmb : m ≤ 121 := by omega
  have HG1 := Lib.hid (((Grow.madeE (w := w.alloc (.cells #[.slice A1 p.arrays.length c1, .slice A2 p.parts.length c2] 32)) (B := w.heap.size + 1) 3 1 (g := w.heap.size + 1) (by simp) (Nat.le_refl _))).below b1)
  have HAP := Lib.hid (show ∀ y ∈ bs3, (Value.slice (some ⟨w.heap.size + 1, 0, none⟩) 0 0).ownBlock ≠ some y from fun y hy => by have := hb3 y hy; simp [Value.ownBlock] at this ⊢; omega)
  have hs1 : w.heap.size + 2 ≤ w1.heap.size := by have := b1.size; simpa using this
  clear hcr hm hb3 b1
  go_wp2
  go_loopw [3, 5] (fun u i wr => ∃ j : Nat, j ≤ m ∧ i = .int .i64 j ∧ Grow wr (w.heap.size + 1) 3 1 u ((ordN l j).map D.int) ∧ Grew w1 wr (.slice (some ⟨w.heap.size + 1, 0, none⟩) 0 0) u) (fun _ i _ => m - (intOf i).toNat)
  case atStart => exact ⟨0, Nat.zero_le _, rfl, HG1.out, Grew.refl _ _⟩
  case round =>
    obtain ⟨j, hj, rfl, hG, hgr⟩ := hrel
    have HG := Lib.hid hG
    have Hgr := Lib.hid hgr
    clear HG1
    obtain ⟨Au, cu, hfu, _, _⟩ := hG.form
    rw [List.length_map] at hfu
    obtain ⟨L, hL⟩ : ∃ L, L = ordN l j := ⟨_, rfl⟩
    rw [← hL] at HG hfu
    have HLL := Lib.hid hL
    clear hL
    have RR := Lib.hid (R1.out.grew Hgr.out HAP.out)
    have HQ := Lib.hid (Hgr.out.apart HAP.out (Rep.lt _ R1.out))
    have Sr : Below w.heap.size w wr := S1.trans (Hgr.out.below (by omega) fun b hb => by simp [Value.ownBlock] at hb; omega)
    have HL7 := Lib.hid (l7Length_c (show Rep wr (ints l) [.slice A3 n c3] bs3 from RR.out) HBD.out)
    rw [HM.out] at HL7
    clear hG hgr
    by_cases hlt : j < m
    · have hltz : (j : Int) < (m : Int) := by omega
      subst hfu
      obtain ⟨wo, hwo⟩ : ∃ wo, wo = wr := ⟨_, rfl⟩
      rw [← hwo] at HG Hgr RR HL7 Sr ⊢
      clear hwo
      go_wp2_with fail
      refine HL7.out.mono ?_
      rintro e w5 ⟨rfl, rfl⟩
      go_wp2
      go_loopw [3, 6] (fun u i wr => ∃ k : Nat, k ≤ n ∧ i = .int .i64 k ∧ Grow wr (w.heap.size + 1) 3 1 u ((L ++ ordJ l j k).map D.int) ∧ Grew w1 wr (.slice (some ⟨w.heap.size + 1, 0, none⟩) 0 0) u) (fun _ i _ => n - (intOf i).toNat)
      case atStart => exact ⟨0, Nat.zero_le _, rfl, by rw [ordJ_zero, List.append_nil]; exact HG.out, Hgr.out⟩
      case round =>
        obtain ⟨k, hk, rfl, hG, hgr⟩ := hrel
        have HGk := Lib.hid hG
        have Hgk := Lib.hid hgr
        have hML := ordN_len l j (by omega)
        have hMJ := ordJ_full_len l j k
        obtain ⟨Ak, ck, hfk, _, _⟩ := hG.form
        rw [List.length_map] at hfk
        rw [← HLL.out, ← HLN.out] at hML
        have hmul : j * n ≤ 121 * 120 := Nat.mul_le_mul (by omega) hn
        obtain ⟨M, hM⟩ : ∃ M, M = L ++ ordJ l j k := ⟨_, rfl⟩
        have hMl : M.length ≤ 20000 := by rw [hM, List.length_append]; omega
        rw [← hM] at HGk hfk
        have HMM := Lib.hid hM
        clear hM hML hMJ hmul hG hgr HG Hgr HL7 RR
        by_cases hkt : k < n
        · have hkz : (k : Int) < (n : Int) := by omega
          have RK := Lib.hid (R1.out.grew Hgk.out HAP.out)
          obtain ⟨b, o, rfl, _, hbl, hcx, _⟩ := (HLN.out ▸ RK.out : Rep wr (ints l) [.slice A3 l.length c3] bs3).ints_at (k := k) (by have := HLN.out; omega)
          have hxb := HBD.out _ (List.getElem_mem (show k < l.length by have := HLN.out; omega))
          rw [← gi_eq] at hxb
          by_cases hv : gi l k = (j : Int)
          · have HS := Lib.hid (ordJ_y hv)
            rw [hv] at hcx
            have hq : ((j : Int) == (j : Int)) = true := ieq_t rfl
            have hI := Lib.hid (show I64 (k : Int) by unfold I64; omega)
            have hbz : w.heap.size + 1 ≤ wr.heap.size := by have := Hgk.out.touch.size; omega
            clear hv hxb
            subst hfk
            go_wp2_with (
              at_builtin
              refine wpList_append_more (w0 := wr) (B := w.heap.size + 1) (xs := M.map D.int) (ys := [D.int (k : Int)]) rfl (.tmp 28) (.tmp 30) _ rfl _ Tryz.underlying27 Tryz.infoInt rfl (by decide) rfl HGk.out ?hbw rfl (one_int _ hI.out _) ?hys ?hn ?hf ?hlen ?hba ?_
              case hbw => exact bel
              case hys => intro y hy; simp only [List.mem_singleton] at hy; rw [hy]; rfl
              case hn => simp
              case hf => simp
              case hlen => simp; omega
              case hba => exact hbz
              intro v4 w4 hG4 hg4)
            have HG4 := Lib.hid (show Grow w4 (w.heap.size + 1) 3 1 v4 ((L ++ ordJ l j (k + 1)).map D.int) by rw [HS.out, ← List.append_assoc, ← HMM.out, List.map_append]; exact hG4)
            have g4 := Lib.hid (Hgk.out.trans (hg4.after (show Below wr.heap.size wr (wr.alloc (.cells #[.int .i64 (k : Int)] 3)) from (Below.refl _ _).alloc (Nat.le_refl _) _)))
            clear hG4 hg4
            go_wp2
            go_roundw
            case rel => exact ⟨k + 1, by omega, by go_num, HG4.out, g4.out⟩
            case measure => simp [intOf]; omega
          · have HS := Lib.hid (ordJ_n hv)
            have hq : (gi l k == (j : Int)) = false := ieq_f hv
            have HG4 := Lib.hid (show Grow wr (w.heap.size + 1) 3 1 _ ((L ++ ordJ l j (k + 1)).map D.int) by rw [HS.out, ← HMM.out]; exact HGk.out)
            obtain ⟨x, hx⟩ : ∃ x, x = gi l k := ⟨_, rfl⟩
            rw [← hx] at hcx hq hxb
            clear hv hx
            subst hfk
            go_wp2
            go_roundw
            case rel => exact ⟨k + 1, by omega, by go_num, HG4.out, Hgk.out⟩
            case measure => simp [intOf]; omega
        · have hkz : ¬ (k : Int) < (n : Int) := by omega
          have hkn : k = n := by omega
          have HG4 := Lib.hid (show Grow wr (w.heap.size + 1) 3 1 _ ((ordN l (j + 1)).map D.int) by rw [ordN_succ, ← HLL.out, ← HLN.out, ← hkn, ← HMM.out]; exact HGk.out)
          subst hfk
          go_wp2
          go_roundw
          case rel => exact ⟨j + 1, by omega, by go_num, HG4.out, Hgk.out⟩
          case measure => simp [intOf]; omega
    · have hltz : ¬ (j : Int) < (m : Int) := by omega
      subst hfu
      go_wp2_with fail
      refine HL7.out.mono ?_
      rintro e w5 ⟨rfl, rfl⟩
      go_wp2
      go_ret
      have hjm : j = m := by omega
      obtain ⟨A, c, bs, he, h1, h2, h3, _⟩ := HG.out.ints
      have hE : LevelOrderF p = L := by rw [HE.out, HM.out, HLL.out, hjm]; simp
      rw [hE]
      exact ⟨A, _, c, bs, congrArg Ending.returned he, h1, h2, fun y hy => by have := h3 y hy; omega, Sr⟩
end Go.Proofs.YtpmgmekbnbligaaGreat
