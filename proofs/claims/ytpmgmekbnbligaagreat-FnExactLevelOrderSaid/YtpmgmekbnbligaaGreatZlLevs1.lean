/- Texts of this seat, joined: Lev, ResA. -/
import Derived.Test.YtpmgmekbnbligaaGreatZlDeps1
import Derived.Test.YtpmgmekbnbligaaGreatZlActs
/- Levels of instances, on both sides; LevelsOf, CriticalLength. -/
set_option linter.all false
set_option linter.unusedSimpArgs false
set_option linter.unusedVariables false
namespace Go.Proofs.YtpmgmekbnbligaaGreat
open Go.ChangeShapes Go.WideShapes Go.ChangeAt Go.RowKit Go.Deep

theorem row_ints {w : World} {g n : Nat} {t : TypeId} {f : Nat → Int} (h : w.rowIs g t n (fun k => .int .i64 (f k))) (hn : n ≤ maxLen) (hf : ∀ k, k < n → I64 (f k)) : Rep w (ints ((List.range n).map f)) [.slice (some ⟨g, 0, none⟩) n n] [g] := by
  have hl : ((List.range n).map f).length = n := by simp
  have := Rep.ints_mk (w := w) (xs := (List.range n).map f) (b := g) (o := 0) (c := n) (by rw [hl]; exact Nat.le_refl _) hn (fun x hx => by
    obtain ⟨k, hk, rfl⟩ := List.mem_map.1 hx
    exact hf k (List.mem_range.1 hk)) h.lt (fun k hk => by
    rw [hl] at hk
    refine ⟨?_, h.frozen _⟩
    rw [Nat.zero_add, h.cell hk, gi_eq (by rw [hl]; exact hk)]
    simp)
  rwa [hl] at this
theorem levF_i64 {us : List Us} {ds : List Dp} (hd : ∀ d ∈ ds, DpOk us d) (hu : us.length ≤ 120) (k : Nat) (hk : k < us.length) : I64 (levF ds k) := by
  have := levF_bd hd k
  unfold I64; omega
/-- what a walk over the dependences needs of one of them -/
theorem DpOk.nat {us : List Us} {d : Dp} (h : DpOk us d) : ∃ a b : Nat, d.from_ = (a : Int) ∧ d.to_ = (b : Int) ∧ a < b ∧ b < us.length := by
  obtain ⟨h1, h2, h3, _, _⟩ := h
  exact ⟨d.from_.toNat, d.to_.toNat, by omega, by omega, by omega, by omega⟩
theorem levS_eq {g : Nat → Int} {t : Nat} {n : Int} {d : Dp} {a : Nat} (h : d.from_ = (a : Int)) (h2 : d.to_ = (t : Int)) : levS g t n d = max n (g a + 1) := by
  unfold levS; rw [if_pos h2, h, Int.toNat_natCast]
theorem levS_ne {g : Nat → Int} {t : Nat} {n : Int} {d : Dp} (h2 : ¬ d.to_ = (t : Int)) : levS g t n d = n := if_neg h2

def levRow (ds : List Dp) (t j : Nat) (k : Nat) : Int := if k < t then levF ds k else if k = t then levP (levF ds) t (ds.take j) else 0
theorem levRow_0 (ds : List Dp) (t k : Nat) : levRow ds t 0 k = if k < t then levF ds k else 0 := by
  unfold levRow
  rw [List.take_zero]
  by_cases h : k < t
  · rw [if_pos h, if_pos h]
  · rw [if_neg h, if_neg h]; split <;> rfl
theorem levRow_end {us : List Us} {ds : List Dp} (hd : ∀ d ∈ ds, DpOk us d) (t k : Nat) : levRow ds t ds.length k = if k < t + 1 then levF ds k else 0 := by
  unfold levRow
  rw [List.take_length]
  by_cases h : k < t
  · rw [if_pos h, if_pos (by omega)]
  · rw [if_neg h]
    by_cases h2 : k = t
    · subst h2; rw [if_pos rfl, if_pos (by omega), levF_eq hd]
    · rw [if_neg h2, if_neg (by omega)]

section
variable {w : World} {us : List Us} {ds : List Dp} {A : Option Addr} {n c : Nat} {bs : List Nat}
set_option maxRecDepth 100000 in
set_option maxHeartbeats 8000000 in
theorem levels_c (h : Rep w (sls Dp.d ds) [.slice A n c] bs) (hd : ∀ d ∈ ds, DpOk us d) (hu : us.length ≤ 120) :
    Calls Tryz.prog 42 #[.slice A n c, .int .i64 (us.length : Int)] w (MadeInts w (levelsF ds us.length)) := by
  obtain ⟨rfl, h1, h2⟩ := h.sls_len
  have hn : ds.length ≤ 9223372036854775807 := Nat.le_trans h1 h2
  clear h1 h2
  have H := Lib.hid h; clear h
  have HDD := Lib.hid hd; clear hd
  obtain ⟨m, hm⟩ : ∃ m, m = us.length := ⟨_, rfl⟩
  have HM := Lib.hid hm
  rw [← hm] at hu ⊢
  clear hm
  have hmk := fun W => run_make_row' (P := Tryz.prog) 27 3 (.int .i64 0) 8 Tryz.underlying27 Tryz.int3 rfl .i64 .i64 m (by omega) (by omega) W
  go_enter Tryz.func42, Tryz.ntmps42
  go_wp2
  clear hmk
  go_loopw [13] (fun i wr => ∃ t : Nat, t ≤ m ∧ i = .int .i64 t ∧ wr.rowIs w.heap.size 3 m (fun k => .int .i64 (if k < t then levF ds k else 0)) ∧ Below w.heap.size w wr) (fun i _ => m - (intOf i).toNat)
  case atStart => exact ⟨0, Nat.zero_le _, rfl, (World.rowIs_made _ _ _ _).congr (fun i hi => by simp), bel⟩
  case round =>
    obtain ⟨t, ht, rfl, hrow, hb⟩ := hrel
    have HROW := Lib.hid hrow; clear hrow
    by_cases hlt : t < m
    case neg =>
      have hjj : t = m := by omega
      subst hjj
      have HR := Lib.hid (HROW.out.congr (g := fun k => .int .i64 (levF ds k)) (fun k hk => by rw [if_pos hk]))
      go_wp2
      go_ret
      refine ⟨_, _, _, _, rfl, row_ints HR.out (by unfold maxLen; omega) (fun k hk => levF_i64 HDD.out (by rw [← HM.out]; exact hu) k (by rw [← HM.out]; exact hk)), by simp, by simp, hb⟩
    go_wp2
    go_loopw [18] (fun i wv => ∃ j : Nat, j ≤ ds.length ∧ i = .int .i64 j ∧ wv.rowIs w.heap.size 3 m (fun k => .int .i64 (levRow ds t j k)) ∧ Below w.heap.size w wv) (fun i _ => ds.length - (intOf i).toNat)
    case atStart => exact ⟨0, Nat.zero_le _, rfl, HROW.out.congr (fun k hk => by rw [levRow_0]), hb⟩
    case round =>
      obtain ⟨j, hj, rfl, hrow, hb2⟩ := hrel
      clear HROW
      have HROW := Lib.hid hrow; clear hrow
      by_cases hjt : j < ds.length
      case neg =>
        have hjj : j = ds.length := by omega
        subst hjj
        have HR := Lib.hid (HROW.out.congr (g := fun k => .int .i64 (if k < t + 1 then levF ds k else 0)) (fun k hk => by rw [levRow_end HDD.out]))
        go_wp2
        go_roundw
        case rel => exact ⟨t + 1, by omega, by go_num, HR.out, bel⟩
        case measure => simp [intOf]; omega
      have hmem := List.getElem_mem hjt
      obtain ⟨a, b, hfa, htb, hab, hbl⟩ := (HDD.out _ hmem).nat
      rw [← HM.out] at hbl
      obtain ⟨be, oe, cse, le, rfl, hble, hre, _, _, hce⟩ := (H.out.below hb2).sls_at Dp.d_size (k := j) hjt
      have Ge := Lib.hid hre
      obtain ⟨rfl, rfl, g1e, g2e, g3e⟩ := Rep.dp_iff.1 hre
      have k0e := (hce 0 _ rfl).1; rw [Nat.add_zero] at k0e
      have k1e := (hce 1 _ rfl).1
      have k2e := (hce 2 _ rfl).1
      have Q1e := Lib.hid g1e
      have Q2e := Lib.hid g2e
      have Q3e := Lib.hid g3e
      clear hce hre g1e g2e g3e
      rw [hfa] at k0e
      rw [htb] at k1e
      have hlg := HROW.out.lt
      by_cases he : b = t
      · subst he
        have HSN := Lib.hid (show levP (levF ds) b (ds.take (j + 1)) = max (levP (levF ds) b (ds.take j)) (levF ds a + 1) from (levP_snoc hjt).trans (levS_eq hfa htb))
        have hck := HROW.out.cell hlt
        have hca := HROW.out.cell (show a < m by omega)
        have hfz := HROW.out.frozen b
        rw [show levRow ds b j b = levP (levF ds) b (ds.take j) by unfold levRow; rw [if_neg (by omega), if_pos rfl]] at hck
        rw [show levRow ds b j a = levF ds a by unfold levRow; rw [if_pos hab]] at hca
        have hb1 := levF_bd HDD.out a
        have hb3 := levPt_bd HDD.out b j
        obtain ⟨x, hx⟩ : ∃ x, x = levF ds a := ⟨_, rfl⟩
        obtain ⟨y, hy⟩ : ∃ y, y = levP (levF ds) b (ds.take j) := ⟨_, rfl⟩
        rw [← hx] at hca hb1 HSN
        rw [← hy] at hck hb3 HSN
        clear hx hy hfa htb hmem
        have ham : a < m := by omega
        have HR2 := Lib.hid (show ∀ W : World, W.rowIs w.heap.size 3 m (fun k => .int .i64 (levRow ds b j k)) → (W.setCell ⟨w.heap.size, b, none⟩ (.int .i64 (max y (x + 1)))).rowIs w.heap.size 3 m (fun k => .int .i64 (levRow ds b (j + 1) k)) from fun W hW => (hW.set b (.int .i64 (max y (x + 1)))).congr (fun k _ => by
          by_cases e : k = b
          · subst e; rw [if_pos rfl]; unfold levRow; rw [if_neg (by omega), if_pos rfl, HSN.out]
          · rw [if_neg e]; unfold levRow; rw [if_neg e, if_neg e]))
        go_wp2_with fail
        refine still_tail_drew 14 (by kernel_rfl) (by kernel_rfl) ?_
        simp only [List.take_succ_cons, List.take_zero, List.drop_succ_cons, List.drop_zero]
        repeat still_step
        try refine wpStill_nil ?_
        go_wp2
        go_roundw
        case rel => exact ⟨j + 1, by omega, by go_num, ((HR2.out _ HROW.out).alloc _).drew, bel⟩
        case measure => simp [intOf]; omega
      · have q1 : ((b : Int) == (t : Int)) = false := ieq_f (by omega)
        have HR2 := Lib.hid (HROW.out.congr (g := fun k => .int .i64 (levRow ds t (j + 1) k)) (fun k _ => by
          unfold levRow
          rw [levP_snoc hjt, levS_ne (by rw [htb]; omega)]))
        clear hfa htb hmem
        go_wp2
        go_roundw
        case rel => exact ⟨j + 1, by omega, by go_num, HR2.out.alloc _, bel⟩
        case measure => simp [intOf]; omega
end

def instP (p : Pgm) : List In := if progOk p then instsF p else []
theorem instP_n {p : Pgm} (h : progOk p = false) : instP p = [] := by unfold instP; rw [h]; rfl
theorem instP_y {p : Pgm} (h : progOk p = true) : instP p = instsF p := by unfold instP; rw [h]; rfl
def usP (p : Pgm) : List Us := if progOk p then usesF p else []
theorem usP_len (p : Pgm) : (usP p).length = (instP p).length := by
  cases h : progOk p with
  | false => rw [instP_n h]; unfold usP; rw [h]; rfl
  | true => rw [instP_y h]; unfold usP; rw [h]; exact usesF_len p
theorem usP_le (p : Pgm) : (usP p).length ≤ 120 := by
  cases h : progOk p with
  | false => unfold usP; rw [h]; simp
  | true => unfold usP; rw [h]; show (usesF p).length ≤ 120; rw [usesF_len]; exact (progOk_all h).2.2
theorem depP_ok (p : Pgm) : ∀ d ∈ depP p, DpOk (usP p) d := by
  cases h : progOk p with
  | false => rw [depP_n h]; simp
  | true => rw [depP_y h]; unfold usP; rw [h]; exact depsF_mem
def LevelsOfF (p : Pgm) : List Int := levelsF (depP p) (usP p).length
theorem LevelsOfF_n {p : Pgm} (h : progOk p = false) : LevelsOfF p = [] := by unfold LevelsOfF usP; rw [h]; rfl
theorem LevelsOfF_y {p : Pgm} (h : progOk p = true) : LevelsOfF p = levelsF (depsF (usesF p)) (usesF p).length := by unfold LevelsOfF usP; rw [depP_y h, h]; rfl
theorem LevelsOfF_bd (p : Pgm) : ∀ x ∈ LevelsOfF p, 0 ≤ x ∧ x ≤ 120 := fun x hx => by
  obtain ⟨k, hk, rfl⟩ := List.mem_map.1 hx
  have := levF_bd (depP_ok p) k
  have := List.mem_range.1 hk
  have := usP_le p
  omega
theorem implProgramInstances_c {w : World} {p : Pgm} {cs : List Value} {bs : List Nat} (h : Rep w p.d cs bs) :
    Calls Tryz.prog 44 #[.agg cs.toArray] w (MadeIns w (instP p)) := by
  have HP := Lib.hid h
  obtain ⟨A1, c1, A2, c2, d1, d2, rfl, rfl, g1, g2⟩ := Rep.pgm_iff.1 h
  have Garrays := Lib.hid g1
  have Gparts := Lib.hid g2
  clear h g1 g2
  cases hv : progOk p with
  | false =>
    rw [instP_n hv]
    have HY := Lib.hid ((InstsF_2 p).trans hv); clear hv
    go_enter Tryz.func44, Tryz.ntmps44
    go_wp2_with fail
    refine (instances_c (HP.out.below bel)).mono ?_
    rintro e w1 ⟨A3, n3, c3, bs3, rfl, _, _, _, b1⟩
    rw [HY.out]
    have S1 : Below w.heap.size w w1 := bel
    go_wp2
    go_ret
    exact MadeIns.of_grow (l := []) (e := 0) (Grow.nil _ _ _ _) (Nat.le_refl _) S1
  | true =>
    rw [instP_y hv]
    have HY := Lib.hid ((InstsF_2 p).trans hv)
    have HZ := Lib.hid (InstsF_ok hv); clear hv
    go_enter Tryz.func44, Tryz.ntmps44
    go_wp2_with fail
    refine (instances_c (HP.out.below bel)).mono ?_
    rintro e w1 ⟨A3, n3, c3, bs3, rfl, r3, nd3, hb3, b1⟩
    rw [HY.out]
    rw [HZ.out] at r3
    have S1 : Below w.heap.size w w1 := bel
    go_wp2
    go_ret
    exact ⟨A3, n3, c3, bs3, rfl, r3, nd3, fun b hb => by have := hb3 b hb; simp at this; omega, S1⟩
set_option maxRecDepth 100000 in
set_option maxHeartbeats 4000000 in
theorem implLevelsOf_c {w : World} {p : Pgm} {cs : List Value} {bs : List Nat} (h : Rep w p.d cs bs) :
    Calls Tryz.prog 25 #[.agg cs.toArray] w (MadeInts w (LevelsOfF p)) := by
  have HP := Lib.hid h
  obtain ⟨A1, c1, A2, c2, d1, d2, rfl, rfl, g1, g2⟩ := Rep.pgm_iff.1 h
  have Garrays := Lib.hid g1
  have Gparts := Lib.hid g2
  clear h g1 g2
  have b0 : Below w.heap.size w (w.alloc (.cells #[.slice A1 p.arrays.length c1, .slice A2 p.parts.length c2] 32)) := bel
  have HP0 := Lib.hid (HP.out.below b0)
  have HL := Lib.hid (usP_len p)
  go_enter Tryz.func25, Tryz.ntmps25
  go_wp2_with fail
  refine wp_region_noPanic ?_
  refine wp_region_held_drew (S := fun w' => Box2 w' w.heap.size (.slice A1 p.arrays.length c1) (.slice A2 p.parts.length c2)) (by kernel_rfl) (⟨by go_simp, by go_simp⟩) (fun hHeld => ?_)
  refine goR 0 hHeld ?_
  refine goR 2 hHeld ?_
  refine stepR (i := 1) rfl (by kernel_rfl) (wanted_none rfl) (fun K hK => ?_)
  go_simp
  (refine (implDependences_c (HP0.out.drewN 1)).mono ?_; rintro e w1 ⟨A3, c3, bs3, rfl, r3, _, _, b1⟩; have a1 := of_drew b1)
  go_wp2_with fail
  refine hK.out _ _ (hHeld.to b1) (fun hHeld => ?_)
  clear hK K
  try simp only [Act.put, aq0, aq1, aq2]
  refine stepR (i := 3) rfl (by kernel_rfl) (wanted_none rfl) (fun K hK => ?_)
  go_simp
  (refine (implProgramInstances_c (HP0.out.below a1)).mono ?_; rintro e w2 ⟨A4, n4, c4, bs4, rfl, r4, _, _, b2⟩; obtain ⟨rfl, _, _⟩ := r4.sls_len; rw [← HL.out]; have r3b := r3.below b2)
  go_wp2_with fail
  refine hK.out _ _ (hHeld.to b2) (fun hHeld => ?_)
  clear hK K
  try simp only [Act.put, aq0, aq1, aq2]
  refine goR 4 hHeld ?_
  refine stepR (i := 5) rfl (by kernel_rfl) (wanted_none rfl) (fun K hK => ?_)
  go_simp
  (refine (levels_c r3b (depP_ok p) (usP_le p)).mono ?_; rintro e w3 ⟨A5, n5, c5, bs5, rfl, r5, nd5, hb5, b3⟩)
  go_wp2_with fail
  refine hK.out _ _ (hHeld.to b3) (fun hHeld => ?_)
  clear hK K
  try simp only [Act.put, aq0, aq1, aq2]
  refine goR 6 hHeld ?_
  refine wpAnyH_done (by kernel_rfl) ?_ _
  refine NoPanic.normal ?_
  go_wp2
  go_ret
  have S3 : Below w.heap.size w w3 := below_tr (below_tr (below_tr b0 a1) b2) b3
  have hz := (below_tr (below_tr b0 a1) b2).size
  exact ⟨A5, n5, c5, bs5, rfl, r5, nd5, fun b hb => Nat.le_trans hz (hb5 b hb), S3⟩
theorem l7Length_c {w : World} {l : List Int} {A : Option Addr} {n c : Nat} {bs : List Nat} (h : Rep w (ints l) [.slice A n c] bs) (hbd : ∀ x ∈ l, 0 ≤ x ∧ x ≤ 120) :
    Calls Tryz.prog 22 #[.slice A n c] w fun e w' => e = .returned (.int .i64 (critF l)) ∧ w = w' := by
  obtain ⟨rfl, h1, h2⟩ := h.ints_len
  have hn : l.length ≤ 9223372036854775807 := Nat.le_trans h1 h2
  have HBD := Lib.hid hbd; clear hbd h1 h2
  go_enter Tryz.func22, Tryz.ntmps22
  go_wp2
  go_loop [3, 4] (fun u i => ∃ j : Nat, j ≤ l.length ∧ i = .int .i64 j ∧ u = .int .i64 (critF (l.take j))) (fun _ i => l.length - (intOf i).toNat)
  case atStart => exact ⟨0, Nat.zero_le _, rfl, rfl⟩
  case round =>
    obtain ⟨j, hj, rfl, rfl⟩ := hrel
    by_cases hlt : j < l.length
    · obtain ⟨b, o, rfl, _, hbl, hc, _⟩ := h.ints_at hlt
      have hx := HBD.out _ (List.getElem_mem hlt)
      have hm := critF_bd (l := l.take j) (b := 121) (by omega) (fun x hx => by have := HBD.out x (List.mem_of_mem_take hx); omega)
      have HS := Lib.hid (critF_snoc hlt)
      rw [gi_eq hlt] at hc HS
      obtain ⟨v, hv⟩ : ∃ v, v = l[j] := ⟨_, rfl⟩
      rw [← hv] at hc HS hx
      clear hv
      obtain ⟨m, hm2⟩ : ∃ m, m = critF (l.take j) := ⟨_, rfl⟩
      rw [← hm2] at HS hm ⊢
      clear hm2
      by_cases hvm : m < v + 1
      · have HT := Lib.hid (HS.out.trans (show critS m v = v + 1 by unfold critS; omega))
        go_wp2
        go_round
        case rel => exact ⟨j + 1, by omega, by go_num, int_eq (by rw [HT.out])⟩
        case measure => simp [intOf]; omega
      · have HT := Lib.hid (HS.out.trans (show critS m v = m by unfold critS; omega))
        go_wp2
        go_round
        case rel => exact ⟨j + 1, by omega, by go_num, int_eq (by rw [HT.out])⟩
        case measure => simp [intOf]; omega
    · have hjj : j = l.length := by omega
      subst hjj
      rw [List.take_length]
      go_wp2
      go_ret
      exact ⟨rfl, rfl⟩
set_option maxRecDepth 100000 in
set_option maxHeartbeats 8000000 in
theorem l7Levels_c {w : World} {p : Pgm} {cs : List Value} {bs : List Nat} (h : Rep w p.d cs bs) (hv : progOk p = true) :
    Calls Tryz.prog 39 #[.agg cs.toArray] w (MadeInts w (levelsF (depsF (usesF p)) (usesF p).length)) := by
  have HP := Lib.hid h
  have hln := (progOk_all hv).2.2
  obtain ⟨A1, c1, A2, c2, d1, d2, rfl, rfl, g1, g2⟩ := Rep.pgm_iff.1 h
  have Garrays := Lib.hid g1
  have Gparts := Lib.hid g2
  clear h g1 g2
  have ul := Lib.hid (usesF_len p)
  have HV := Lib.hid hv; clear hv
  have hu : (usesF p).length ≤ 120 := by rw [ul.out]; exact hln
  obtain ⟨m, hm⟩ : ∃ m, m = (usesF p).length := ⟨_, rfl⟩
  have HM := Lib.hid hm
  have hmu : m ≤ 120 := by omega
  clear hm
  have hmk := fun W => run_make_row' (P := Tryz.prog) 27 3 (.int .i64 0) 8 Tryz.underlying27 Tryz.int3 rfl .i64 .i64 m (by omega) (by omega) W
  go_enter Tryz.func39, Tryz.ntmps39
  go_wp2_with fail
  refine (l4Instances_c (HP.out.below bel) HV.out).mono ?_
  rintro e w1 ⟨A3, n3, c3, bs3, rfl, r1, _, _, b1⟩
  have P1 : Box2 w1 w.heap.size (.slice A1 p.arrays.length c1) (.slice A2 p.parts.length c2) := by
    refine ⟨?_, ?_⟩ <;> (rw [b1.cell (by simp [World.setCell]; try omega)]; go_simp)
  have S1 : Below w.heap.size w w1 := bel
  clear b1
  obtain ⟨rfl, _, _⟩ := r1.sls_len
  rw [← ul.out, ← HM.out]
  clear r1
  have hz1 := S1.size
  have lp1 := lt_of_cell P1.1
  go_wp2_with fail
  refine (l6Deps_c (HP.out.below (below_tr S1 bel)) HV.out).mono ?_
  rintro e w2 ⟨A4, c4, bs4, rfl, r4, _, hb4, b2⟩
  have HB4 := Lib.hid (show ∀ y ∈ bs4, w1.heap.size < y from fun y hy => by have := hb4 y hy; simp at this; omega)
  clear hb4
  have hrow0 : w2.rowIs w1.heap.size 3 m (fun _ => .int .i64 0) := (World.rowIs_made w1 _ _ _).of_block (b2.block _ (by simp))
  have S2 : Below w.heap.size w w2 := below_tr (S1.alloc hz1 _) b2
  obtain ⟨ds, hds⟩ : ∃ ds, ds = depsF (usesF p) := ⟨_, rfl⟩
  have HDD := Lib.hid (show ∀ d ∈ ds, DpOk (usesF p) d by rw [hds]; exact depsF_mem)
  have HSO := Lib.hid (show ds.Pairwise (fun a b => a.from_ ≤ b.from_) by rw [hds]; exact depsF_sorted _)
  rw [← hds] at r4 ⊢
  obtain ⟨_, h1, h2⟩ := r4.sls_len
  have hn : ds.length ≤ 9223372036854775807 := Nat.le_trans h1 h2
  have HDS := Lib.hid hds
  have R4 := Lib.hid r4; clear r4 hds h1 h2 b2 hmk P1
  rw [← HM.out] at hu
  go_wp2
  go_loopw [5] (fun i wr => ∃ j : Nat, j ≤ ds.length ∧ i = .int .i64 j ∧ wr.rowIs w1.heap.size 3 m (fun k => .int .i64 (levP (levF ds) k (ds.take j))) ∧ Touch [w1.heap.size] w2 wr) (fun i _ => ds.length - (intOf i).toNat)
  case atStart => exact ⟨0, Nat.zero_le _, rfl, hrow0, Touch.refl _ _⟩
  case round =>
    obtain ⟨j, hj, rfl, hrow, ht⟩ := hrel
    have HROW := Lib.hid hrow; clear hrow
    have Sr : Below w.heap.size w wr := S2.trans (ht.below S2.size (by simp; omega))
    by_cases hlt : j < ds.length
    case neg =>
      have hjj : j = ds.length := by omega
      subst hjj
      have HR := Lib.hid (HROW.out.congr (g := fun k => .int .i64 (levF ds k)) (fun k hk => by rw [List.take_length, levF_eq HDD.out]))
      go_wp2
      go_ret
      have hrep := row_ints HR.out (by unfold maxLen; omega) (fun k hk => levF_i64 HDD.out (by rw [← HM.out]; exact hu) k (by rw [← HM.out]; exact hk))
      refine ⟨_, _, _, [w1.heap.size], rfl, ?_, by simp, by simpa using hz1, Sr⟩
      rw [← HDS.out, ← HM.out]; exact hrep
    have hmem := List.getElem_mem hlt
    obtain ⟨a, b, hfa, htb, hab, hbl⟩ := (HDD.out _ hmem).nat
    rw [← HM.out] at hbl
    have RR := Lib.hid (Rep.keep _ R4.out (ht.keeps fun y hy => ⟨Rep.lt _ R4.out y hy, by have := HB4.out y hy; simp; omega⟩))
    obtain ⟨be, oe, cse, le, rfl, hble, hre, _, _, hce⟩ := RR.out.sls_at Dp.d_size (k := j) hlt
    have Ge := Lib.hid hre
    obtain ⟨rfl, rfl, g1e, g2e, g3e⟩ := Rep.dp_iff.1 hre
    have k0e := (hce 0 _ rfl).1; rw [Nat.add_zero] at k0e
    have k1e := (hce 1 _ rfl).1
    have k2e := (hce 2 _ rfl).1
    have Q1e := Lib.hid g1e
    have Q2e := Lib.hid g2e
    have Q3e := Lib.hid g3e
    clear hce hre g1e g2e g3e
    have HSN := Lib.hid (show levP (levF ds) b (ds.take (j + 1)) = max (levP (levF ds) b (ds.take j)) (levF ds a + 1) from (levP_snoc hlt).trans (levS_eq hfa htb))
    have HSO2 := Lib.hid (fun (k : Nat) (hk : ¬ k = b) => show levP (levF ds) k (ds.take (j + 1)) = levP (levF ds) k (ds.take j) from (levP_snoc hlt).trans (levS_ne (by rw [htb]; omega)))
    have hkn := lev_known HDD.out HSO.out hlt
    rw [hfa, Int.toNat_natCast] at hkn
    rw [hfa] at k0e
    rw [htb] at k1e
    have hlg := HROW.out.lt
    have hck := HROW.out.cell hbl
    have hca := HROW.out.cell (show a < m by omega)
    have hfz := HROW.out.frozen b
    rw [hkn] at hca
    have hb1 := levF_bd HDD.out a
    have hb3 := levPt_bd HDD.out b j
    obtain ⟨x, hx⟩ : ∃ x, x = levF ds a := ⟨_, rfl⟩
    obtain ⟨y, hy⟩ : ∃ y, y = levP (levF ds) b (ds.take j) := ⟨_, rfl⟩
    rw [← hx] at hca hb1 HSN
    rw [← hy] at hck hb3 HSN
    clear hx hfa htb hmem hkn
    have HT := Lib.hid ht; clear ht
    have ham : a < m := by omega
    by_cases hxy : y < x + 1
    · have HR2 := Lib.hid (show ∀ W : World, W.rowIs w1.heap.size 3 m (fun k => .int .i64 (levP (levF ds) k (ds.take j))) → (W.setCell ⟨w1.heap.size, b, none⟩ (.int .i64 (x + 1))).rowIs w1.heap.size 3 m (fun k => .int .i64 (levP (levF ds) k (ds.take (j + 1)))) from fun W hW => (hW.set b (.int .i64 (x + 1))).congr (fun k _ => by
        by_cases e : k = b
        · subst e; rw [if_pos rfl, HSN.out, show max y (x + 1) = x + 1 by omega]
        · rw [if_neg e, HSO2.out k e]))
      clear hy
      go_wp2_with fail
      go_quiet (fail)
      go_wp2_with fail
      refine still_tail_drew 16 (by kernel_rfl) (by kernel_rfl) ?_
      simp only [List.take_succ_cons, List.take_zero, List.drop_succ_cons, List.drop_zero]
      repeat still_step
      try refine wpStill_nil ?_
      go_wp2
      go_roundw
      case rel => exact ⟨j + 1, by omega, by go_num, HR2.out _ (HROW.out.of_block rfl), (HT.out.trans (Touch.of_below (b := (wr.drewN _).drew) bel)).setCell (by simp) _⟩
      case measure => simp [intOf]; omega
    · have HR2 := Lib.hid (HROW.out.congr (g := fun k => .int .i64 (levP (levF ds) k (ds.take (j + 1)))) (fun k _ => by
        by_cases e : k = b
        · subst e; rw [HSN.out, ← hy, show max y (x + 1) = y by omega]
        · rw [HSO2.out k e]))
      clear hy
      go_wp2_with fail
      go_quiet (fail)
      go_wp2
      go_roundw
      case rel => exact ⟨j + 1, by omega, by go_num, HR2.out.of_block rfl, HT.out.trans (Touch.of_below bel)⟩
      case measure => simp [intOf]; omega
theorem specLevelsOf_c {w : World} {p : Pgm} {cs : List Value} {bs : List Nat} (h : Rep w p.d cs bs) :
    Calls Tryz.prog 21 #[.agg cs.toArray] w (MadeInts w (LevelsOfF p)) := by
  have HP := Lib.hid h
  obtain ⟨A1, c1, A2, c2, d1, d2, rfl, rfl, g1, g2⟩ := Rep.pgm_iff.1 h
  have Garrays := Lib.hid g1
  have Gparts := Lib.hid g2
  clear h g1 g2
  go_enter Tryz.func21, Tryz.ntmps21
  go_wp2_with fail
  refine (specProgramValid_c (HP.out.below bel)).mono ?_
  rintro e w1 ⟨rfl, b1⟩
  have P1 : Box2 w1 w.heap.size (.slice A1 p.arrays.length c1) (.slice A2 p.parts.length c2) := by
    refine ⟨?_, ?_⟩ <;> (rw [b1.cell (by simp [World.setCell]; try omega)]; go_simp)
  have S1 : Below w.heap.size w w1 := bel
  clear b1
  cases hv : progOk p with
  | false =>
    have HE := Lib.hid (LevelsOfF_n hv)
    clear hv
    go_wp2
    go_ret
    rw [HE.out]
    have hg := (Grow.made w1 3 1 S1.size).ints (xs := [])
    obtain ⟨A3, c3, bs3, he, h1, h2, h3, _⟩ := hg
    exact ⟨_, _, _, bs3, congrArg _ he, h1, h2, h3, S1.alloc S1.size _⟩
  | true =>
    have HE := Lib.hid (LevelsOfF_y hv)
    have HV := Lib.hid hv; clear hv
    go_wp2_with fail
    refine (l7Levels_c (HP.out.below bel) HV.out).mono ?_
    rintro e w2 ⟨A3, n3, c3, bs3, rfl, r2, nd2, hb23, b2⟩
    have s2 : Below w1.heap.size w1 w2 := bel
    have P2 := P1.to s2; clear P1
    have S2 : Below w.heap.size w w2 := below_tr S1 s2
    clear s2
    clear b2
    go_wp2
    go_ret
    rw [HE.out]
    exact ⟨A3, n3, c3, bs3, rfl, r2, nd2, fun b hb => Nat.le_trans S1.size (hb23 b hb), S2⟩
theorem LevelsOfF_len (p : Pgm) : (LevelsOfF p).length ≤ 1000000 := by
  unfold LevelsOfF levelsF
  have := usP_le p
  simp; omega
end Go.Proofs.YtpmgmekbnbligaaGreat

/- Results of the laws on dependences and instances, in the form that the laws' walks ask for. -/
namespace Go.Proofs.YtpmgmekbnbligaaGreat
open Go.ChangeShapes Go.WideShapes Go.ChangeAt Go.RowKit Go.Deep

end Go.Proofs.YtpmgmekbnbligaaGreat
