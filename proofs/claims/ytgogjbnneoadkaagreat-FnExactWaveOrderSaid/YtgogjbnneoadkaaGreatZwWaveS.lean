/- The reference's WaveOrder. -/
import Derived.Test.YtgogjbnneoadkaaGreatZwGrpS
set_option linter.all false
set_option linter.unusedSimpArgs false
set_option linter.unusedVariables false
namespace Go.Proofs.YtgogjbnneoadkaaGreat
open Go.ChangeShapes Go.WideShapes Go.ChangeAt Go.RowKit Go.Deep

theorem wpList_append_growN {P : Program} {w : World} {B : Nat} {e : TypeId} {size : Nat} {v : Value} {xs : List D} {cb : List Nat} {ops : Array Oper} {rest : List Oper} {o : Oper} {a : Act} {Q : Exit → Act → World → Prop} (hgd : o.guard = none) (s x : Operand) (t : TypeId)
    (ho : o.op = .call { callee := .builtin .append, args := #[s, x], argTypes := #[t, t] })
    (z : Value) (ht : P.underlying t = some (.slice e)) (hinfo : (P.info? e).map (fun i => (i.zero, i.size, decide (i.bytes ≤ 1024))) = some (some z, size, true)) (hzs : z.cells.size = size) (hsz : 0 < size) (hs : a.eval s = v) (hG : GrowN w B e size v xs cb) {d : D} {g0 : Nat} {news : List Value} {b1 : List Nat}
    (hx : a.eval x = .slice (some ⟨g0, 0, none⟩) 1 1) (hr : Rep w d news b1) (hn : b1.Nodup) (hf : ∀ y ∈ b1, y ∉ cb ∧ v.ownBlock ≠ some y ∧ B ≤ y) (hcells : ∀ j u, news[j]? = some u → w.cell? ⟨g0, j, none⟩ = some u) (hlen : news.length = size) (h1 : ∀ u ∈ news, u.oneCell' = true)
    (h63 : xs.length + 1 ≤ 1000000000) (hbase : B ≤ w.heap.size)
    (h : ∀ v' w', GrowN w' B e size v' (xs ++ [d]) (cb ++ b1) → Grew w w' v v' → wpList P ops Q rest (a.put o.dst v') w') : wpList P ops Q (o :: rest) a w :=
  wpList_plain hgd fun _ hK => wp_append_growN s x t ho z ht hinfo hzs hsz hs hG hx hr hn hf hcells hlen h1 h63 hbase fun v' w' h2 h3 => hK _ _ (h v' w' h2 h3)
theorem GrowN.made (w : World) {B : Nat} (e : TypeId) (size : Nat) (hB : B ≤ w.heap.size) : GrowN (w.alloc (.cells #[] e)) B e size (.slice (some ⟨w.heap.size, 0, none⟩) 0 0) [] [] :=
  ⟨[], World.ownsRow_made w #[] 0 hB (Nat.zero_le _) (by simp), ⟨rfl, rfl⟩, by simp, by simp, by simp⟩

theorem mem_idxOf {us : List In} {f : In → Bool} {i : Nat} (h : i ∈ idxOf us dIn f) : ∃ hl : i < us.length, f us[i] = true := by
  obtain ⟨h1, h2⟩ := ixTo_lt (us := us) (f := f) (j := us.length) h
  exact ⟨h1, by rw [getD_in h1] at h2; exact h2⟩
theorem grpOf_len (us : List In) (k : Int) (pre : List Int) : (grpOf us k pre).length ≤ us.length := ixTo_len _ _ _
/-- the points of a part's instances are that long -/
def PtLen (us : List In) (k : Int) (L : Nat) : Prop := ∀ a ∈ us, a.part = k → a.point.length = L
theorem PtLen.grp {us : List In} {k : Int} {L m : Nat} (h : PtLen us k L) (hm : m ≤ L) {pre : List Int} : ∀ i ∈ grpOf us k pre, ∃ hlt : i < us.length, m ≤ us[i].point.length := fun i hi => by
  obtain ⟨hl, hf⟩ := mem_idxOf hi
  refine ⟨hl, ?_⟩
  simp only [grpB, Bool.and_eq_true, decide_eq_true_iff] at hf
  rw [h _ (List.getElem_mem hl) hf.1]; exact hm
theorem PtLen.head {us : List In} {k : Int} {L m : Nat} (h : PtLen us k L) (hm : m ≤ L) {pre h' : List Int} (hh : h' ∈ headsK (ptK us m) (grpOf us k pre)) : h'.length = m := by
  obtain ⟨i, hi, rfl⟩ := (mem_headsK _ _ _).1 hh
  obtain ⟨hl, h1⟩ := h.grp hm i hi
  rw [ptK_eq hl, List.length_take]; omega
theorem PtLen.pre {us : List In} {k : Int} {L m : Nat} (h : PtLen us k L) (hm : m ≤ L) {pre : List Int} (hp : pre.length = m) : ∀ a ∈ us, a.part = k → pre.length ≤ a.point.length := fun a ha e => by rw [h a ha e]; omega
def lanesF (us : List In) (k m : Nat) (h : List Int) : List (List Int) := (headsK (ptK us (m + 1)) (grpOf us (k : Int) h)).map fun h' => toI (grpOf us (k : Int) h')
def outerF (us : List In) (k m : Nat) : List (List Int) := headsK (ptK us m) (grpOf us (k : Int) [])
theorem grpOf_nil (us : List In) (k : Nat) : grpOf us (k : Int) [] = idxOf us dIn (partB k) := idxOf_congr fun a _ => by simp [grpB, partB]
theorem grpsF_spec {us : List In} {k m L : Nat} (h : PtLen us (k : Int) L) (hm : m + 1 ≤ L) : toI3 (grpsF us k m) = (outerF us k m).map (lanesF us k m) := by
  have e := groups2_idx us dIn (partB k) (k1 := fun a => a.point.take m) (k2 := fun a => a.point.take (m + 1)) (fun a b e => take_refine e)
  have e2 : grpsF us k m = _ := e
  rw [e2]
  unfold toI3 outerF lanesF
  rw [List.map_map, grpOf_nil]
  refine List.map_congr_left fun h' hh => ?_
  have hl : h'.length = m := h.head (pre := []) (by omega) (by rw [grpOf_nil]; exact hh)
  have e3 : (idxOf us dIn fun a => partB k a && decide (a.point.take m = h')) = grpOf us (k : Int) h' := idxOf_congr fun a _ => by unfold grpB partB; rw [hl]
  show (List.map _ (headsK _ _)).map toI = _
  rw [e3, List.map_map]
  refine List.map_congr_left fun h2 hh2 => ?_
  have hl2 : h2.length = m + 1 := h.head (pre := h') (by omega) hh2
  have e4 : (idxOf us dIn fun a => partB k a && decide (a.point.take (m + 1) = h2)) = grpOf us (k : Int) h2 := idxOf_congr fun a _ => by unfold grpB partB; rw [hl2]
  exact congrArg toI e4
theorem wave_spec {us : List In} {k m L : Nat} (h : PtLen us (k : Int) L) (hm : m + 1 ≤ L) : toI ((grpsF us k m).flatMap fun g => turns g 120) = (outerF us k m).flatMap fun h => turns (lanesF us k m h) 120 := by
  rw [toI_flat]
  have : ((toI3 (grpsF us k m)).flatMap fun g => turns g 120) = (outerF us k m).flatMap fun h => turns (lanesF us k m h) 120 := by rw [grpsF_spec h hm, List.flatMap_map]
  rw [← this]
  unfold toI3
  rw [List.flatMap_map]
  congr 1
  funext g
  exact (turns_map _ g 120).symm
theorem insts_hi : ∀ (ps : List Prt) (k : Int), ∀ a ∈ instsFrom ps k, a.part < k + (ps.length : Int)
  | [], _, a, h => by simp [instsFrom] at h
  | x :: xs, k, a, h => by
    rcases List.mem_append.1 h with h | h
    · rw [instsP_part h]; simp; omega
    · have := insts_hi xs (k + 1) a h; simp; omega
theorem bef_spec {p : Pgm} {k : Nat} : (idxOf (instsF p) dIn fun a => decide (0 ≤ a.part) && decide (a.part < (k : Int))) = befF (instsF p) k := idxOf_congr fun a ha => by
  have := instsFrom_ge _ _ a ha
  simp only [this, decide_true, Bool.true_and]
theorem aft_spec {p : Pgm} {k : Nat} : (idxOf (instsF p) dIn fun a => decide ((k : Int) + 1 ≤ a.part) && decide (a.part < (p.parts.length : Int))) = aftF (instsF p) k := idxOf_congr fun a ha => by
  have h := insts_hi _ _ a ha
  rw [Int.zero_add] at h
  simp only [h, decide_true, Bool.and_true]
  exact decide_eq_decide.2 (by omega)
theorem insts_ptLen {p : Pgm} {k : Nat} (hk : k < p.parts.length) : PtLen (instsF p) (k : Int) p.parts[k].nest.length := fun a ha e => (InOk.of_mem ha).len hk e
theorem idxOf_len (us : List In) (f : In → Bool) : (idxOf us dIn f).length ≤ us.length := ixTo_len us f us.length
theorem outerF_len (us : List In) (k m : Nat) : (outerF us k m).length ≤ us.length := Nat.le_trans (headsK_len _ _) (grpOf_len _ _ _)
theorem lanesF_len (us : List In) (k m : Nat) (h : List Int) : (lanesF us k m h).length ≤ us.length := by
  unfold lanesF; rw [List.length_map]; exact Nat.le_trans (headsK_len _ _) (grpOf_len _ _ _)
theorem lanesF_mem {us : List In} {k m : Nat} {h l : List Int} (hl : l ∈ lanesF us k m h) : l.length ≤ us.length := by
  obtain ⟨h2, _, rfl⟩ := List.mem_map.1 hl
  rw [toI_len]; exact grpOf_len _ _ _
theorem flatMap_take {α β : Type} (f : α → List β) {l : List α} {j : Nat} (h : j < l.length) : (l.take (j + 1)).flatMap f = (l.take j).flatMap f ++ f l[j] := by
  rw [List.take_succ_eq_append_getElem h, List.flatMap_append]; simp
theorem flatMap_len {α β : Type} (f : α → List β) (n : Nat) : ∀ (l : List α), (∀ a ∈ l, (f a).length ≤ n) → (l.flatMap f).length ≤ l.length * n
  | [], _ => by simp
  | a :: l, h => by
    rw [List.flatMap_cons, List.length_append, List.length_cons, Nat.add_mul, Nat.one_mul]
    have h1 := h a List.mem_cons_self
    have h2 := flatMap_len f n l fun b hb => h b (List.mem_cons_of_mem _ hb)
    omega
set_option maxRecDepth 100000 in
set_option maxHeartbeats 1600000 in
theorem specWaveOrder_c {w : World} {p : Pgm} {cs : List Value} {bs : List Nat} {k m : Int} (h : Rep w p.d cs bs) :
    Calls Tryz.prog 25 #[.agg cs.toArray, .int .i64 k, .int .i64 m] w (MadeIB w (WaveOrderF p k m)) := by
  have HP := Lib.hid h
  obtain ⟨A1, c1, A2, c2, d1, d2, rfl, rfl, g1, g2⟩ := Rep.pgm_iff.1 h
  have Garrays := Lib.hid g1
  have Gparts := Lib.hid g2
  clear h g1 g2
  have hpn : p.parts.length ≤ 9223372036854775807 := Nat.le_trans Gparts.out.sls_len.2.1 Gparts.out.sls_len.2.2
  go_enter Tryz.func25, Tryz.ntmps25
  go_wp2_with fail
  refine (l8Has_c (HP.out.below bel)).mono ?_
  rintro e w1 ⟨rfl, b1⟩
  have P1 : Box2 w1 w.heap.size (.slice A1 p.arrays.length c1) (.slice A2 p.parts.length c2) := by
    refine ⟨?_, ?_⟩ <;> (rw [b1.cell (by simp [World.setCell]; try omega)]; go_simp)
  have S1 : Below w.heap.size w w1 := bel
  clear b1
  by_cases hok : progOk p = true ∧ loopThere p k m
  case neg =>
    have HX := Lib.hid (show WaveOrderF p k m = ([], false) from if_neg hok)
    have HB := Lib.hid (hasB_no hok)
    rw [HB.out]
    go_wp2
    go_ret2
    rw [HX.out]
    exact ⟨_, 0, _, [], rfl, Rep.ints_nil (Nat.zero_le _), by simp, by simp, bel⟩
  have HB := Lib.hid (hasB_yes hok)
  rw [HB.out]
  have hok2 := hok
  obtain ⟨hv, hl⟩ := hok
  obtain ⟨q, r, hq, rfl, rfl, hr⟩ := loop_there hl
  have hun := progOk_insts hv
  have hpt := insts_ptLen hq
  have HX := Lib.hid (show WaveOrderF p (q : Int) (r : Int) = (toI (idxOf (instsF p) dIn fun a => decide (0 ≤ a.part) && decide (a.part < (q : Int))) ++ (outerF (instsF p) q r).flatMap (fun h => turns (lanesF (instsF p) q r h) 120) ++ toI (idxOf (instsF p) dIn fun a => decide ((q : Int) + 1 ≤ a.part) && decide (a.part < (p.parts.length : Int))), true) by
    rw [← wave_spec hpt (by omega), bef_spec, aft_spec, ← toI_append, ← toI_append]
    exact if_pos hok2)
  have hq4 : q ≤ 1000 := by have := (progOk_all hv).1; omega
  have hr4 : r ≤ 1000 := by
    have h1 := (progOk_all hv).2.1 _ (List.getElem_mem hq)
    unfold partOk at h1
    simp only [Bool.and_eq_true] at h1
    have := (nest_ok (npF_ok h1.1).1).1
    omega
  clear hok2 hl HB
  go_wp2_with fail
  refine (l4Instances_c (HP.out.below bel) hv).mono ?_
  rintro e w2 ⟨A3, n3, c3, bs3, rfl, r3, _, _, b2⟩
  have s2 : Below w1.heap.size w1 w2 := bel
  have P2 := P1.to s2; clear P1
  have S2 : Below w.heap.size w w2 := below_tr S1 s2
  clear s2
  clear b2
  obtain ⟨rfl, _, _⟩ := r3.sls_len
  obtain ⟨us, hus⟩ : ∃ us, us = instsF p := ⟨_, rfl⟩
  obtain ⟨L, hL⟩ : ∃ L, L = p.parts[q].nest.length := ⟨_, rfl⟩
  rw [← hus] at hun hpt HX r3 ⊢
  rw [← hL] at hpt hr
  clear hus hL
  have HPT := Lib.hid hpt; clear hpt
  have HI2 := Lib.hid r3
  have HB3 := Lib.hid (show ∀ y ∈ bs3, y < w2.heap.size from Rep.lt _ r3)
  clear r3
  have hz2 : w.heap.size < w2.heap.size := lt_of_cell P2.1
  go_wp2_with fail
  refine (l9Parts_c HI2.out hun).mono ?_
  rintro e w3 ⟨v3, rfl, hG3, b3⟩
  have s3 : Below w2.heap.size w2 w3 := bel
  have P3 := P2.to s3; clear P2
  have S3 : Below w.heap.size w w3 := below_tr S2 s3
  clear s3
  have HI3 := Lib.hid (HI2.out.below b3)
  have HG3 := Lib.hid hG3; clear hG3
  have hz3 := b3.size
  clear b3
  go_wp2_with fail
  refine (l9Group_c HI3.out (Rep.ints_nil (A := none) (c := 0) (Nat.zero_le _)) hun (by simp)).mono ?_
  rintro e w4 ⟨v4, rfl, hG4, b4⟩
  have s4 : Below w3.heap.size w3 w4 := bel
  have P4 := P3.to s4; clear P3
  have S4 : Below w.heap.size w w4 := below_tr S3 s4
  clear s4
  have HI4 := Lib.hid (HI3.out.below b4)
  have HG4 := Lib.hid (HG3.out.below b4)
  have hz4 := b4.size
  obtain ⟨A4, c4, bs4, hv4, r4, _, _, _⟩ := hG4.ints
  subst hv4
  clear b4 hG4
  go_wp2_with fail
  refine (l9Heads_c HI4.out r4 hun (Nat.le_trans (grpOf_len _ _ _) hun) (HPT.out.grp (by omega))).mono ?_
  rintro e w5 ⟨A5, n5, c5, bs5, rfl, r5, hb5, b5⟩
  have s5 : Below w4.heap.size w4 w5 := bel
  have P5 := P4.to s5; clear P4
  have S5 : Below w.heap.size w w5 := below_tr S4 s5
  clear s5
  have HIA := Lib.hid (HI4.out.below b5)
  have HGA := Lib.hid (HG4.out.below b5)
  have hz5 := b5.size
  have HL5 := Lib.hid (show ∀ y ∈ bs5, y < w5.heap.size from Rep.lt _ r5)
  have HOWN := Lib.hid (show ∀ y, v3.ownBlock = some y → w2.heap.size ≤ y ∧ y < w3.heap.size from HG3.out.own_ge)
  have HAPA := Lib.hid (show ∀ y ∈ w.heap.size :: (bs3 ++ bs5), v3.ownBlock ≠ some y from fun y hy e => by
    have h1 := HOWN.out y e
    rcases List.mem_cons.1 hy with rfl | hy
    · omega
    · rcases List.mem_append.1 hy with hy | hy
      · have := HB3.out y hy; omega
      · rcases hb5 y hy with h2 | h2
        · have := HB3.out y h2; omega
        · omega)
  have HLT := Lib.hid (show ∀ y ∈ w.heap.size :: (bs3 ++ bs5), y < w5.heap.size from fun y hy => by
    rcases List.mem_cons.1 hy with rfl | hy
    · omega
    · rcases List.mem_append.1 hy with hy | hy
      · have := HB3.out y hy; omega
      · exact HL5.out y hy)
  have HHD := Lib.hid (fun h' hh => HPT.out.head (m := r) (pre := []) (h' := h') (by omega) hh)
  have hol := outerF_len us q r
  obtain ⟨O, hO⟩ : ∃ O, O = headsK (ptK us r) (grpOf us (q : Int) []) := ⟨_, rfl⟩
  rw [show outerF us q r = O from hO.symm] at HX hol
  rw [← hO] at r5 HHD
  obtain ⟨rfl, _, _⟩ := r5.sls_len
  have HOA := Lib.hid r5
  clear r5 hb5 b5 hO r4 HI2 HI3 HG3 HG4 HI4
  obtain ⟨B0, hB0⟩ : ∃ B0, B0 = toI (idxOf us dIn fun a => decide (0 ≤ a.part) && decide (a.part < (q : Int))) := ⟨_, rfl⟩
  have hB0l : B0.length ≤ 120 := by rw [hB0, toI_len]; exact Nat.le_trans (idxOf_len us _) hun
  rw [← hB0] at HGA HX
  clear hB0
  obtain ⟨lf, hlf⟩ : ∃ lf, lf = fun h => turns (lanesF us q r h) 120 := ⟨_, rfl⟩
  have HLF := Lib.hid (show ∀ h, lf h = turns (lanesF us q r h) 120 from fun h => by rw [hlf])
  have hlfl : ∀ h, (lf h).length ≤ 14400 := fun h => by
    rw [HLF.out]
    refine Nat.le_trans (turns_len _ _) ?_
    have := Nat.mul_le_mul (Nat.le_refl 120) (Nat.le_trans (lanesF_len us q r h) hun)
    omega
  have HLL := Lib.hid hlfl
  rw [← hlf] at HX
  clear hlf hlfl
  go_wp2
  go_loopw [9, 11] (fun u i wr => ∃ j : Nat, j ≤ O.length ∧ i = .int .i64 j ∧ Grow wr w2.heap.size 3 1 u ((B0 ++ (O.take j).flatMap lf).map D.int) ∧ Grew w5 wr v3 u) (fun _ i _ => O.length - (intOf i).toNat)
  case atStart => exact ⟨0, Nat.zero_le _, rfl, by simpa using HGA.out, Grew.refl _ _⟩
  case round =>
    clear HGA
    obtain ⟨j, hj, rfl, hG, hgr⟩ := hrel
    have HG := Lib.hid hG; clear hG
    have Pr := hgr.touch.box2 P5 (fun hm => HAPA.out _ (by simp) (mem_ownL.1 hm))
    have HIr := Lib.hid (HIA.out.grew hgr (fun y hy => HAPA.out y (by simp [hy])))
    have HOr := Lib.hid (HOA.out.grew hgr (fun y hy => HAPA.out y (by simp [hy])))
    have APr := Lib.hid (hgr.apart HAPA.out HLT.out)
    have Sr : Below w.heap.size w wr := S5.trans (hgr.below S5.size (fun y hy => by have := (HOWN.out y hy).1; omega))
    have hzr := hgr.touch.size
    have HGR := Lib.hid hgr; clear hgr
    have hol2 := flatMap_len lf 14400 (O.take j) (fun a _ => HLL.out a)
    have hol3 : (O.take j).length * 14400 ≤ 120 * 14400 := Nat.mul_le_mul (by rw [List.length_take]; omega) (Nat.le_refl _)
    by_cases hlt : j < O.length
    case neg =>
      have hjj : j = O.length := by omega
      subst hjj
      rw [List.take_length] at HG hol2
      obtain ⟨B1, hB1⟩ : ∃ B1, B1 = B0 ++ O.flatMap lf := ⟨_, rfl⟩
      have hB1l : B1.length ≤ 3000000 := by rw [hB1, List.length_append]; rw [List.take_length] at hol3; omega
      rw [← hB1] at HG HX
      clear hB1
      go_wp2_with fail
      refine (l9Parts_c (HIr.out.below bel) hun).mono ?_
      rintro e w8 ⟨v8, rfl, hG8, b8⟩
      obtain ⟨A8, c8, bs8, hv8, r8, _, _, _⟩ := hG8.ints
      subst hv8
      have HG8 := Lib.hid (HG.out.below b8)
      have R8 := Lib.hid r8
      have S8 := below_tr Sr b8
      have hl8 := r8.ints_len.1
      have hl9 := ixTo_len us (fun a => decide ((q : Int) + 1 ≤ a.part) && decide (a.part < (p.parts.length : Int))) us.length
      rw [ixTo_all] at hl9
      obtain ⟨C0, hC0⟩ : ∃ C0, C0 = toI (idxOf us dIn fun a => decide ((q : Int) + 1 ≤ a.part) && decide (a.part < (p.parts.length : Int))) := ⟨_, rfl⟩
      have hC0l : C0.length ≤ 120 := by rw [hC0, toI_len]; omega
      rw [← hC0] at HX R8 ⊢
      have hz8 := b8.size
      clear hC0 r8 b8 hG8 hl9 hl8
      go_wp2_with (
        at_builtin
        (
        refine wpList_append_more (w0 := w8) (B := w2.heap.size) (xs := B1.map D.int) (ys := C0.map D.int) rfl (.tmp 95) (.tmp 102) _ rfl _ Tryz.underlying39 Tryz.infoInt rfl (by decide) rfl HG8.out (Below.refl _ _) rfl R8.out ?hys ?hn ?hf ?hlen ?hba ?_
        case hys => intro y hy; obtain ⟨_, _, rfl⟩ := List.mem_map.1 hy; rfl
        case hn => rw [R8.out.ints_tail]; simp
        case hf => rw [R8.out.ints_tail]; simp
        case hlen => simp; omega
        case hba => omega
        intro v9 w9 hG9 hg9))
      have HE := Lib.hid (show Grow w9 w2.heap.size 3 1 v9 ((B1 ++ C0).map D.int) by rw [List.map_append]; exact hG9)
      have S9 : Below w.heap.size w w9 := S8.trans (hg9.below S8.size (fun b hb => by have := (HG8.out.own_ge b hb).1; omega))
      clear hG9 hg9
      go_wp2
      go_ret2
      rw [HX.out]
      exact MadeIB.of_grow (w := w) (b := true) HE.out (by omega) S9
    have HFT := Lib.hid (flatMap_take lf hlt)
    obtain ⟨bo, oo, cso, lo, hAo, hbo, hro, _, hlo, hco⟩ := HOr.out.sls_at (s := 1) (fun _ => rfl) (k := j) hlt
    subst hAo
    obtain ⟨Ah, ch, hcs⟩ := hro.ints_form1
    subst hcs
    have ko := (hco 0 _ rfl).1; rw [Nat.add_zero, Nat.mul_one] at ko
    have hhl0 := HHD.out _ (List.getElem_mem hlt)
    have HRH := Lib.hid hro
    clear hco hro hlo
    obtain ⟨hd, hhd⟩ : ∃ hd, hd = O[j] := ⟨_, rfl⟩
    rw [← hhd] at ko hhl0 HRH HFT
    have HHL := Lib.hid hhl0
    clear hhd hhl0
    go_wp2_with fail
    refine (l9Group_c (HIr.out.below bel) (HRH.out.below bel) hun (HPT.out.pre (m := r) (by omega) HHL.out)).mono ?_
    rintro e w6 ⟨v6, rfl, hG6, b6⟩
    obtain ⟨A6, c6, bs6, hv6, r6, _, hge6, _⟩ := hG6.ints
    subst hv6
    have T6 : Below wr.heap.size wr w6 := bel
    have lan6 := GrowN.below (GrowN.made wr 39 1 (Nat.le_refl _)) b6
    have HI6 := Lib.hid (HIr.out.below T6)
    have hz6 := T6.size
    have hz6b : wr.heap.size + 1 ≤ w6.heap.size := by have := b6.size; simpa using this
    go_wp2_with fail
    rw [show ((r : Int) + 1) = ((r + 1 : Nat) : Int) from rfl]
    refine (l9Heads_c HI6.out r6 hun (Nat.le_trans (grpOf_len _ _ _) hun) (HPT.out.grp (by omega))).mono ?_
    rintro e w7 ⟨A7, n7, c7, bs7, rfl, r7, hb7, b7⟩
    have T7 := below_tr T6 b7
    have HI7 := Lib.hid (HI6.out.below b7)
    have lan7 := Lib.hid (lan6.below b7)
    have hz7 := b7.size
    have HL7 := Lib.hid (show ∀ y ∈ bs7, y < w7.heap.size from Rep.lt _ r7)
    have HF7 := Lib.hid (show ∀ y ∈ bs3 ++ bs7, (Value.slice (some ⟨wr.heap.size, 0, none⟩) 0 0).ownBlock ≠ some y from fun y hy e => by
      have e2 : wr.heap.size = y := by simpa [Value.ownBlock] using e
      rcases List.mem_append.1 hy with hy | hy
      · have := HB3.out y hy; omega
      · rcases hb7 y hy with h2 | h2
        · have := HB3.out y h2; omega
        · omega)
    have HL77 := Lib.hid (show ∀ y ∈ bs3 ++ bs7, y < w7.heap.size from fun y hy => by
      rcases List.mem_append.1 hy with hy | hy
      · have := HB3.out y hy; omega
      · exact HL7.out y hy)
    have HHE := Lib.hid (fun h' hh => HPT.out.head (m := r + 1) (pre := hd) (h' := h') (by omega) hh)
    have hll := lanesF_len us q r hd
    have HLM := Lib.hid (fun l hl => Nat.le_trans (lanesF_mem (us := us) (k := q) (m := r) (h := hd) (l := l) hl) hun)
    have HLF2 := Lib.hid (HLF.out hd)
    have HLN := Lib.hid (show lanesF us q r hd = (headsK (ptK us (r + 1)) (grpOf us (q : Int) hd)).map fun h' => toI (grpOf us (q : Int) h') from rfl)
    have hhn := headsK_len (ptK us (r + 1)) (grpOf us (q : Int) hd)
    have hgn := grpOf_len us (q : Int) hd
    obtain ⟨H, hH⟩ : ∃ H, H = headsK (ptK us (r + 1)) (grpOf us (q : Int) hd) := ⟨_, rfl⟩
    rw [← hH] at r7 HHE HLN hhn
    obtain ⟨LN, hLN⟩ : ∃ LN, LN = lanesF us q r hd := ⟨_, rfl⟩
    rw [← hLN] at hll HLM HLF2 HLN
    obtain ⟨rfl, _, _⟩ := r7.sls_len
    have HH7 := Lib.hid r7
    have hHn : H.length ≤ 120 := by omega
    clear hH hLN r7 hb7 lan6 hG6 r6 hge6 b6 HI6
    obtain ⟨wo, rfl⟩ : ∃ wo : World, wo = wr := ⟨_, rfl⟩
    go_wp2
    go_loopw [12, 14] (fun u i wv => ∃ (z : Nat) (cb : List Nat), z ≤ H.length ∧ i = .int .i64 z ∧ GrowN wv wo.heap.size 39 1 u ((H.take z).map fun h' => ints (toI (grpOf us (q : Int) h'))) cb ∧ Grew w7 wv (.slice (some ⟨wo.heap.size, 0, none⟩) 0 0) u) (fun _ i _ => H.length - (intOf i).toNat)
    case atStart => exact ⟨0, [], Nat.zero_le _, rfl, lan7.out, Grew.refl _ _⟩
    case round =>
      clear lan7
      obtain ⟨z, cb, hz, rfl, hG, hgr⟩ := hrel
      have HIv := Lib.hid (HI7.out.grew hgr (fun y hy => HF7.out y (by simp [hy])))
      have HHv := Lib.hid (HH7.out.grew hgr (fun y hy => HF7.out y (by simp [hy])))
      have AP7 := Lib.hid (hgr.apart HF7.out HL77.out)
      have hzv := hgr.touch.size
      have HGV := Lib.hid hgr; clear hgr
      have HGN := Lib.hid hG; clear hG
      by_cases hzt : z < H.length
      case pos =>
        have HSN := Lib.hid (show (H.take (z + 1)).map (fun h' => ints (toI (grpOf us (q : Int) h'))) = (H.take z).map (fun h' => ints (toI (grpOf us (q : Int) h'))) ++ [ints (toI (grpOf us (q : Int) H[z]))] by rw [List.take_succ_eq_append_getElem hzt, List.map_append]; rfl)
        obtain ⟨bx, ox, csx, lx, hAx, hbx, hrx, _, hlx, hcx⟩ := HHv.out.sls_at (s := 1) (fun _ => rfl) (k := z) hzt
        subst hAx
        obtain ⟨Ax, cx, hcsx⟩ := hrx.ints_form1
        subst hcsx
        have kx := (hcx 0 _ rfl).1; rw [Nat.add_zero, Nat.mul_one] at kx
        have hxl := HHE.out _ (List.getElem_mem hzt)
        have HXL := Lib.hid hxl
        have HRX := Lib.hid hrx
        clear hcx hrx hlx hxl
        obtain ⟨xd, hxd⟩ : ∃ xd, xd = H[z] := ⟨_, rfl⟩
        rw [← hxd] at kx HXL HRX HSN
        clear hxd
        go_wp2_with fail
        refine (l9Group_c HIv.out HRX.out hun (HPT.out.pre (m := r + 1) (by omega) HXL.out)).mono ?_
        rintro e w8 ⟨v8, rfl, hG8, b8⟩
        obtain ⟨A8, c8, bs8, hv8, r8, nd8, hge8, _⟩ := hG8.ints
        subst hv8
        have HN8 := Lib.hid (HGN.out.below b8)
        have R8 := Lib.hid r8
        have ND8 := Lib.hid nd8
        have hz8 := b8.size
        have HF8 := Lib.hid (show ∀ y ∈ bs8, y ∉ cb ∧ u12.ownBlock ≠ some y ∧ wo.heap.size ≤ y from fun y hy => by
          have h1 := hge8 y hy
          exact ⟨fun hm => by have := (HGN.out.lt y hm).2; omega, fun e => by have := (HGN.out.own y e).2.1; omega, by omega⟩)
        have hlt8 : ((H.take z).map (fun h' => ints (toI (grpOf us (q : Int) h')))).length ≤ 120 := by rw [List.length_map, List.length_take]; omega
        have B8 := Lib.hid (Grew.of_below b8 u12)
        clear b8 hG8 r8 nd8 hge8
        go_wp2_with (
          at_builtin
          (
          refine wpList_append_growN rfl (.tmp 58) (.tmp 66) _ rfl _ Tryz.underlying91 Tryz.infoInts rfl (by decide) rfl (HN8.out.below ?hbw) rfl (R8.out.below ?hbw2) ND8.out HF8.out ?hc rfl ?h1 ?hlen ?hba ?_
          case hbw => exact bel
          case hbw2 => exact bel
          case hc => intro jj vv hv; rcases jj with _ | jj <;> simp at hv; subst hv; go_simp
          case h1 => simp [Value.oneCell']
          case hlen => omega
          case hba => simp; omega
          intro v9 w9 hG9 hg9))
        rw [← HSN.out] at hG9
        have HG9 := Lib.hid hG9
        have g9 := Lib.hid ((HGV.out.trans B8.out).trans ((Grew.of_below (w := w8) bel u12).trans hg9))
        clear hG9 hg9
        go_wp2
        go_roundw
        case rel => exact ⟨z + 1, _, by omega, by go_num, HG9.out, g9.out⟩
        case measure => simp [intOf]; omega
      have hzz : z = H.length := by omega
      subst hzz
      rw [List.take_length] at HGN
      obtain ⟨AL, cL, bsL, hvL, rL, _, hgeL⟩ := HGN.out.grow.rep
      rw [List.length_map] at hvL rL
      subst hvL
      have RL := Lib.hid (show Rep wr (sls ints LN) [.slice AL LN.length cL] bsL by
        have e1 : H.map (fun h' => ints (toI (grpOf us (q : Int) h'))) = LN.map ints := by rw [HLN.out, List.map_map]; rfl
        have e2 : H.length = LN.length := by rw [HLN.out, List.length_map]
        rw [e1, e2] at rL; exact rL)
      have hLHl : H.length = LN.length := by rw [HLN.out, List.length_map]
      have HHL2 := Lib.hid hLHl
      rw [hLHl]
      have b7v : Below wo.heap.size wo wr := T7.trans (HGV.out.below T7.size (fun y hy => by
        have e : wo.heap.size = y := by simpa [Value.ownBlock] using hy
        omega))
      have HGB := Lib.hid (HG.out.below b7v)
      have HIB := Lib.hid (HIr.out.below b7v)
      have HBV := Lib.hid b7v
      have APL := Lib.hid (show ∀ y ∈ bsL, u9.ownBlock ≠ some y from fun y hy e => by have h1 := (HG.out.own_ge y e).2; have h2 := hgeL y hy; omega)
      have LTL := Lib.hid (show ∀ y ∈ bsL, y < wr.heap.size from Rep.lt _ RL.out)
      obtain ⟨xs, hxs⟩ : ∃ xs, xs = B0 ++ (O.take j).flatMap lf := ⟨_, rfl⟩
      have hxn : xs.length ≤ 3000000 := by rw [hxs, List.length_append]; omega
      have HXS := Lib.hid (show B0 ++ (O.take (j + 1)).flatMap lf = xs ++ turns LN 120 by rw [HFT.out, hxs, List.append_assoc, HLF2.out])
      rw [← hxs] at HGB
      have hzwo : w5.heap.size ≤ wo.heap.size := hzr
      clear hxs rL hgeL b7v hLHl HGN HHv HIv AP7 HH7 HI7 HF7 HL77 HG
      obtain ⟨wb, rfl⟩ : ∃ wb : World, wb = wr := ⟨_, rfl⟩
      obtain ⟨uB, rfl⟩ : ∃ uB : Value, uB = u9 := ⟨_, rfl⟩
      go_wp2
      go_loopw [9, 15] (fun u i wx => ∃ T : Nat, T ≤ 120 ∧ i = .int .i64 T ∧ Grow wx w2.heap.size 3 1 u ((xs ++ turns LN T).map D.int) ∧ Grew wb wx uB u) (fun _ i _ => 121 - (intOf i).toNat)
      case atStart => exact ⟨0, by omega, rfl, by simpa [turns] using HGB.out, Grew.refl _ _⟩
      case round =>
        clear HGB
        obtain ⟨T, hT, rfl, hG, hgr⟩ := hrel
        have HG := Lib.hid hG; clear hG
        have HGX := Lib.hid hgr; clear hgr
        by_cases hTt : T < 120
        case neg =>
          have hTT : T = 120 := by omega
          subst hTT
          have HGF := Lib.hid (show Grow wr w2.heap.size 3 1 u9 ((B0 ++ (O.take (j + 1)).flatMap lf).map D.int) by rw [HXS.out]; exact HG.out)
          have gF := Lib.hid ((HGR.out.trans (Grew.of_below HBV.out _)).trans HGX.out)
          go_wp2
          go_roundw
          case rel => exact ⟨j + 1, by omega, by go_num, HGF.out, gF.out⟩
          case measure => simp [intOf]; omega
        have htl := turns_len LN T
        have htl2 : T * LN.length ≤ 120 * 120 := Nat.mul_le_mul (by omega) (by omega)
        have HTS := Lib.hid (turns_succ LN T)
        have hTd : decide ((T : Int) < 120) = true := decide_eq_true (by omega)
        obtain ⟨wc, rfl⟩ : ∃ wc : World, wc = wr := ⟨_, rfl⟩
        obtain ⟨uC, rfl⟩ : ∃ uC : Value, uC = u9 := ⟨_, rfl⟩
        go_wp2
        go_loopw [9, 16] (fun u i wy => ∃ z : Nat, z ≤ LN.length ∧ i = .int .i64 z ∧ Grow wy w2.heap.size 3 1 u ((xs ++ (turns LN T ++ turn (LN.take z) T)).map D.int) ∧ Grew wb wy uB u) (fun _ i _ => LN.length - (intOf i).toNat)
        case atStart => exact ⟨0, Nat.zero_le _, rfl, by simpa [turn] using HG.out, HGX.out⟩
        case round =>
          clear HG HGX
          obtain ⟨z, hz, rfl, hG, hgr⟩ := hrel
          have HG := Lib.hid hG; clear hG
          have HRv := Lib.hid (RL.out.grew hgr APL.out)
          have hzy := hgr.touch.size
          have HGX := Lib.hid hgr; clear hgr
          by_cases hzt : z < LN.length
          case neg =>
            have hzz : z = LN.length := by omega
            subst hzz
            rw [List.take_length] at HG
            have HG2 := Lib.hid (show Grow wr w2.heap.size 3 1 u9 ((xs ++ turns LN (T + 1)).map D.int) by rw [HTS.out]; exact HG.out)
            clear HG
            go_wp2
            go_roundw
            case rel => exact ⟨T + 1, by omega, by go_num, HG2.out, HGX.out⟩
            case measure => simp [intOf]; omega
          have htn := turn_len (LN.take z) T
          rw [List.length_take] at htn
          obtain ⟨bt, ot, cst, lst, hAt, hblt, hrt, _, hlst, hct⟩ := HRv.out.sls_at (s := 1) (fun _ => rfl) (k := z) hzt
          subst hAt
          obtain ⟨At, ct, hcst⟩ := hrt.ints_form1
          subst hcst
          have kt := (hct 0 _ rfl).1; rw [Nat.add_zero, Nat.mul_one] at kt
          have hlj := HLM.out _ (List.getElem_mem hzt)
          by_cases hTl : T < LN[z].length
          case neg =>
            have HT1 := Lib.hid (turn_take_no hzt hTl)
            clear hct hrt hlst
            obtain ⟨l, hle⟩ : ∃ l, l = LN[z] := ⟨_, rfl⟩
            rw [← hle] at kt hTl hlj
            clear hle
            go_wp2
            go_roundw
            case rel => exact ⟨z + 1, by omega, by go_num, by rw [HT1.out]; exact HG.out, HGX.out⟩
            case measure => simp [intOf]; omega
          have HT1 := Lib.hid (turn_take_yes hzt hTl)
          obtain ⟨bl, ol, hAl, _, hll, hcl, _⟩ := hrt.ints_at (k := T) hTl
          subst hAl
          have hI := Lib.hid (hrt.gi_fit T)
          obtain ⟨v, hv⟩ : ∃ v, v = gi LN[z] T := ⟨_, rfl⟩
          rw [← hv] at hcl hI HT1
          obtain ⟨l, hle⟩ : ∃ l, l = LN[z] := ⟨_, rfl⟩
          rw [← hle] at kt hTl hlj
          clear hct hrt hlst hv hle
          obtain ⟨ys, hys⟩ : ∃ ys, ys = xs ++ (turns LN T ++ turn (LN.take z) T) := ⟨_, rfl⟩
          have hyl : ys.length ≤ 4000000 := by rw [hys, List.length_append, List.length_append]; omega
          have HYS := Lib.hid (show xs ++ (turns LN T ++ turn (LN.take (z + 1)) T) = ys ++ [v] by rw [HT1.out, hys, List.append_assoc, List.append_assoc])
          rw [← hys] at HG
          clear hys
          obtain ⟨Au, cu, hfu, _, _⟩ := HG.out.form
          rw [List.length_map] at hfu
          subst hfu
          have hbz : w2.heap.size ≤ wr.heap.size := by omega
          go_wp2_with (
            at_builtin
            (
            refine wpList_append_more (w0 := wr) (B := w2.heap.size) (xs := ys.map D.int) (ys := [D.int v]) rfl (.tmp 85) (.tmp 93) _ rfl _ Tryz.underlying39 Tryz.infoInt rfl (by decide) rfl HG.out ?hbw rfl (one_newN (N := wr.heap.size) (show Rep _ (D.int v) [.int .i64 v] [] from ⟨rfl, rfl, hI.out⟩) _ (by simp [World.setCell])) ?hys ?hn ?hf ?hlen ?hba ?_
            case hbw => exact bel
            case hys => intro y hy; simp only [List.mem_singleton] at hy; rw [hy]; rfl
            case hn => simp
            case hf => simp
            case hlen => simp; omega
            case hba => exact hbz
            intro v4 w4 hG4 hg4))
          have HG4 := Lib.hid (show Grow _ w2.heap.size 3 1 v4 ((xs ++ (turns LN T ++ turn (LN.take (z + 1)) T)).map D.int) by rw [HYS.out, List.map_append]; exact hG4)
          have g4 := Lib.hid (HGX.out.trans ((Grew.of_below (w := wr) bel _).trans hg4))
          clear hG4 hg4
          go_wp2
          go_roundw
          case rel => exact ⟨z + 1, by omega, by go_num, HG4.out, g4.out⟩
          case measure => simp [intOf]; omega
end Go.Proofs.YtgogjbnneoadkaaGreat
