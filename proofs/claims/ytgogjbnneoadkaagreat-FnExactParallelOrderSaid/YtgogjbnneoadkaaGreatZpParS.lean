/- The reference's ParallelOrder. -/
import Derived.Test.YtgogjbnneoadkaaGreatZpWaveS
import Derived.Test.YtgogjbnneoadkaaGreatZpParI
set_option linter.all false
set_option linter.unusedSimpArgs false
set_option linter.unusedVariables false
namespace Go.Proofs.YtgogjbnneoadkaaGreat
open Go.ChangeShapes Go.WideShapes Go.ChangeAt Go.RowKit Go.Deep

/-- a part of a slice of slices -/
theorem Rep.sls_part {α : Type} {f : α → D} (hs : ∀ x, (f x).size = 1) {w : World} {xs : List α} {A : Option Addr} {n c : Nat} {bs : List Nat} (h : Rep w (sls f xs) [.slice A n c] bs) {k : Nat} (hk : k ≤ xs.length) :
    (∃ b1, Rep w (sls f (xs.take k)) [.slice A k c] b1 ∧ ∀ y ∈ b1, y ∈ bs) ∧ ∀ A', (c ≠ k → A' = A.map fun a => a.add k) → ∃ b2, Rep w (sls f (xs.drop k)) [.slice A' (n - k) (c - k)] b2 ∧ ∀ y ∈ b2, y ∈ bs := by
  obtain ⟨A0, c0, es, cb, he, h1, h2, h3, h4⟩ := h
  simp only [List.cons.injEq, Value.slice.injEq] at he
  obtain ⟨⟨rfl, rfl, rfl⟩, _⟩ := he
  rw [List.length_map] at h1
  have hsz : ∀ x ∈ xs.map f, x.size = 1 := fun x hx => by obtain ⟨y, _, rfl⟩ := List.mem_map.1 hx; exact hs y
  have e1 : xs.map f = (xs.take k).map f ++ (xs.drop k).map f := by rw [← List.map_append, List.take_append_drop]
  rw [e1] at h3
  obtain ⟨ea, eb, la, lb, rfl, rfl, h5, h6⟩ := (Reps_append _ _).1 h3
  have hla : ea.length = k := by rw [Reps.length _ h5, sizes_eq (s := 1) _ (fun x hx => by obtain ⟨y, _, rfl⟩ := List.mem_map.1 hx; exact hs y), List.length_map, List.length_take]; omega
  constructor
  · rcases Nat.eq_zero_or_pos k with h0 | h0
    · subst h0
      exact ⟨[], Rep.sls_nil (f := f) h2, by simp⟩
    · rcases h4 with ⟨h4, _⟩ | ⟨b, o, rfl, rfl, hb, hc⟩
      · rw [List.map_eq_nil_iff] at h4; rw [h4] at hk; simp at hk; omega
      · refine ⟨b :: la, ⟨some ⟨b, o, none⟩, c, ea, la, by simp; omega, by simp; omega, h2, h5, .inr ⟨b, o, rfl, rfl, hb, fun j u hu => hc j u ?_⟩⟩, fun y hy => ?_⟩
        · rw [List.getElem?_append_left (List.getElem?_eq_some_iff.1 hu).1]; exact hu
        · rcases List.mem_cons.1 hy with rfl | hy
          · exact List.mem_cons_self
          · exact List.mem_cons_of_mem _ (List.mem_append_left _ hy)
  · intro A' hA'
    by_cases hx : xs.drop k = []
    · have hkn : xs.length ≤ k := List.drop_eq_nil_iff.1 hx
      rw [hx]
      have e3 : (xs.map f).length - k = 0 := by rw [List.length_map]; omega
      rw [e3]
      exact ⟨[], Rep.sls_nil (f := f) (Nat.le_trans (Nat.sub_le _ _) h2), by simp⟩
    · have hkn : k < xs.length := by
        rcases Nat.lt_or_ge k xs.length with h | h
        · exact h
        · exact absurd (List.drop_eq_nil_of_le h) hx
      rcases h4 with ⟨h4, _⟩ | ⟨b, o, rfl, rfl, hb, hc⟩
      · rw [List.map_eq_nil_iff] at h4; rw [h4] at hkn; simp at hkn
      · have := hA' (by omega)
        subst this
        have ea2 : (some (⟨b, o, none⟩ : Addr)).map (fun a => a.add k) = some ⟨b, o + k, none⟩ := by rw [Option.map_some, add_none]
        rw [ea2]
        refine ⟨b :: lb, ⟨some ⟨b, o + k, none⟩, c - k, eb, lb, by simp, by simp; omega, Nat.le_trans (Nat.sub_le _ _) h2, h6, .inr ⟨b, o + k, rfl, rfl, hb, fun j u hu => ?_⟩⟩, fun y hy => ?_⟩
        · rw [show o + k + j = o + (k + j) by omega]
          refine hc (k + j) u ?_
          rw [List.getElem?_append_right (by omega), hla, Nat.add_sub_cancel_left]
          exact hu
        · rcases List.mem_cons.1 hy with rfl | hy
          · exact List.mem_cons_self
          · exact List.mem_cons_of_mem _ (List.mem_append_right _ hy)
theorem GrowR.made {w : World} {B : Nat} {N : Nat} (hN : w.heap.size = N) (e : TypeId) (size : Nat) (hB : B ≤ N) : GrowR (w.alloc (.cells #[] e)) B e size (.slice (some ⟨N, 0, none⟩) 0 0) [] [] := by
  subst hN
  exact ⟨[], [], World.ownsRow_made w #[] 0 hB (Nat.zero_le _) (by simp), ⟨rfl, rfl⟩, by simp⟩
set_option maxRecDepth 100000 in
set_option maxHeartbeats 1600000 in
theorem specParallelOrder_c {w : World} {p : Pgm} {cs : List Value} {bs : List Nat} {k m : Int} {ch : List Int} {A' : Option Addr} {n' c' : Nat} {bs' : List Nat} (h : Rep w p.d cs bs) (h' : Rep w (ints ch) [.slice A' n' c'] bs') :
    Calls Tryz.prog 19 #[.agg cs.toArray, .int .i64 k, .int .i64 m, .slice A' n' c'] w (MadeIB w (ParallelOrderF p k m ch)) := by
  have HP := Lib.hid h
  have HC := Lib.hid h'; clear h'
  obtain ⟨A1, c1, A2, c2, d1, d2, rfl, rfl, g1, g2⟩ := Rep.pgm_iff.1 h
  have Garrays := Lib.hid g1
  have Gparts := Lib.hid g2
  clear h g1 g2
  have hpn : p.parts.length ≤ 9223372036854775807 := Nat.le_trans Gparts.out.sls_len.2.1 Gparts.out.sls_len.2.2
  go_enter Tryz.func19, Tryz.ntmps19
  go_wp2_with fail
  refine (l8Has_c (HP.out.below bel)).mono ?_
  rintro e w1 ⟨rfl, b1⟩
  have P1 : Box2 w1 w.heap.size (.slice A1 p.arrays.length c1) (.slice A2 p.parts.length c2) := by
    refine ⟨?_, ?_⟩ <;> (rw [b1.cell (by simp [World.setCell]; try omega)]; go_simp)
  have S1 : Below w.heap.size w w1 := bel
  clear b1
  by_cases hok : progOk p = true ∧ loopThere p k m
  case neg =>
    have HX := Lib.hid (show ParallelOrderF p k m ch = ([], false) from if_neg hok)
    have HB := Lib.hid (hasB_no hok)
    rw [HB.out]
    go_wp2
    go_ret2
    rw [HX.out]
    exact ⟨_, 0, _, [], rfl, Rep.ints_nil (Nat.zero_le _), by simp, by simp, bel⟩
  have HB := Lib.hid (hasB_yes hok)
  rw [HB.out]
  have hok2 := hok
  obtain ⟨hv, hl⟩ := hok
  obtain ⟨q, r, hq, rfl, rfl, hr⟩ := loop_there hl
  have hun := progOk_insts hv
  have hpt := insts_ptLen hq
  have HX := Lib.hid (show ParallelOrderF p (q : Int) (r : Int) ch = (toI (idxOf (instsF p) dIn fun a => decide (0 ≤ a.part) && decide (a.part < (q : Int))) ++ (List.range (outerF (instsF p) q r).length).flatMap (fun j => parA ch (((outerF (instsF p) q r).map (lanesF (instsF p) q r)).getD j []).length (cntG ((outerF (instsF p) q r).map (lanesF (instsF p) q r)) j) (((outerF (instsF p) q r).map (lanesF (instsF p) q r)).getD j [])) ++ toI (idxOf (instsF p) dIn fun a => decide ((q : Int) + 1 ≤ a.part) && decide (a.part < (p.parts.length : Int))), true) by
    rw [← par_ord, bef_spec, aft_spec, Int.toNat_natCast, Int.toNat_natCast, grpsF_spec hpt (by omega)]
    unfold ordF
    rw [if_pos hok2, Int.toNat_natCast, Int.toNat_natCast]
    congr 3
    congr 2
    rw [← toI3_len, grpsF_spec hpt (by omega), List.length_map])
  have hcg := (toI3_flatlen (grpsF_ok hv hq r)).2
  rw [grpsF_spec hpt (by omega)] at hcg
  have hq4 : q ≤ 1000 := by have := (progOk_all hv).1; omega
  have hr4 : r ≤ 1000 := by
    have h1 := (progOk_all hv).2.1 _ (List.getElem_mem hq)
    unfold partOk at h1
    simp only [Bool.and_eq_true] at h1
    have := (nest_ok (npF_ok h1.1).1).1
    omega
  clear hok2 hl HB
  go_wp2_with fail
  refine (l4Instances_c (HP.out.below bel) hv).mono ?_
  rintro e w2 ⟨A3, n3, c3, bs3, rfl, r3, _, _, b2⟩
  have s2 : Below w1.heap.size w1 w2 := bel
  have P2 := P1.to s2; clear P1
  have S2 : Below w.heap.size w w2 := below_tr S1 s2
  clear s2
  clear b2
  obtain ⟨rfl, _, _⟩ := r3.sls_len
  obtain ⟨us, hus⟩ : ∃ us, us = instsF p := ⟨_, rfl⟩
  obtain ⟨L, hL⟩ : ∃ L, L = p.parts[q].nest.length := ⟨_, rfl⟩
  rw [← hus] at hun hpt HX r3 hcg ⊢
  rw [← hL] at hpt hr
  clear hus hL
  have HPT := Lib.hid hpt; clear hpt
  have HI2 := Lib.hid r3
  have HB3 := Lib.hid (show ∀ y ∈ bs3, y < w2.heap.size from Rep.lt _ r3)
  clear r3
  have hz2 : w.heap.size < w2.heap.size := lt_of_cell P2.1
  go_wp2_with fail
  refine (l9Parts_c HI2.out hun).mono ?_
  rintro e w3 ⟨v3, rfl, hG3, b3⟩
  have s3 : Below w2.heap.size w2 w3 := bel
  have P3 := P2.to s3; clear P2
  have S3 : Below w.heap.size w w3 := below_tr S2 s3
  clear s3
  have HI3 := Lib.hid (HI2.out.below b3)
  have HG3 := Lib.hid hG3; clear hG3
  have hz3 := b3.size
  clear b3
  go_wp2_with fail
  refine (l9Group_c HI3.out (Rep.ints_nil (A := none) (c := 0) (Nat.zero_le _)) hun (by simp)).mono ?_
  rintro e w4 ⟨v4, rfl, hG4, b4⟩
  have s4 : Below w3.heap.size w3 w4 := bel
  have P4 := P3.to s4; clear P3
  have S4 : Below w.heap.size w w4 := below_tr S3 s4
  clear s4
  have HI4 := Lib.hid (HI3.out.below b4)
  have HG4 := Lib.hid (HG3.out.below b4)
  have hz4 := b4.size
  obtain ⟨A4, c4, bs4, hv4, r4, _, _, _⟩ := hG4.ints
  subst hv4
  clear b4 hG4
  go_wp2_with fail
  refine (l9Heads_c HI4.out r4 hun (Nat.le_trans (grpOf_len _ _ _) hun) (HPT.out.grp (by omega))).mono ?_
  rintro e w5 ⟨A5, n5, c5, bs5, rfl, r5, hb5, b5⟩
  have s5 : Below w4.heap.size w4 w5 := bel
  have P5 := P4.to s5; clear P4
  have S5 : Below w.heap.size w w5 := below_tr S4 s5
  clear s5
  have HIA := Lib.hid (HI4.out.below b5)
  have HGA := Lib.hid (HG4.out.below b5)
  have hz5 := b5.size
  have HL5 := Lib.hid (show ∀ y ∈ bs5, y < w5.heap.size from Rep.lt _ r5)
  have HOWN := Lib.hid (show ∀ y, v3.ownBlock = some y → w2.heap.size ≤ y ∧ y < w3.heap.size from HG3.out.own_ge)
  have HAPA := Lib.hid (show ∀ y ∈ w.heap.size :: (bs3 ++ bs5), v3.ownBlock ≠ some y from fun y hy e => by
    have h1 := HOWN.out y e
    rcases List.mem_cons.1 hy with rfl | hy
    · omega
    · rcases List.mem_append.1 hy with hy | hy
      · have := HB3.out y hy; omega
      · rcases hb5 y hy with h2 | h2
        · have := HB3.out y h2; omega
        · omega)
  have HLT := Lib.hid (show ∀ y ∈ w.heap.size :: (bs3 ++ bs5), y < w5.heap.size from fun y hy => by
    rcases List.mem_cons.1 hy with rfl | hy
    · omega
    · rcases List.mem_append.1 hy with hy | hy
      · have := HB3.out y hy; omega
      · exact HL5.out y hy)
  have HHD := Lib.hid (fun h' hh => HPT.out.head (m := r) (pre := []) (h' := h') (by omega) hh)
  have hol := outerF_len us q r
  obtain ⟨O, hO⟩ : ∃ O, O = headsK (ptK us r) (grpOf us (q : Int) []) := ⟨_, rfl⟩
  rw [show outerF us q r = O from hO.symm] at HX hol hcg
  rw [← hO] at r5 HHD
  obtain ⟨rfl, _, _⟩ := r5.sls_len
  have HOA := Lib.hid r5
  clear r5 hb5 b5 hO r4 HI2 HI3 HG3 HG4 HI4
  obtain ⟨B0, hB0⟩ : ∃ B0, B0 = toI (idxOf us dIn fun a => decide (0 ≤ a.part) && decide (a.part < (q : Int))) := ⟨_, rfl⟩
  have hB0l : B0.length ≤ 120 := by rw [hB0, toI_len]; exact Nat.le_trans (idxOf_len us _) hun
  rw [← hB0] at HGA HX
  clear hB0
  obtain ⟨GI, hGI⟩ : ∃ GI, GI = O.map (lanesF us q r) := ⟨_, rfl⟩
  rw [← hGI] at HX hcg
  obtain ⟨FJ, hFJ⟩ : ∃ FJ : Nat → List Int, FJ = fun j => parA ch (GI.getD j []).length (cntG GI j) (GI.getD j []) := ⟨_, rfl⟩
  rw [← hFJ] at HX
  have HFJ := Lib.hid (show ∀ j, FJ j = parA ch (GI.getD j []).length (cntG GI j) (GI.getD j []) from fun j => by rw [hFJ])
  have HGJ := Lib.hid (show ∀ j (hj : j < O.length), GI.getD j [] = lanesF us q r O[j] from fun j hj => by rw [hGI, List.getD_eq_getElem?_getD, List.getElem?_map, List.getElem?_eq_getElem hj]; rfl)
  have HCS := Lib.hid (show ∀ j (hj : j < O.length), cntG GI (j + 1) = cntG GI j + (lanesF us q r O[j]).length from fun j hj => by
    rw [cntG_succ (by rw [hGI, List.length_map]; exact hj)]; simp [hGI])
  have HCG := Lib.hid (fun j => hcg.1 j)
  have HFL := Lib.hid (show ∀ j, (FJ j).length ≤ 120 from fun j => by
    rw [hFJ]
    show (parA _ _ _ _).length ≤ 120
    rw [parA_len _ _ _ _ rfl]
    by_cases hj : j < GI.length
    · rw [List.getD_eq_getElem?_getD, List.getElem?_eq_getElem hj]; exact hcg.2 j hj
    · rw [List.getD_eq_getElem?_getD, List.getElem?_eq_none (by omega)]; simp)
  clear hGI hFJ hcg
  go_wp2
  go_loopw [11, 13, 14] (fun u nn i wr => ∃ j : Nat, j ≤ O.length ∧ i = .int .i64 j ∧ nn = .int .i64 ((cntG GI j : Nat) : Int) ∧ Grow wr w2.heap.size 3 1 u ((B0 ++ (List.range j).flatMap FJ).map D.int) ∧ Grew w5 wr v3 u) (fun _ _ i _ => O.length - (intOf i).toNat)
  case atStart => exact ⟨0, Nat.zero_le _, rfl, rfl, by simpa using HGA.out, Grew.refl _ _⟩
  case round =>
    clear HGA
    obtain ⟨j, hj, rfl, rfl, hG, hgr⟩ := hrel
    have HG := Lib.hid hG; clear hG
    have Pr := hgr.touch.box2 P5 (fun hm => HAPA.out _ (by simp) (mem_ownL.1 hm))
    have HIr := Lib.hid (HIA.out.grew hgr (fun y hy => HAPA.out y (by simp [hy])))
    have HOr := Lib.hid (HOA.out.grew hgr (fun y hy => HAPA.out y (by simp [hy])))
    have APr := Lib.hid (hgr.apart HAPA.out HLT.out)
    have Sr : Below w.heap.size w wr := S5.trans (hgr.below S5.size (fun y hy => by have := (HOWN.out y hy).1; omega))
    have hzr := hgr.touch.size
    have HGR := Lib.hid hgr; clear hgr
    have hol2 := flatMap_len FJ 120 (List.range j) (fun a _ => HFL.out a)
    rw [List.length_range] at hol2
    have hol3 : j * 120 ≤ 120 * 120 := Nat.mul_le_mul (by omega) (Nat.le_refl _)
    have hcj := HCG.out j
    obtain ⟨nj, hnj⟩ : ∃ nj, nj = cntG GI j := ⟨_, rfl⟩
    have HNJ := Lib.hid hnj
    rw [← hnj] at hcj ⊢
    clear hnj
    by_cases hlt : j < O.length
    case neg =>
      have hjj : j = O.length := by omega
      subst hjj
      obtain ⟨B1, hB1⟩ : ∃ B1, B1 = B0 ++ (List.range O.length).flatMap FJ := ⟨_, rfl⟩
      have hB1l : B1.length ≤ 3000000 := by rw [hB1, List.length_append]; omega
      rw [← hB1] at HG HX
      clear hB1
      go_wp2_with fail
      refine (l9Parts_c (HIr.out.below bel) hun).mono ?_
      rintro e w8 ⟨v8, rfl, hG8, b8⟩
      obtain ⟨A8, c8, bs8, hv8, r8, _, _, _⟩ := hG8.ints
      subst hv8
      have HG8 := Lib.hid (HG.out.below b8)
      have R8 := Lib.hid r8
      have S8 := below_tr Sr b8
      have hl8 := r8.ints_len.1
      have hl9 := ixTo_len us (fun a => decide ((q : Int) + 1 ≤ a.part) && decide (a.part < (p.parts.length : Int))) us.length
      rw [ixTo_all] at hl9
      obtain ⟨C0, hC0⟩ : ∃ C0, C0 = toI (idxOf us dIn fun a => decide ((q : Int) + 1 ≤ a.part) && decide (a.part < (p.parts.length : Int))) := ⟨_, rfl⟩
      have hC0l : C0.length ≤ 120 := by rw [hC0, toI_len]; omega
      rw [← hC0] at HX R8 ⊢
      have hz8 := b8.size
      clear hC0 r8 b8 hG8 hl9 hl8
      go_wp2_with (
        at_builtin
        (
        refine wpList_append_more (w0 := w8) (B := w2.heap.size) (xs := B1.map D.int) (ys := C0.map D.int) rfl (.tmp 80) (.tmp 87) _ rfl _ Tryz.underlying39 Tryz.infoInt rfl (by decide) rfl HG8.out (Below.refl _ _) rfl R8.out ?hys ?hn ?hf ?hlen ?hba ?_
        case hys => intro y hy; obtain ⟨_, _, rfl⟩ := List.mem_map.1 hy; rfl
        case hn => rw [R8.out.ints_tail]; simp
        case hf => rw [R8.out.ints_tail]; simp
        case hlen => simp; omega
        case hba => omega
        intro v9 w9 hG9 hg9))
      have HE := Lib.hid (show Grow w9 w2.heap.size 3 1 v9 ((B1 ++ C0).map D.int) by rw [List.map_append]; exact hG9)
      have S9 : Below w.heap.size w w9 := S8.trans (hg9.below S8.size (fun b hb => by have := (HG8.out.own_ge b hb).1; omega))
      clear hG9 hg9
      go_wp2
      go_ret2
      rw [HX.out]
      exact MadeIB.of_grow (w := w) (b := true) HE.out (by omega) S9
    obtain ⟨bo, oo, cso, lo, hAo, hbo, hro, _, hlo, hco⟩ := HOr.out.sls_at (s := 1) (fun _ => rfl) (k := j) hlt
    subst hAo
    obtain ⟨Ah, cho, hcs⟩ := hro.ints_form1
    subst hcs
    have ko := (hco 0 _ rfl).1; rw [Nat.add_zero, Nat.mul_one] at ko
    have hhl0 := HHD.out _ (List.getElem_mem hlt)
    have HRH := Lib.hid hro
    clear hco hro hlo
    obtain ⟨hd, hhd⟩ : ∃ hd, hd = O[j] := ⟨_, rfl⟩
    have HFT := Lib.hid ((HFJ.out j).trans (by rw [HGJ.out j hlt, ← HNJ.out]))
    have HCN := Lib.hid (HCS.out j hlt)
    rw [← hhd] at ko hhl0 HRH HFT HCN
    have HHL := Lib.hid hhl0
    clear hhd hhl0
    go_wp2_with fail
    refine (l9Group_c HIr.out HRH.out hun (HPT.out.pre (m := r) (by omega) HHL.out)).mono ?_
    rintro e w6 ⟨v6, rfl, hG6, b6⟩
    obtain ⟨A6, c6, bs6, hv6, r6, _, hge6, _⟩ := hG6.ints
    subst hv6
    have HI6 := Lib.hid (HIr.out.below b6)
    have hz6 := b6.size
    go_wp2_with fail
    rw [show ((r : Int) + 1) = ((r + 1 : Nat) : Int) from rfl]
    refine (l9Heads_c HI6.out r6 hun (Nat.le_trans (grpOf_len _ _ _) hun) (HPT.out.grp (by omega))).mono ?_
    rintro e w7 ⟨A7, n7, c7, bs7, rfl, r7, hb7, b7⟩
    have T7 := below_tr b6 b7
    have HI7 := Lib.hid (HI6.out.below b7)
    have HG7 := Lib.hid (HG.out.below T7)
    have hz7 := b7.size
    have HL7 := Lib.hid (show ∀ y ∈ bs7, y < w7.heap.size from Rep.lt _ r7)
    have AP7 := Lib.hid (show ∀ y ∈ bs3 ++ bs7, u11.ownBlock ≠ some y from fun y hy e => by
      rcases List.mem_append.1 hy with hy | hy
      · exact APr.out y (by simp [hy]) e
      · rcases hb7 y hy with h2 | h2
        · exact APr.out y (by simp [h2]) e
        · have := (HG.out.own_ge y e).2; omega)
    have HHE := Lib.hid (fun h' hh => HPT.out.head (m := r + 1) (pre := hd) (h' := h') (by omega) hh)
    have hhn := headsK_len (ptK us (r + 1)) (grpOf us (q : Int) hd)
    have hgn := grpOf_len us (q : Int) hd
    obtain ⟨gf, hgf⟩ : ∃ gf : List Int → List Int, gf = fun h' => toI (grpOf us (q : Int) h') := ⟨_, rfl⟩
    have HGF := Lib.hid (show ∀ h', gf h' = toI (grpOf us (q : Int) h') from fun h' => by rw [hgf])
    have HLN := Lib.hid (show lanesF us q r hd = (headsK (ptK us (r + 1)) (grpOf us (q : Int) hd)).map gf by rw [hgf]; rfl)
    obtain ⟨H, hH⟩ : ∃ H, H = headsK (ptK us (r + 1)) (grpOf us (q : Int) hd) := ⟨_, rfl⟩
    rw [← hH] at r7 HHE HLN hhn
    obtain ⟨rfl, _, _⟩ := r7.sls_len
    have HH7 := Lib.hid r7
    have hHn : H.length ≤ 120 := by omega
    have HF2 := Lib.hid (show parA ch H.length nj (H.map gf) = FJ j by rw [HFT.out, HLN.out, List.length_map])
    have HCN2 := Lib.hid (show cntG GI (j + 1) = nj + H.length by rw [HCN.out, HNJ.out, HLN.out, List.length_map])
    obtain ⟨xs, hxs⟩ : ∃ xs, xs = B0 ++ (List.range j).flatMap FJ := ⟨_, rfl⟩
    have hxn : xs.length ≤ 3000000 := by rw [hxs, List.length_append]; omega
    have HXS := Lib.hid (show B0 ++ (List.range (j + 1)).flatMap FJ = xs ++ FJ j by rw [List.range_succ, List.flatMap_append, hxs, List.append_assoc]; simp)
    have hfl := HFL.out j
    rw [← hxs] at HG7
    have HT7 := Lib.hid T7
    clear hgf hH r7 hb7 hG6 r6 hge6 b6 b7 HI6 hxs T7 HG
    obtain ⟨wo, rfl⟩ : ∃ wo : World, wo = wr := ⟨_, rfl⟩
    obtain ⟨uB, rfl⟩ : ∃ uB : Value, uB = u11 := ⟨_, rfl⟩
    go_wp2
    go_loopw [11, 13, 15] (fun u nn rs wv => ∃ (Hs : List (List Int)) (o : List Int) (e : Nat) (A : Option Addr) (c : Nat) (bsH : List Nat), rs = .slice A Hs.length c ∧ nn = .int .i64 ((nj + e : Nat) : Int) ∧ e + Hs.length = H.length ∧ o ++ parA ch Hs.length (nj + e) (Hs.map gf) = FJ j ∧ (∀ h' ∈ Hs, h'.length = r + 1) ∧ Rep wv (sls ints Hs) [.slice A Hs.length c] bsH ∧ (∀ y ∈ bsH, u.ownBlock ≠ some y) ∧ Grow wv w2.heap.size 3 1 u ((xs ++ o).map D.int) ∧ Grew w7 wv uB u) (fun _ _ rs _ => match rs with | .slice _ m _ => m | _ => 0)
    case atStart => exact ⟨H, [], 0, A7, c7, bs7, rfl, rfl, by omega, by simpa using HF2.out, HHE.out, HH7.out, fun y hy => AP7.out y (by simp [hy]), by simpa using HG7.out, Grew.refl _ _⟩
    case round =>
      clear HG7 HH7
      obtain ⟨Hs, o, e, A, c, bsH, rfl, rfl, he, ho, hhl, hr, hap, hG, hgr⟩ := hrel
      have HG := Lib.hid hG; clear hG
      have HIv := Lib.hid (HI7.out.grew hgr (fun y hy => AP7.out y (by simp [hy])))
      have HRs := Lib.hid hr; clear hr
      have HAP := Lib.hid hap; clear hap
      have HHL2 := Lib.hid hhl; clear hhl
      have hzv := hgr.touch.size
      have HGV := Lib.hid hgr; clear hgr
      have HO := Lib.hid ho
      have hol : o.length + (parA ch Hs.length (nj + e) (Hs.map gf)).length = (FJ j).length := by rw [← ho, List.length_append]
      clear ho
      by_cases hM0 : Hs.length = 0
      case pos =>
        have hHs := List.length_eq_zero_iff.1 hM0
        subst hHs
        have heH : e = H.length := by simpa using he
        have HOE := Lib.hid (show o = FJ j by rw [← HO.out]; simp [parA])
        have HGE := Lib.hid (show Grow wr w2.heap.size 3 1 u11 ((B0 ++ (List.range (j + 1)).flatMap FJ).map D.int) by rw [HXS.out, ← HOE.out]; exact HG.out)
        have gF := Lib.hid ((HGR.out.trans (Grew.of_below HT7.out _)).trans HGV.out)
        have HNE := Lib.hid (show nj + e = cntG GI (j + 1) by rw [HCN2.out, heH])
        rw [HNE.out]
        clear heH he hol hM0
        go_wp2
        go_roundw
        case rel => exact ⟨j + 1, by omega, by go_num, rfl, HGE.out, gF.out⟩
        case measure => simp [intOf]; omega
      obtain ⟨k, hck, hk⟩ := choice_lt ch (nj + e) (m := Hs.length) (by omega)
      have HST := Lib.hid (parA_step ch (gs := Hs.map gf) (n := nj + e) (k := k) (by rw [List.length_map]; exact hk) (by rw [List.length_map]; exact hck))
      have HGX := Lib.hid (show (Hs.map gf)[k]'(by rw [List.length_map]; exact hk) = gf Hs[k] by rw [List.getElem_map])
      obtain ⟨bt, ot, cst, lst, hAt, hblt, hrt, _, hlst, hct⟩ := HRs.out.sls_at (s := 1) (fun _ => rfl) (k := k) hk
      subst hAt
      obtain ⟨At, ct, hcst⟩ := hrt.ints_form1
      subst hcst
      have kt := (hct 0 _ rfl).1; rw [Nat.add_zero, Nat.mul_one] at kt
      have HRX := Lib.hid hrt
      have HXL := Lib.hid (HHL2.out _ (List.getElem_mem hk))
      have hgl3 : (gf Hs[k]).length ≤ 120 := by rw [HGF.out, toI_len]; exact Nat.le_trans (grpOf_len _ _ _) hun
      have HFX := Lib.hid (show o ++ gf Hs[k] ++ parA ch (Hs.eraseIdx k).length (nj + (e + 1)) ((Hs.eraseIdx k).map gf) = FJ j by
        rw [List.append_assoc, ← HO.out]
        have h1 := HST.out
        rw [HGX.out, eraseIdx_map', List.length_map, List.length_map, Nat.add_assoc] at h1
        rw [h1])
      have hol2 : o.length ≤ 120 := by omega
      have HEL := Lib.hid (show (Hs.eraseIdx k).length = Hs.length - 1 by rw [List.length_eraseIdx, if_pos hk])
      have HHE2 := Lib.hid (show ∀ h' ∈ Hs.eraseIdx k, h'.length = r + 1 from fun h' hh => HHL2.out h' ((List.eraseIdx_subset) hh))
      obtain ⟨M, hM⟩ : ∃ M, M = Hs.length := ⟨_, rfl⟩
      obtain ⟨x, hx⟩ : ∃ x, x = Hs[k] := ⟨_, rfl⟩
      obtain ⟨ne, hne⟩ : ∃ ne, ne = nj + e := ⟨_, rfl⟩
      have hnel : ne ≤ 200000 := by omega
      have HCK := Lib.hid (show choiceF ch ne M = (k : Int) by rw [hne, hM]; exact hck)
      have HKM := Lib.hid hM
      have HNE := Lib.hid hne
      have hMp : 0 < M := by omega
      have hM1 : M ≤ 120 := by omega
      have hkM : k < M := by omega
      have heM : e + M = H.length := by omega
      rw [← hx] at HRX HXL kt hgl3 HFX
      have HRM := Lib.hid (show Rep wr (sls ints Hs) [.slice (some ⟨bt, ot, none⟩) M c] bsH by rw [hM]; exact HRs.out)
      rw [← hne, show (Value.slice (some ⟨bt, ot, none⟩) Hs.length c) = Value.slice (some ⟨bt, ot, none⟩) M c by rw [hM]]
      have Sv : Below w.heap.size w wr := (below_tr Sr HT7.out).trans (HGV.out.below (below_tr Sr HT7.out).size (fun y hy => by
        rcases HGR.out.own y hy with h1 | h1
        · have := (HOWN.out y h1).1; omega
        · omega))
      clear hck hx hne hM hol hct hrt hlst HST HGX HRs hk hM0 he
      go_wp2_with fail
      refine (l7Choice_c (HC.out.below Sv) (by omega) hMp (by omega)).mono ?_
      rintro e9 w' ⟨rfl, rfl⟩
      rw [HCK.out]
      go_wp2_with fail
      refine (l9Group_c HIv.out HRX.out hun (HPT.out.pre (m := r + 1) (by omega) HXL.out)).mono ?_
      rintro e9 w8 ⟨v8, rfl, hG8, b8⟩
      obtain ⟨A8, c8, bs8, hv8, r8, _, _, _⟩ := hG8.ints
      subst hv8
      rw [← HGF.out] at r8 ⊢
      have R8 := Lib.hid r8
      have HG8 := Lib.hid (HG.out.below b8)
      have hz8 := b8.size
      have HRM8 := Lib.hid (HRM.out.below b8)
      have B8 := Lib.hid b8
      clear r8 hG8 b8
      go_wp2_with (
        at_builtin
        (
        refine wpList_append_more (w0 := w8) (B := w2.heap.size) (xs := (xs ++ o).map D.int) (ys := (gf x).map D.int) rfl (.tmp 61) (.tmp 68) _ rfl _ Tryz.underlying39 Tryz.infoInt rfl (by decide) rfl HG8.out (Below.refl _ _) rfl R8.out ?hys ?hn ?hf ?hlen ?hba ?_
        case hys => intro y hy; obtain ⟨_, _, rfl⟩ := List.mem_map.1 hy; rfl
        case hn => rw [R8.out.ints_tail]; simp
        case hf => rw [R8.out.ints_tail]; simp
        case hlen => simp; omega
        case hba => omega
        intro v9 w9 hG9 hg9))
      have HG9 := Lib.hid (show Grow w9 w2.heap.size 3 1 v9 ((xs ++ (o ++ gf x)).map D.int) by rw [← List.append_assoc, List.map_append]; exact hG9)
      have hz9 := hg9.touch.size
      have HRM9 := Lib.hid (HRM8.out.grew hg9 HAP.out)
      have AP9 := Lib.hid (hg9.apart HAP.out (Rep.lt _ HRM8.out))
      have G9 := Lib.hid ((HGV.out.trans (Grew.of_below B8.out u11)).trans hg9)
      have hMc : M ≤ c := by have := HRM9.out.sls_len.2.1; exact this
      obtain ⟨⟨b1t, r1t, m1t⟩, _⟩ := HRM9.out.sls_part (fun _ => rfl) (k := k) (by rw [← HKM.out]; omega)
      have RT1 := Lib.hid (show Rep w9 (.sl ((Hs.take k).map ints)) [.slice (some ⟨bt, ot, none⟩) k c] b1t from r1t)
      have M1 := Lib.hid m1t
      have LT1 := Lib.hid (show ∀ y ∈ [] ++ b1t.tail, y < w9.heap.size from fun y hy => Rep.lt _ RT1.out y (List.mem_of_mem_tail (by simpa using hy)))
      obtain ⟨_, hdr⟩ := HRM9.out.sls_part (fun _ => rfl) (k := k + 1) (by rw [← HKM.out]; omega)
      have HDR := Lib.hid hdr
      have hlen1 : (Hs.take k).length ≤ 120 := by rw [List.length_take, ← HKM.out]; omega
      have hlen2 : (Hs.drop (k + 1)).length ≤ 120 := by rw [List.length_drop, ← HKM.out]; omega
      clear hG9 hg9 r1t m1t hdr
      have HWK := Lib.hid (show IntKind.i64.wrap ((k : Int) + 1) = ((k + 1 : Nat) : Int) from (IntWalk.i64_in _ (by omega)).trans rfl)
      have hk0 : (0 ≤ ((k + 1 : Nat) : Int)) = True := eq_true (by omega)
      by_cases hcap : c = k + 1
      · have hMk : M = k + 1 := by omega
        subst hMk
        subst hcap
        have hk5 : (((k + 1 : Nat) : Int) ≤ (k : Int) + 1) = True := eq_true (by omega)
        have hk7 : ((k : Int) ≤ (k : Int) + 1) = True := eq_true (by omega)
        obtain ⟨b2t, r2t, m2t⟩ := HDR.out (some ⟨bt, ot, none⟩) (fun h => absurd rfl h)
        rw [Nat.sub_self] at r2t
        have RT2 := Lib.hid (show Rep w9 (.sl ((Hs.drop (k + 1)).map ints)) [.slice (some ⟨bt, ot, none⟩) 0 0] b2t from r2t)
        have M2 := Lib.hid m2t
        have LT2 := Lib.hid (show ∀ y ∈ b2t.tail, y < w9.heap.size from fun y hy => Rep.lt _ RT2.out y (List.mem_of_mem_tail hy))
        clear r2t m2t
        refine wp_region_noPanic ?_
        refine wp_region_held_drew (S := fun w' => True) (by kernel_rfl) (trivial) (fun hHeld => ?_)
        refine goR 1 hHeld ?_
        refine goR 2 hHeld ?_
        refine takeR (i := 3) (v := ?_) rfl rfl (by kernel_rfl) (by kernel_rfl) (by kernel_rfl) (fun _ _ _ h => h) ?_ hHeld ?_
        rotate_left 1
        · intro w hSw; (try dsimp only at hSw); go_simp
          try simp only [HWK.out, hk0, hk5, hk7, and_self, Nat.sub_self, if_true, if_false, Nat.zero_add, Int.toNat_natCast]
          try with_reducible rfl
        simp only [Act.put, aq0, aq1, aq2]
        refine goR 5 hHeld ?_
        refine goR 6 hHeld ?_
        refine goR 7 hHeld ?_
        refine takeR (i := 8) (v := ?_) rfl rfl (by kernel_rfl) (by kernel_rfl) (by kernel_rfl) (fun _ _ _ h => h) ?_ hHeld ?_
        rotate_left 1
        · intro w hSw; (try dsimp only at hSw); go_simp
          try simp only [HWK.out, hk0, hk5, hk7, and_self, Nat.sub_self, if_true, if_false, Nat.zero_add, Int.toNat_natCast]
          try with_reducible rfl
        simp only [Act.put, aq0, aq1, aq2]
        refine stepR (i := 0) rfl (by kernel_rfl) (wanted_none rfl) (fun K hK => ?_)
        (unfold Oper.wp; go_simp)
        refine hK.out _ _ (trivial) (fun hHeld => ?_)
        clear hK K
        try simp only [Act.put, aq0, aq1, aq2]
        refine stepR (i := 4) rfl (by kernel_rfl) (wanted_none rfl) (fun K hK => ?_)
        (refine wp_append_moreR (B := w9.heap.size) (S := []) (T := b1t.tail) (xs := []) (ys := (Hs.take k).map ints) (.tmp 70) (.tmp 73) _ rfl _ Tryz.underlying91 Tryz.infoInts rfl (by decide) rfl (GrowR.made (by simp) _ _ (Nat.le_refl _)) rfl (RT1.out.below ?q1a) (fun y hy => by obtain ⟨_, _, rfl⟩ := List.mem_map.1 hy; rfl) (List.Sublist.refl _) LT1.out ?q1b ?q1c ?_; (case q1a => exact bel); (case q1b => (simp only [List.length_nil, List.length_map]; omega)); (case q1c => (simp)); intro v10 w10 hG10 hg10; have RT2b := Lib.hid (RT2.out.below (show Below w9.heap.size w9 w10 from Below.trans (b := _) (show Below w9.heap.size w9 _ from bel) (hg10.below (by simp) (fun y hy => by have e0 : w9.heap.size = y := Option.some.inj (show some w9.heap.size = some y from hy); omega)))); have z10 := hg10.touch.size; have o10 := GrowR.own_ge hG10; have B10 := Lib.hid (show Below w9.heap.size w9 w10 from Below.trans (b := _) (show Below w9.heap.size w9 _ from bel) (hg10.below (by simp) (fun y hy => by have e0 : w9.heap.size = y := Option.some.inj (show some w9.heap.size = some y from hy); omega))))
        refine hK.out _ _ (trivial) (fun hHeld => ?_)
        clear hK K
        try simp only [Act.put, aq0, aq1, aq2]
        refine stepR (i := 9) rfl (by kernel_rfl) (wanted_none rfl) (fun K hK => ?_)
        (refine wp_append_moreR (B := w9.heap.size) (T := b2t.tail) (ys := (Hs.drop (k + 1)).map ints) (.tmp 74) (.tmp 78) _ rfl _ Tryz.underlying91 Tryz.infoInts rfl (by decide) rfl hG10 rfl RT2b.out (fun y hy => by obtain ⟨_, _, rfl⟩ := List.mem_map.1 hy; rfl) (List.Sublist.refl _) ?q1d ?q1e ?q1f ?_; (case q1d => (intro y hy; rcases List.mem_append.1 hy with hy | hy; exact LT1.out y (by simpa using hy); exact LT2.out y hy)); (case q1e => (simp only [List.nil_append, List.length_map]; omega)); (case q1f => exact B10.out.size); intro v11 w11 hG11 hg11)
        refine hK.out _ _ (trivial) (fun hHeld => ?_)
        clear hK K
        try simp only [Act.put, aq0, aq1, aq2]
        refine goR 10 hHeld ?_
        refine wpAnyH_done (by kernel_rfl) ?_ _
        refine NoPanic.normal ?_
        have e9 : (Hs.take k).map ints ++ (Hs.drop (k + 1)).map ints = (Hs.eraseIdx k).map ints := by rw [List.eraseIdx_eq_take_drop_succ, List.map_append]
        rw [List.nil_append, e9] at hG11
        obtain ⟨A9, c9, bs9, hv9, r9, hT9, hh9⟩ := hG11.rep
        rw [List.length_map] at hv9 r9
        subst hv9
        have R11 := Lib.hid (show Rep w11 (sls ints (Hs.eraseIdx k)) [.slice A9 (Hs.eraseIdx k).length c9] bs9 from r9)
        have B11 : Below w9.heap.size w9 w11 := B10.out.trans (hg11.below B10.out.size (fun y hy => (o10 y hy).1))
        have HG11 := Lib.hid (HG9.out.below B11)
        have AP11 := Lib.hid (show ∀ y ∈ bs9, v9.ownBlock ≠ some y from fun y hy e0 => by
          have hlt9 := (HG9.out.own_ge y e0).2
          rcases bs9 with _ | ⟨y0, ys⟩
          · cases hy
          · rcases List.mem_cons.1 hy with rfl | hy
            · have := hh9 y (by simp); omega
            · have h2 := hT9.subset hy
              rcases List.mem_append.1 h2 with h2 | h2
              · rcases List.mem_append.1 h2 with h2 | h2
                · cases h2
                · exact AP9.out y (M1.out y (List.mem_of_mem_tail h2)) e0
              · exact AP9.out y (M2.out y (List.mem_of_mem_tail h2)) e0)
        have G11 := Lib.hid (G9.out.trans (Grew.of_below B11 v9))
        have HNE2 := Lib.hid (show ne + 1 = nj + (e + 1) by rw [HNE.out, Nat.add_assoc])
        have HFX2 := Lib.hid (show (o ++ gf x) ++ parA ch (Hs.eraseIdx k).length (nj + (e + 1)) ((Hs.eraseIdx k).map gf) = FJ j from HFX.out)
        have hEL := HEL.out
        rw [← HKM.out] at hEL
        have HEL2 := Lib.hid hEL
        clear hG11 hg11 r9 B11 hG10 hg10 hEL
        go_wp2
        go_roundw
        case rel => exact ⟨Hs.eraseIdx k, o ++ gf x, e + 1, A9, c9, bs9, rfl, by rw [← HNE2.out]; go_num, by rw [HEL2.out]; omega, HFX2.out, HHE2.out, R11.out, AP11.out, HG11.out, G11.out⟩
        case measure => simp; rw [HEL2.out]; omega
      · have hcf : (c = k + 1) = False := eq_false hcap
        have hk1 : (k ≤ c) = True := eq_true (by omega)
        have hk2 : (k + 1 ≤ M) = True := eq_true (by omega)
        have hk6 : (((k + 1 : Nat) : Int) ≤ (M : Int)) = True := eq_true (by omega)
        obtain ⟨b2t, r2t, m2t⟩ := HDR.out (some ⟨bt, ot + (k + 1), none⟩) (fun _ => by rw [Option.map_some, add_none])
        have RT2 := Lib.hid (show Rep w9 (.sl ((Hs.drop (k + 1)).map ints)) [.slice (some ⟨bt, ot + (k + 1), none⟩) (M - (k + 1)) (c - (k + 1))] b2t from r2t)
        have M2 := Lib.hid m2t
        have LT2 := Lib.hid (show ∀ y ∈ b2t.tail, y < w9.heap.size from fun y hy => Rep.lt _ RT2.out y (List.mem_of_mem_tail hy))
        clear r2t m2t
        refine wp_region_noPanic ?_
        refine wp_region_held_drew (S := fun w' => True) (by kernel_rfl) (trivial) (fun hHeld => ?_)
        refine goR 1 hHeld ?_
        refine goR 2 hHeld ?_
        refine takeR (i := 3) (v := ?_) rfl rfl (by kernel_rfl) (by kernel_rfl) (by kernel_rfl) (fun _ _ _ h => h) ?_ hHeld ?_
        rotate_left 1
        · intro w hSw; (try dsimp only at hSw); go_simp
          try simp only [HWK.out, hk0, hk1, hk2, hk6, hcf, and_self, if_true, if_false, Nat.zero_add, Int.toNat_natCast]
          try with_reducible rfl
        simp only [Act.put, aq0, aq1, aq2]
        refine goR 5 hHeld ?_
        refine goR 6 hHeld ?_
        refine goR 7 hHeld ?_
        refine takeR (i := 8) (v := ?_) rfl rfl (by kernel_rfl) (by kernel_rfl) (by kernel_rfl) (fun _ _ _ h => h) ?_ hHeld ?_
        rotate_left 1
        · intro w hSw; (try dsimp only at hSw); go_simp
          try simp only [HWK.out, hk0, hk1, hk2, hk6, hcf, and_self, if_true, if_false, Nat.zero_add, Int.toNat_natCast]
          try with_reducible rfl
        simp only [Act.put, aq0, aq1, aq2]
        refine stepR (i := 0) rfl (by kernel_rfl) (wanted_none rfl) (fun K hK => ?_)
        (unfold Oper.wp; go_simp)
        refine hK.out _ _ (trivial) (fun hHeld => ?_)
        clear hK K
        try simp only [Act.put, aq0, aq1, aq2]
        refine stepR (i := 4) rfl (by kernel_rfl) (wanted_none rfl) (fun K hK => ?_)
        (refine wp_append_moreR (B := w9.heap.size) (S := []) (T := b1t.tail) (xs := []) (ys := (Hs.take k).map ints) (.tmp 70) (.tmp 73) _ rfl _ Tryz.underlying91 Tryz.infoInts rfl (by decide) rfl (GrowR.made (by simp) _ _ (Nat.le_refl _)) rfl (RT1.out.below ?q2a) (fun y hy => by obtain ⟨_, _, rfl⟩ := List.mem_map.1 hy; rfl) (List.Sublist.refl _) LT1.out ?q2b ?q2c ?_; (case q2a => exact bel); (case q2b => (simp only [List.length_nil, List.length_map]; omega)); (case q2c => (simp)); intro v10 w10 hG10 hg10; have RT2b := Lib.hid (RT2.out.below (show Below w9.heap.size w9 w10 from Below.trans (b := _) (show Below w9.heap.size w9 _ from bel) (hg10.below (by simp) (fun y hy => by have e0 : w9.heap.size = y := Option.some.inj (show some w9.heap.size = some y from hy); omega)))); have z10 := hg10.touch.size; have o10 := GrowR.own_ge hG10; have B10 := Lib.hid (show Below w9.heap.size w9 w10 from Below.trans (b := _) (show Below w9.heap.size w9 _ from bel) (hg10.below (by simp) (fun y hy => by have e0 : w9.heap.size = y := Option.some.inj (show some w9.heap.size = some y from hy); omega))))
        refine hK.out _ _ (trivial) (fun hHeld => ?_)
        clear hK K
        try simp only [Act.put, aq0, aq1, aq2]
        refine stepR (i := 9) rfl (by kernel_rfl) (wanted_none rfl) (fun K hK => ?_)
        (refine wp_append_moreR (B := w9.heap.size) (T := b2t.tail) (ys := (Hs.drop (k + 1)).map ints) (.tmp 74) (.tmp 78) _ rfl _ Tryz.underlying91 Tryz.infoInts rfl (by decide) rfl hG10 rfl RT2b.out (fun y hy => by obtain ⟨_, _, rfl⟩ := List.mem_map.1 hy; rfl) (List.Sublist.refl _) ?q2d ?q2e ?q2f ?_; (case q2d => (intro y hy; rcases List.mem_append.1 hy with hy | hy; exact LT1.out y (by simpa using hy); exact LT2.out y hy)); (case q2e => (simp only [List.nil_append, List.length_map]; omega)); (case q2f => exact B10.out.size); intro v11 w11 hG11 hg11)
        refine hK.out _ _ (trivial) (fun hHeld => ?_)
        clear hK K
        try simp only [Act.put, aq0, aq1, aq2]
        refine goR 10 hHeld ?_
        refine wpAnyH_done (by kernel_rfl) ?_ _
        refine NoPanic.normal ?_
        have e9 : (Hs.take k).map ints ++ (Hs.drop (k + 1)).map ints = (Hs.eraseIdx k).map ints := by rw [List.eraseIdx_eq_take_drop_succ, List.map_append]
        rw [List.nil_append, e9] at hG11
        obtain ⟨A9, c9, bs9, hv9, r9, hT9, hh9⟩ := hG11.rep
        rw [List.length_map] at hv9 r9
        subst hv9
        have R11 := Lib.hid (show Rep w11 (sls ints (Hs.eraseIdx k)) [.slice A9 (Hs.eraseIdx k).length c9] bs9 from r9)
        have B11 : Below w9.heap.size w9 w11 := B10.out.trans (hg11.below B10.out.size (fun y hy => (o10 y hy).1))
        have HG11 := Lib.hid (HG9.out.below B11)
        have AP11 := Lib.hid (show ∀ y ∈ bs9, v9.ownBlock ≠ some y from fun y hy e0 => by
          have hlt9 := (HG9.out.own_ge y e0).2
          rcases bs9 with _ | ⟨y0, ys⟩
          · cases hy
          · rcases List.mem_cons.1 hy with rfl | hy
            · have := hh9 y (by simp); omega
            · have h2 := hT9.subset hy
              rcases List.mem_append.1 h2 with h2 | h2
              · rcases List.mem_append.1 h2 with h2 | h2
                · cases h2
                · exact AP9.out y (M1.out y (List.mem_of_mem_tail h2)) e0
              · exact AP9.out y (M2.out y (List.mem_of_mem_tail h2)) e0)
        have G11 := Lib.hid (G9.out.trans (Grew.of_below B11 v9))
        have HNE2 := Lib.hid (show ne + 1 = nj + (e + 1) by rw [HNE.out, Nat.add_assoc])
        have HFX2 := Lib.hid (show (o ++ gf x) ++ parA ch (Hs.eraseIdx k).length (nj + (e + 1)) ((Hs.eraseIdx k).map gf) = FJ j from HFX.out)
        have hEL := HEL.out
        rw [← HKM.out] at hEL
        have HEL2 := Lib.hid hEL
        clear hG11 hg11 r9 B11 hG10 hg10 hEL
        go_wp2
        go_roundw
        case rel => exact ⟨Hs.eraseIdx k, o ++ gf x, e + 1, A9, c9, bs9, rfl, by rw [← HNE2.out]; go_num, by rw [HEL2.out]; omega, HFX2.out, HHE2.out, R11.out, AP11.out, HG11.out, G11.out⟩
        case measure => simp; rw [HEL2.out]; omega
end Go.Proofs.YtgogjbnneoadkaaGreat
