/- Distances of the reference: l6Add. -/
import Derived.Test.YtpmgmekbnbligaaGreatZdDstS
import Derived.Deep.DeepCutAuto
set_option linter.all false
set_option linter.unusedSimpArgs false
set_option linter.unusedVariables false
namespace Go.Proofs.YtpmgmekbnbligaaGreat
open Go.ChangeShapes Go.WideShapes Go.ChangeAt Go.RowKit Go.Deep

set_option maxRecDepth 100000 in
set_option maxHeartbeats 4000000 in
theorem l6Add_c {w : World} {B : Nat} {v : Value} {T : List Tri} {d : Tri} (h : GrowT w B 27 v T) (hd : d.ok w) (hnd : (ownL v ++ (TriB T ++ d.b)).Nodup) (hdB : ∀ y ∈ d.b, B ≤ y) (hB : B ≤ w.heap.size) (hl : T.length ≤ 100000) :
    Calls Tryz.prog 55 #[v, d.e] w fun e w' => ∃ v' T', e = .returned v' ∧ T'.map Tri.x = addL (T.map Tri.x) d.x ∧ GrowT w' B 27 v' T' ∧ Below w.heap.size w w' := by
  obtain ⟨A, c, rfl, hc1, hc2⟩ := h.form
  obtain ⟨Ad, cd, hde⟩ := hd.form
  have hnT : T.length ≤ 9223372036854775807 := by omega
  have HG := Lib.hid h
  have HD := Lib.hid hd
  have HND := Lib.hid (List.nodup_append.1 hnd).2.1
  have HDB := Lib.hid hdB
  have hrep := h.rep
  obtain ⟨A', c', bs0, hA, hR, _, _⟩ := hrep
  simp only [Value.slice.injEq, true_and] at hA
  obtain ⟨rfl, rfl⟩ := hA
  have HR := Lib.hid hR
  obtain ⟨n, hn⟩ : ∃ n, n = T.length := ⟨_, rfl⟩
  have HN := Lib.hid hn
  rw [← hn] at HG HR hnT hl ⊢
  obtain ⟨ld, hld⟩ : ∃ l, l = d.x.length := ⟨_, rfl⟩
  have HLD := Lib.hid hld
  rw [hde, ← hld]
  have HDE := Lib.hid (show d.e = .slice Ad ld cd by rw [hde, hld])
  have HG0 := Lib.hid (GrowT.made w (B := B) 27 rfl hB)
  have HR0 := Lib.hid (show Rep w (ints d.x) [.slice Ad ld cd] d.b from HDE.out ▸ HD.out)
  have HOWN := Lib.hid (fun y (hy : y ∈ TriB T ++ d.b) => (show y < w.heap.size by
    rcases List.mem_append.1 hy with hy | hy
    · exact h.lt y hy
    · exact Rep.lt _ hd y hy))
  clear h hd hnd hdB hR hn hc1 hc2 hde hld
  go_enter Tryz.func55, Tryz.ntmps55
  go_wp2
  go_loopw [5, 6, 7] (fun u b i wr => ∃ j : Nat, j ≤ n ∧ i = .int .i64 j ∧ b = .bool (dnT d (T.take j)) ∧ Hid (d.x ∉ (T.take j).map Tri.x) ∧ Hid (GrowT wr B 27 u (outT d (T.take j)) ∧ Grew (w.alloc (.cells #[] 27)) wr (.slice (some ⟨w.heap.size, 0, none⟩) 0 0) u)) (fun _ _ i _ => n - (intOf i).toNat)
  case atStart => exact ⟨0, Nat.zero_le _, rfl, rfl, Lib.hid (by simp), Lib.hid ⟨HG0.out, Grew.refl _ _⟩⟩
  case round =>
    obtain ⟨j, hj, rfl, rfl, HM, HT⟩ := hrel
    have hbw : Below w.heap.size w wr := ((Below.refl _ _).alloc (Nat.le_refl _) _).trans (HT.out.2.below (by simp) (fun b hb => by simp [Value.ownBlock] at hb; omega))
    -- GEN
    have HBW := Lib.hid hbw
    have OWN := Lib.hid (fun y (hy : y ∈ ownL u5) => (show w.heap.size ≤ y by
      rcases HT.out.2.own y (mem_ownL.1 hy) with h | h
      · simp [Value.ownBlock] at h; omega
      · simp at h; omega))
    obtain ⟨Au, cu, hfu, _, _⟩ := HT.out.1.form
    obtain ⟨lo, hlo⟩ : ∃ l, l = (outT d (T.take j)).length := ⟨_, rfl⟩
    rw [← hlo] at hfu
    subst hfu
    have HLO := Lib.hid hlo
    clear hbw HG0 hlo
    by_cases hlt : j < n
    · have hltz : (j : Int) < (n : Int) := by omega
      have hjT : j < T.length := by have := HN.out; omega
      obtain ⟨g, rfl, hV, hgB, hgl⟩ := HG.out.some HN.out.symm (by omega)
      have okj := Lib.hid (HG.out.ok _ (List.getElem_mem hjT))
      obtain ⟨A1, c1, e1⟩ := okj.out.form
      obtain ⟨l1, hl1⟩ : ∃ l, l = T[j].x.length := ⟨_, rfl⟩
      rw [← hl1] at e1
      have HE1 := Lib.hid e1
      have hcj := (HBW.out.cell (p := ⟨g, j, none⟩) hgl).trans (hV.cell (i := j) (by simpa using hjT))
      rw [List.getElem_map, e1] at hcj
      have OKJ := Lib.hid (okj.out.below HBW.out)
      have OKD := Lib.hid (HD.out.below HBW.out)
      have HEQ := Lib.hid (l1Ints_c (okAs OKJ.out e1) (okAs OKD.out HDE.out))
      have HTK := Lib.hid (List.take_succ_eq_append_getElem hjT)
      have hmj : T[j].x ∈ T.map Tri.x := List.mem_map_of_mem (List.getElem_mem hjT)
      have NDJ := Lib.hid (HTK.out ▸ triB_take_nd HND.out (j + 1) : (TriB (T.take j ++ [T[j]]) ++ d.b).Nodup)
      have NDT := Lib.hid (triB_take_nd HND.out j)
      have JLT := Lib.hid (fun y (hy : y ∈ T[j].b) => HOWN.out y (List.mem_append_left _ (triB_mem.2 ⟨_, List.getElem_mem hjT, hy⟩)))
      have JGE := Lib.hid (fun y (hy : y ∈ T[j].b) => HG.out.ge y (triB_mem.2 ⟨_, List.getElem_mem hjT, hy⟩))
      have DLT := Lib.hid (fun y (hy : y ∈ d.b) => HOWN.out y (List.mem_append_right _ hy))
      have JND := Lib.hid (show T[j].b.Nodup from (by
        have := NDJ.out
        rw [triB_snoc, List.append_assoc] at this
        exact (List.nodup_append.1 (List.nodup_append.1 this).2.1).1))
      have DND := Lib.hid (List.nodup_append.1 HND.out).2.1
      have FARJ := Lib.hid (outT_far NDJ.out)
      by_cases heq : T[j].x = d.x
      · have hd1 : decide (T[j].x = d.x) = true := decide_eq_true heq
        have HAD := Lib.hid (show addL (T.map Tri.x) d.x = T.map Tri.x by unfold addL; rw [if_pos (heq ▸ hmj)])
        rw [hd1] at HEQ
        clear hd1 heq hmj hl1 hV e1
        go_wp2_with fail
        refine HEQ.out.mono ?_
        rintro e w3 ⟨rfl, nq, rfl⟩
        go_wp2
        go_ret
        exact ⟨_, T, rfl, HAD.out.symm, (HG.out.below HBW.out).below (below_drewN (Below.refl _ _) nq), below_drewN HBW.out nq⟩
      · have hd1 : decide (T[j].x = d.x) = false := decide_eq_false heq
        have HM2 := Lib.hid (show d.x ∉ (T.take (j + 1)).map Tri.x by
          rw [HTK.out, List.map_append]
          intro hm
          rcases List.mem_append.1 hm with hm | hm
          · exact HM.out hm
          · simp only [List.map_cons, List.map_nil, List.mem_singleton] at hm; exact heq hm.symm)
        rw [hd1] at HEQ
        clear hd1 heq hmj hl1 hV e1
        go_wp2_with fail
        refine HEQ.out.mono ?_
        rintro e w3 ⟨rfl, nq, rfl⟩
        have hcj3 : (wr.drewN nq).cell? ⟨g, j, none⟩ = some (.slice A1 l1 c1) := hcj
        have HT3 := Lib.hid (And.intro (HT.out.1.below (below_drewN (Below.refl _ _) nq)) (HT.out.2.trans (Grew.of_below (below_drewN (Below.refl _ _) nq) _)))
        have B3 := Lib.hid (below_drewN HBW.out nq)
        have OKJ3 := Lib.hid (okj.out.below B3.out)
        have OKD3 := Lib.hid (HD.out.below B3.out)
        clear hcj HEQ OKJ OKD HT HBW
        generalize wr.drewN nq = wq at hcj3 HT3 B3 OKJ3 OKD3 ⊢
        have HLL := Lib.hid (specLexLess_c (okAs OKD3.out HDE.out) (okAs OKJ3.out HE1.out))
        cases hdn : dnT d (T.take j) with
        | true =>
          have HO := Lib.hid (outT_dn hdn T[j])
          have HDN := Lib.hid (show dnT d (T.take (j + 1)) = true by rw [HTK.out, dnT_snoc, hdn]; rfl)
          clear hdn
          have hz4 : B ≤ (wq).heap.size := by have := HT3.out.2.touch.size; simp at this; omega
          have b4 : Below (wq).heap.size (wq) ((wq).alloc (.cells #[.slice A1 l1 c1] 27)) := (Below.refl _ _).alloc (Nat.le_refl _) _
          go_wp2_with (
            at_builtin
            refine wpList_append_T (B := B) (e := 27) (T := outT d (T.take j)) (d := T[j]) rfl (.tmp 36) (.tmp 41) _ rfl _ Tryz.underlying39 Tryz.infoInts rfl rfl (HT3.out.1.below b4) rfl (by rw [HE1.out]; go_simp) (OKJ3.out.below b4) JND.out (fun y hy hm => by
              rcases List.mem_append.1 hm with hm | hm
              · have := OWN.out y hm; have := JLT.out y hy; omega
              · exact FARJ.out y hy hm) JGE.out (by have := outT_len d (T.take j); rw [List.length_take] at this; omega) (by simp; omega) ?_
            intro v4 w4 hG4 hg4)
          have HP4 := Lib.hid (And.intro hG4 (HT3.out.2.trans (hg4.after b4)))
          clear hG4 hg4
          have HF := Lib.hid (show GrowT w4 B 27 v4 (outT d (T.take (j + 1))) by rw [HTK.out, HO.out]; exact HP4.out.1)
          go_wp2
          go_roundw
          case rel => exact ⟨j + 1, by omega, by go_num, by rw [HDN.out], HM2, Lib.hid ⟨HF.out, HP4.out.2⟩⟩
          case measure => simp [intOf]; omega
        | false =>
          have HDF := Lib.hid hdn
          have FARD := Lib.hid (outT_farD hdn NDT.out)
          by_cases hlv : cmpL d.x T[j].x < 0
          · have HLV := Lib.hid (show LexLessF d.x T[j].x = true from decide_eq_true hlv)
            rw [HLV.out] at HLL
            have HO := Lib.hid (outT_now hdn hlv)
            have HDN := Lib.hid (show dnT d (T.take (j + 1)) = true by rw [HTK.out, dnT_snoc, hdn, decide_eq_true hlv]; rfl)
            clear hdn hlv
            go_wp2_with fail
            refine HLL.out.mono ?_
            rintro e w3 ⟨rfl, mq, rfl⟩
            have hcj4 : (wq.drewN mq).cell? ⟨g, j, none⟩ = some (.slice A1 l1 c1) := hcj3
            have HT4 := Lib.hid (And.intro (HT3.out.1.below (below_drewN (Below.refl _ _) mq)) (HT3.out.2.trans (Grew.of_below (below_drewN (Below.refl _ _) mq) _)))
            have B4 := Lib.hid (below_drewN B3.out mq)
            have OKD4 := Lib.hid (HD.out.below B4.out)
            clear hcj3 HLL OKJ3 OKD3 HT3 B3
            generalize wq.drewN mq = wp at hcj4 HT4 B4 OKD4 ⊢
            have FAR5 := Lib.hid (show ∀ y ∈ T[j].b, y ∉ TriB (outT d (T.take j) ++ [d]) from fun y hy hm => by
              rw [triB_snoc] at hm
              rcases List.mem_append.1 hm with hm | hm
              · exact FARJ.out y hy hm
              · have := NDJ.out
                rw [triB_snoc, List.append_assoc] at this
                exact (List.nodup_append.1 (List.nodup_append.1 this).2.1).2.2 y hy y hm rfl)
            have hz4 : B ≤ wp.heap.size := by have := HT4.out.2.touch.size; simp at this; omega
            have b4 : Below wp.heap.size wp (wp.alloc (.cells #[.slice Ad ld cd] 27)) := (Below.refl _ _).alloc (Nat.le_refl _) _
            go_wp2_with (first
              | (at_builtin
                 refine wpList_append_T (B := B) (e := 27) (T := outT d (T.take j)) (d := d) rfl (.tmp 32) (.tmp 34) _ rfl _ Tryz.underlying39 Tryz.infoInts rfl rfl (HT4.out.1.below b4) rfl (by rw [HDE.out]; go_simp) (OKD4.out.below b4) DND.out (fun y hy hm => by
                     rcases List.mem_append.1 hm with hm | hm
                     · have := OWN.out y hm; have := DLT.out y hy; omega
                     · exact FARD.out y hy hm) HDB.out (by have := outT_len d (T.take j); rw [List.length_take] at this; omega) (by simp; omega) ?_
                 intro v4 w4 hG4 hg4
                 have HP4 := Lib.hid (And.intro hG4 (HT4.out.2.trans (hg4.after b4)))
                 clear hG4 hg4
                 have B5 := Lib.hid (show Below w.heap.size w w4 from ((Below.refl _ _).alloc (Nat.le_refl _) _).trans (HP4.out.2.below (by simp) (fun b hb => by simp [Value.ownBlock] at hb; omega)))
                 have hcj5 := (B5.out.cell (p := ⟨g, j, none⟩) hgl).trans ((B4.out.cell (p := ⟨g, j, none⟩) hgl).symm.trans hcj4)
                 have OKJ5 := Lib.hid (okj.out.below B5.out)
                 have OWN5 := Lib.hid (fun y (hy : y ∈ ownL v4) => (show w.heap.size ≤ y by
                   rcases HP4.out.2.own y (mem_ownL.1 hy) with h | h
                   · simp [Value.ownBlock] at h; omega
                   · simp at h; omega))
                 have hz5 : B ≤ w4.heap.size := by have := HP4.out.2.touch.size; simp at this; omega
                 have b5 : Below w4.heap.size w4 (w4.alloc (.cells #[.slice A1 l1 c1] 27)) := (Below.refl _ _).alloc (Nat.le_refl _) _
                 clear hcj4)
              | (at_builtin
                 refine wpList_append_T (B := B) (e := 27) (T := outT d (T.take j) ++ [d]) (d := T[j]) rfl (.tmp 36) (.tmp 41) _ rfl _ Tryz.underlying39 Tryz.infoInts rfl rfl (HP4.out.1.below b5) rfl (by rw [HE1.out]; go_simp) (OKJ5.out.below b5) JND.out (fun y hy hm => by
                    rcases List.mem_append.1 hm with hm | hm
                    · have := OWN5.out y hm; have := JLT.out y hy; omega
                    · exact FAR5.out y hy hm) JGE.out (by have := outT_len d (T.take j); rw [List.length_take] at this; rw [List.length_append, List.length_singleton]; omega) (by simp; omega) ?_
                 intro v5 w5 hG5 hg5
                 have HP5 := Lib.hid (And.intro hG5 (HP4.out.2.trans (hg5.after b5)))
                 clear hG5 hg5))
            have HF := Lib.hid (show GrowT w5 B 27 v5 (outT d (T.take (j + 1))) by rw [HTK.out, HO.out]; exact HP5.out.1)
            go_wp2
            go_roundw
            case rel => exact ⟨j + 1, by omega, by go_num, by rw [HDN.out], HM2, Lib.hid ⟨HF.out, HP5.out.2⟩⟩
            case measure => simp [intOf]; omega
          · have HLV := Lib.hid (show LexLessF d.x T[j].x = false from decide_eq_false hlv)
            rw [HLV.out] at HLL
            have HO := Lib.hid (outT_not hdn hlv)
            have HDN := Lib.hid (show dnT d (T.take (j + 1)) = false by rw [HTK.out, dnT_snoc, hdn, decide_eq_false hlv]; rfl)
            clear hdn hlv
            go_wp2_with fail
            refine HLL.out.mono ?_
            rintro e w3 ⟨rfl, mq, rfl⟩
            have hcj4 : (wq.drewN mq).cell? ⟨g, j, none⟩ = some (.slice A1 l1 c1) := hcj3
            have HT4 := Lib.hid (And.intro (HT3.out.1.below (below_drewN (Below.refl _ _) mq)) (HT3.out.2.trans (Grew.of_below (below_drewN (Below.refl _ _) mq) _)))
            have B4 := Lib.hid (below_drewN B3.out mq)
            have OKJ4 := Lib.hid (okj.out.below B4.out)
            clear hcj3 HLL OKJ3 OKD3 HT3 B3
            generalize wq.drewN mq = wp at hcj4 HT4 B4 OKJ4 ⊢
            have hz6 : B ≤ (wp).heap.size := by have := HT4.out.2.touch.size; simp at this; omega
            have b6 : Below (wp).heap.size (wp) ((wp).alloc (.cells #[.slice A1 l1 c1] 27)) := (Below.refl _ _).alloc (Nat.le_refl _) _
            go_wp2_with (
              at_builtin
              refine wpList_append_T (B := B) (e := 27) (T := outT d (T.take j)) (d := T[j]) rfl (.tmp 36) (.tmp 41) _ rfl _ Tryz.underlying39 Tryz.infoInts rfl rfl (HT4.out.1.below b6) rfl (by rw [HE1.out]; go_simp) (OKJ4.out.below b6) JND.out (fun y hy hm => by
                rcases List.mem_append.1 hm with hm | hm
                · have := OWN.out y hm; have := JLT.out y hy; omega
                · exact FARJ.out y hy hm) JGE.out (by have := outT_len d (T.take j); rw [List.length_take] at this; omega) (by simp; omega) ?_
              intro v6 w6 hG6 hg6)
            have HP6 := Lib.hid (And.intro hG6 (HT4.out.2.trans (hg6.after b6)))
            clear hG6 hg6
            have HF := Lib.hid (show GrowT w6 B 27 v6 (outT d (T.take (j + 1))) by rw [HTK.out, HO.out]; exact HP6.out.1)
            go_wp2
            go_roundw
            case rel => exact ⟨j + 1, by omega, by go_num, by rw [HDN.out], HM2, Lib.hid ⟨HF.out, HP6.out.2⟩⟩
            case measure => simp [intOf]; omega
    · have hltz : ¬ (j : Int) < (n : Int) := by omega
      have hjn : T.take j = T := List.take_of_length_le (by have := HN.out; omega)
      rw [hjn] at HT HM HLO ⊢
      have HNM := Lib.hid (show addL (T.map Tri.x) d.x = putL d.x (T.map Tri.x) by unfold addL; rw [if_neg HM.out])
      have OKD := Lib.hid (HD.out.below HBW.out)
      have DLT := Lib.hid (fun y (hy : y ∈ d.b) => HOWN.out y (List.mem_append_right _ hy))
      have DND := Lib.hid (List.nodup_append.1 HND.out).2.1
      cases hdn : dnT d T with
      | true =>
        have HO := Lib.hid (show outT d T = putT d T by unfold outT; rw [hdn, if_pos rfl])
        clear hdn
        go_wp2
        go_ret
        first | exact ⟨_, rfl, outT d T, by rw [HNM.out, HO.out, putT_x], HT.out.1, HBW.out⟩ | exact ⟨_, outT d T, rfl, by rw [HNM.out, HO.out, putT_x], HT.out.1, HBW.out⟩
      | false =>
        have HO := Lib.hid (show putT d T = outT d T ++ [d] by unfold outT; rw [hdn, if_neg (by simp), putT_no hdn])
        have FARD := Lib.hid (outT_farD hdn HND.out)
        clear hdn
        have hz7 : B ≤ (wr).heap.size := by have := HT.out.2.touch.size; simp at this; omega
        have b7 : Below (wr).heap.size (wr) ((wr).alloc (.cells #[.slice Ad ld cd] 27)) := (Below.refl _ _).alloc (Nat.le_refl _) _
        go_wp2_with (
          at_builtin
          refine wpList_append_T (B := B) (e := 27) (T := outT d T) (d := d) rfl (.tmp 45) (.tmp 47) _ rfl _ Tryz.underlying39 Tryz.infoInts rfl rfl (HT.out.1.below b7) rfl (by rw [HDE.out]; go_simp) (OKD.out.below b7) DND.out (fun y hy hm => by
            rcases List.mem_append.1 hm with hm | hm
            · have := OWN.out y hm; have := DLT.out y hy; omega
            · exact FARD.out y hy hm) HDB.out (by have := outT_len d T; have := HN.out; omega) (by simp; omega) ?_
          intro v7 w7 hG7 hg7)
        have HP7 := Lib.hid (And.intro hG7 (HT.out.2.trans (hg7.after b7)))
        clear hG7 hg7
        go_wp2
        go_ret
        exact ⟨_, rfl, outT d T ++ [d], by rw [HNM.out, ← HO.out, putT_x], HP7.out.1, ((Below.refl _ _).alloc (Nat.le_refl _) _).trans (HP7.out.2.below (by simp) (fun b hb => by simp [Value.ownBlock] at hb; omega))⟩
end Go.Proofs.YtpmgmekbnbligaaGreat
