/- slices.CompactFunc on a slice of slices of numbers. -/
import Derived.Test.YtpmgmekbnbligaaGreatZdTri
import Derived.Test.YtpmgmekbnbligaaGreatZdCore
import Derived.Lib.SliceRun
import Derived.BigRegion
set_option linter.all false
set_option linter.unusedSimpArgs false
set_option linter.unusedVariables false
namespace Go.Proofs.YtpmgmekbnbligaaGreat
open Go.ChangeShapes Go.WideShapes Go.ChangeAt Go.RowKit Go.Deep

/-- the elements, wherever the row alone has been written -/
def OkT (w : World) (g : Nat) (T : List Tri) : Prop := ∀ t ∈ T, t.ok w ∧ g ∉ t.b
theorem OkT.tch {w w' : World} {g : Nat} {T : List Tri} (h : OkT w g T) (t : Touch [g] w w') : OkT w' g T := fun x hx => ⟨(h x hx).1.keep (t.keeps fun y hy => ⟨Rep.lt _ (h x hx).1 y hy, fun hm => (h x hx).2 (by rw [List.mem_singleton.1 hm] at hy; exact hy)⟩), (h x hx).2⟩
theorem GrowT.okT {w : World} {B g n c : Nat} {ty : TypeId} {T : List Tri} (h : GrowT w B ty (.slice (some ⟨g, 0, none⟩) n c) T) : OkT w g T := fun t ht => ⟨h.ok t ht, fun hm => h.far t ht g hm (by rw [ownL_some]; simp)⟩
/-- the test of equality at two elements -/
theorem eqT_c {w : World} {a b : Tri} (ha : a.ok w) (hb : b.ok w) (m : Nat) {A1 A2 : Option Addr} {n1 c1 n2 c2 : Nat} (e1 : a.e = .slice A1 n1 c1) (e2 : b.e = .slice A2 n2 c2) :
    Calls Tryz.prog 64 #[.slice A1 n1 c1, .slice A2 n2 c2] (w.drewN m) fun e w' => e = .returned (.bool (decide (a.x = b.x))) ∧ ∃ q, w' = (w.drewN m).drewN q :=
  Equal_int_c (bs := a.b) (bs' := b.b) (e1 ▸ Rep.drewN ha m) (e2 ▸ Rep.drewN hb m)
theorem rowV_take {w : World} {g c n B : Nat} {ty : TypeId} {T : List Tri} (h : RowV w g ty c (T.map Tri.e)) (hB : B ≤ g) (hc : c ≤ maxLen) (hn : T.length = n) : w.ownsRow B ty 1 (.slice (some ⟨g, 0, none⟩) n c) T.length (T.map Tri.e) := by
  subst hn
  have := rowV_own (k := T.length) h hB hc (by simp)
  rwa [List.take_of_length_le (by simp)] at this
theorem mix_get {C T : List Tri} {k i : Nat} (hk : C.length = k) (hi : k ≤ i) (hl : i < T.length) : ((C.map Tri.e ++ (T.drop k).map Tri.e)[i]'(by simp; omega)) = T[i].e := by
  rw [List.getElem_append_right (by simpa [hk] using hi)]
  simp only [List.getElem_map, List.getElem_drop, List.length_map, hk]
  congr 2; omega
theorem mix_set {C T : List Tri} {k : Nat} (d : Tri) (hk : C.length = k) (hl : k < T.length) : (C.map Tri.e ++ (T.drop k).map Tri.e).set k d.e = (C ++ [d]).map Tri.e ++ (T.drop (k + 1)).map Tri.e := by
  rw [← List.getElem_cons_drop hl, List.map_cons, List.set_append_right _ _ (by simp [hk]), List.map_append, List.append_assoc]
  simp only [List.length_map, hk, Nat.sub_self, List.set_cons_zero]
  rfl
theorem triB_sub {T T' : List Tri} (h : T'.Sublist T) : (TriB T').Sublist (TriB T) := by
  induction h with
  | slnil => exact .slnil
  | cons a _ ih => exact ih.trans (List.sublist_append_right _ _)
  | cons_cons a _ ih => exact (List.Sublist.refl _).append ih
theorem ret_slice {A : Option Addr} {n m c : Nat} (h : n = m) : Ending.returned (.slice A n c) = Ending.returned (.slice A m c) := by rw [h]
theorem Tryz.zeroInts (w : World) : (zeroValue 27).run Tryz.prog w = .ok (.slice none 0 0) w := by kernel_rfl
set_option maxRecDepth 100000 in
set_option maxHeartbeats 2000000 in
theorem CompactT_c {w : World} {B : Nat} {T : List Tri} {g n c : Nat} (h : GrowT w B 27 (.slice (some ⟨g, 0, none⟩) n c) T) (hn : T.length = n) (hl : n ≤ 1000000) :
    Calls Tryz.prog 63 #[.slice (some ⟨g, 0, none⟩) n c, .func (.func 64) #[] #[]] w fun e w' => e = .returned (.slice (some ⟨g, 0, none⟩) (compT T).length c) ∧ GrowT w' B 27 (.slice (some ⟨g, 0, none⟩) (compT T).length c) (compT T) ∧ Touch [g] w w' := by
  have HG := Lib.hid h
  obtain ⟨hV, hgB, hcm, hnc⟩ := own_rowV (hn ▸ h.own)
  have HV := Lib.hid hV
  have HOK := Lib.hid h.okT
  have HN := Lib.hid hn
  clear h hV hn
  by_cases h2 : n < 2
  · have hz : (n : Int) < 2 := by omega
    have HE := Lib.hid (compT_one T (by have := HN.out; omega))
    go_enter Tryz.func63, Tryz.ntmps63
    go_wp2
    go_ret
    rw [HE.out, HN.out]
    exact ⟨rfl, HG.out, Touch.refl _ _⟩
  · have hz : ¬ (n : Int) < 2 := by omega
    go_enter Tryz.func63, Tryz.ntmps63
    go_wp2
    go_loopw [5] (fun u wr => ∃ k : Nat, u = .int .i64 k ∧ 1 ≤ k ∧ k ≤ n ∧ Hid (compT (T.take k) = T.take k) ∧ Hid (RowV wr g 27 c (T.map Tri.e) ∧ Touch [g] w wr)) (fun u _ => n - (intOf u).toNat)
    case atStart => exact ⟨1, rfl, Nat.le_refl _, by omega, Lib.hid (compT_one _ (by simp; omega)), Lib.hid ⟨HV.out, Touch.refl _ _⟩⟩
    case round =>
      obtain ⟨k, rfl, hk1, hkn, HC, HT⟩ := hrel
      by_cases hlt : k < n
      · have hltz : (k : Int) < (n : Int) := by omega
        obtain ⟨kp, rfl⟩ : ∃ kp, k = kp + 1 := ⟨k - 1, by omega⟩
        have hlT : kp + 1 < T.length := by have := HN.out; omega
        have ok1 := (HOK.out.tch HT.out.2) _ (List.getElem_mem hlT)
        have ok0 := (HOK.out.tch HT.out.2) _ (List.getElem_mem (Nat.lt_of_succ_lt hlT))
        obtain ⟨A1, c1, e1⟩ := ok1.1.form
        obtain ⟨A0, c0, e0⟩ := ok0.1.form
        have k1 := HT.out.1.cell (i := kp + 1) (by simpa using hlT)
        have k0 := HT.out.1.cell (i := kp) (by simp; omega)
        rw [List.getElem_map, e1] at k1
        rw [List.getElem_map, e0] at k0
        have hk := fun m => eqT_c ok1.1 ok0.1 m e1 e0
        have HS := Lib.hid (compT_take hlT)
        have HK := Lib.hid (List.take_succ_eq_append_getElem hlT)
        obtain ⟨b1, hb1⟩ : ∃ b, b = decide (T[kp + 1].x = T[kp].x) := ⟨_, rfl⟩
        rw [← hb1] at hk
        obtain ⟨l1, hl1⟩ : ∃ l, l = T[kp + 1].x.length := ⟨_, rfl⟩
        obtain ⟨l0, hl0⟩ : ∃ l, l = T[kp].x.length := ⟨_, rfl⟩
        rw [← hl1] at k1 hk
        rw [← hl0] at k0 hk
        have hwp : IntKind.i64.wrap (kp : Int) = (kp : Int) := by rw [IntKind.wrap_i64]; omega
        have jz : (kp : Int) + 1 < (n : Int) := by omega
        have jz1 : (kp : Int) < (n : Int) := by omega
        have p0 : (0 : Int) ≤ (kp : Int) + 1 := by omega
        have e4 : ((kp : Int) + 1).toNat = kp + 1 := by omega
        have HB := Lib.hid hb1
        clear ok1 ok0 e1 e0 hl1 hl0 hb1
        cases b1 with
        | false =>
          go_wp2_with fail
          go_quiet (first | (go_at_call 64; refine Calls.quiet_of (hk _)))
          go_wp2
          go_roundw
          case rel =>
            refine ⟨kp + 1 + 1, by go_num, by omega, by omega, Lib.hid ?_, Lib.hid ⟨HT.out.1.drewN nq, HT.out.2.drewT nq⟩⟩
            have hne := of_decide_eq_false HB.out.symm
            rw [HS.out, if_neg (fun e => hne e.symm), HC.out, HK.out]
          case measure => simp [intOf]; omega
        | true =>
          have heq := of_decide_eq_true HB.out.symm
          have HCC := Lib.hid (show compT (T.take (kp + 1 + 1)) = T.take (kp + 1) by rw [HS.out, if_pos heq.symm, List.append_nil, HC.out])
          clear heq
          go_wp2_with fail
          go_quiet (first | (go_at_call 64; refine Calls.quiet_of (hk _)))
          go_wp2
          obtain ⟨q, hq⟩ : ∃ q, q = kp + 1 := ⟨_, rfl⟩
          obtain ⟨m, hm⟩ : ∃ m, m = n - q := ⟨_, rfl⟩
          rw [← hq, ← hm]
          have HQ := Lib.hid hq
          have HM := Lib.hid hm
          have hqn : q < n := by omega
          have TW := Lib.hid (HT.out.2.drewT nq)
          have RW := Lib.hid (HT.out.1.drewN nq)
          obtain ⟨wo, hwo⟩ : ∃ wo, wo = wr.drewN nq := ⟨_, rfl⟩
          rw [← hwo] at TW RW ⊢
          clear k1 k0 hk hwp jz jz1 p0 e4 hwo HB HK HS HT HC hq hm
          go_loopw [5, 7] (fun u v wr => ∃ k j : Nat, u = .int .i64 k ∧ v = .int .i64 j ∧ 1 ≤ j ∧ q + j ≤ n ∧ k < q + j ∧ Hid ((compT (T.take (q + j))).length = k ∧ RowV wr g 27 c ((compT (T.take (q + j))).map Tri.e ++ (T.drop k).map Tri.e) ∧ Touch [g] w wr)) (fun _ v _ => n - (intOf v).toNat)
          case atStart =>
            refine ⟨q, 1, rfl, rfl, Nat.le_refl _, by omega, by omega, Lib.hid ⟨?_, ?_, TW.out⟩⟩
            · rw [HQ.out, HCC.out, List.length_take]; have := HN.out; have := HQ.out; omega
            · rw [HQ.out, HCC.out, ← List.map_append, List.take_append_drop]; exact RW.out
          case round =>
            obtain ⟨k, j, rfl, rfl, hj1, hjn, hkj, HT⟩ := hrel
            by_cases hlj : j < m
            · have hljz : (j : Int) < (m : Int) := by omega
              obtain ⟨jp, rfl⟩ : ∃ jp, j = jp + 1 := ⟨j - 1, by omega⟩
              have hqm := HM.out
              have hlT : q + jp + 1 < T.length := by have := HN.out; omega
              have ok1 := (HOK.out.tch HT.out.2.2) _ (List.getElem_mem hlT)
              have ok0 := (HOK.out.tch HT.out.2.2) _ (List.getElem_mem (Nat.lt_of_succ_lt hlT))
              obtain ⟨A1, c1, e1⟩ := ok1.1.form
              obtain ⟨A0, c0, e0⟩ := ok0.1.form
              have k1 := HT.out.2.1.cell (i := q + jp + 1) (by have := HT.out.1; simp; omega)
              have k0 := HT.out.2.1.cell (i := q + jp) (by have := HT.out.1; simp; omega)
              rw [mix_get HT.out.1 (by omega) hlT, e1] at k1
              rw [mix_get HT.out.1 (by omega) (Nat.lt_of_succ_lt hlT), e0] at k0
              have kk := HT.out.2.1.cell (i := k) (by have := HT.out.1; have := HN.out; simp; omega)
              have fk := HT.out.2.1.frozen k
              have hk := fun m => eqT_c ok1.1 ok0.1 m e1 e0
              have HS := Lib.hid (compT_take hlT)
              have HSET := Lib.hid (mix_set (T := T) T[q + jp + 1] HT.out.1 (by have := HN.out; omega))
              rw [e1] at HSET
              obtain ⟨b1, hb1⟩ : ∃ b, b = decide (T[q + jp + 1].x = T[q + jp].x) := ⟨_, rfl⟩
              rw [← hb1] at hk
              obtain ⟨l1, hl1⟩ : ∃ l, l = T[q + jp + 1].x.length := ⟨_, rfl⟩
              obtain ⟨l0, hl0⟩ : ∃ l, l = T[q + jp].x.length := ⟨_, rfl⟩
              rw [← hl1] at k1 hk HSET
              rw [← hl0] at k0 hk
              rw [Nat.add_assoc] at k1
              have hwp : IntKind.i64.wrap (jp : Int) = (jp : Int) := by rw [IntKind.wrap_i64]; omega
              have jz : (jp : Int) + 1 < (m : Int) := by omega
              have jz1 : (jp : Int) < (m : Int) := by omega
              have p0 : (0 : Int) ≤ (jp : Int) + 1 := by omega
              have e4 : ((jp : Int) + 1).toNat = jp + 1 := by omega
              have kz : (k : Int) < (n : Int) := by omega
              have HB := Lib.hid hb1
              clear ok1 ok0 e1 e0 hl1 hl0 hb1 hqm
              cases b1 with
              | false =>
                have hne := of_decide_eq_false HB.out.symm
                have HCC := Lib.hid (show compT (T.take (q + (jp + 1 + 1))) = compT (T.take (q + (jp + 1))) ++ [T[q + jp + 1]] from (HS.out.trans (by rw [if_neg (fun e => hne e.symm)]; rfl)))
                clear hne
                go_wp2_with fail
                go_quiet (first | (go_at_call 64; refine Calls.quiet_of (hk _)))
                have R2 := Lib.hid ((HT.out.2.1.drewN nq).set (i := k) (by have := HT.out.1; have := HN.out; simp; omega) (.slice A1 l1 c1))
                have T2 := Lib.hid ((HT.out.2.2.drewT nq).setCell (p := ⟨g, k, none⟩) (by simp) (.slice A1 l1 c1))
                have q1 : (wr.drewN nq).cell? ⟨g, q + (jp + 1), none⟩ = some (.slice A1 l1 c1) := k1
                have q2 : (wr.drewN nq).cell? ⟨g, k, none⟩ = some _ := kk
                have q3 : (wr.drewN nq).frozen? ⟨g, k, none⟩ = false := fk
                clear k1 k0 kk fk hk
                generalize wr.drewN nq = wq at q1 q2 q3 R2 T2 ⊢
                go_wp2
                go_roundw
                case rel =>
                  refine ⟨k + 1, jp + 1 + 1, by go_num, by go_num, by omega, by have := HM.out; omega, by omega, Lib.hid ⟨?_, ?_, T2.out⟩⟩
                  · rw [HCC.out, List.length_append, HT.out.1]; rfl
                  · rw [HCC.out]
                    have := R2.out
                    rwa [HSET.out] at this
                case measure => simp [intOf]; have := HN.out; omega
              | true =>
                have heq := of_decide_eq_true HB.out.symm
                have HCC := Lib.hid (show compT (T.take (q + (jp + 1 + 1))) = compT (T.take (q + (jp + 1))) from (HS.out.trans (by rw [if_pos heq.symm, List.append_nil]; rfl)))
                clear heq
                go_wp2_with fail
                go_quiet (first | (go_at_call 64; refine Calls.quiet_of (hk _)))
                go_wp2
                go_roundw
                case rel =>
                  refine ⟨k, jp + 1 + 1, rfl, by go_num, by omega, by have := HM.out; omega, by omega, Lib.hid ⟨?_, ?_, HT.out.2.2.drewT nq⟩⟩
                  · rw [HCC.out]; exact HT.out.1
                  · rw [HCC.out]; exact HT.out.2.1.drewN nq
                case measure => simp [intOf]; have := HN.out; omega
            · have hljz : ¬ (j : Int) < (m : Int) := by omega
              have hqm := HM.out
              have hj : q + j = n := by omega
              have hz2 : (k : Int) < (n : Int) := by omega
              have hkT := HT.out.1
              rw [List.take_of_length_le (by have := HN.out; omega)] at hkT
              have hRV := HT.out.2.1
              rw [List.take_of_length_le (by have := HN.out; omega)] at hRV
              have hlen : (List.map Tri.e (compT T) ++ List.map Tri.e (T.drop k)).length = n := by simp [hkT]; have := HN.out; omega
              have hclr := fun cc => Lib.run_clear_slice (P := Tryz.prog) wr 39 27 0 (.slice none 0 0) Tryz.underlying39 Tryz.zeroInts rfl rfl g k (n - k) cc (by omega) (fun i hi => by rw [hRV.cell (i := k + i) (by rw [hlen]; omega)]; rfl) (fun i hi => hRV.frozen _)
              have R3 := Lib.hid (hRV.clear (k := k) (m := n - k) (z := .slice none 0 0) (by rw [hlen]; omega))
              have HKT := Lib.hid hkT
              clear hkT hRV hlen hqm
              go_wp2
              go_ret
              have T3 := HT.out.2.2.trans (Touch.setN (List.replicate (n - k) (.slice none 0 0)) k wr)
              have hsub := compT_sub T
              refine ⟨ret_slice HKT.out.symm, ⟨?_, fun t ht => ((HOK.out.tch T3) t (hsub.subset ht)).1, ?_, fun y hy => ?_⟩, T3⟩
              · have h1 := rowV_own (k := k) R3.out hgB hcm (by simp [HKT.out])
                rw [List.take_left' (by simp [HKT.out])] at h1
                rw [List.take_left' (by simp [HKT.out])] at h1
                rw [HKT.out]; exact h1
              · have h1 := HG.out.nd
                rw [ownL_some] at h1 ⊢
                exact h1.sublist ((List.Sublist.refl _).append (triB_sub hsub))
              · obtain ⟨t, ht, hb⟩ := triB_mem.1 hy
                exact HG.out.ge y (triB_mem.2 ⟨t, hsub.subset ht, hb⟩)
      · have hltz : ¬ (k : Int) < (n : Int) := by omega
        have hkk : k = n := by omega
        subst hkk
        go_wp2
        go_ret
        have hE : compT T = T := by have := HC.out; rwa [List.take_of_length_le (by have := HN.out; omega)] at this
        rw [hE, HN.out]
        exact ⟨rfl, ⟨rowV_take HT.out.1 hgB hcm HN.out, fun t ht => ((HOK.out.tch HT.out.2) t ht).1, HG.out.nd, HG.out.ge⟩, HT.out.2⟩
end Go.Proofs.YtpmgmekbnbligaaGreat
