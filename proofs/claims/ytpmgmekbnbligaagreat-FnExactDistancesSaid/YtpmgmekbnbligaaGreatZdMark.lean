/- Marks on whole programs and instances: laws.markProgram, laws.markInstance. -/
import Derived.Test.YtpmgmekbnbligaaGreatZdDstI
import Derived.Test.YtpmgmekbnbligaaGreatZdTyProgram
import Derived.Test.YtpmgmekbnbligaaGreatZdBasic
set_option linter.all false
set_option linter.unusedSimpArgs false
set_option linter.unusedVariables false
namespace Go.Proofs.YtpmgmekbnbligaaGreat
open Go.ChangeShapes Go.WideShapes Go.ChangeAt Go.RowKit Go.Deep

set_option maxRecDepth 100000 in
theorem isPart_d {w : World} {p : Pgm} {cs : List Value} {bs : List Nat} {k : Int} (h : Rep w p.d cs bs) :
    Calls Tryz.prog 35 #[.agg cs.toArray, .int .i64 k] w fun e w' => e = .returned (.bool (inB k 0 ((p.parts.length : Int) - 1))) ∧ Below w.heap.size w w' := by
  obtain ⟨A1, c1, A2, c2, d1, d2, rfl, rfl, g1, g2⟩ := Rep.pgm_iff.1 h
  have Garrays := Lib.hid g1
  have Gparts := Lib.hid g2
  clear h g1 g2
  have hn : p.parts.length ≤ 9223372036854775807 := Nat.le_trans Gparts.out.sls_len.2.1 Gparts.out.sls_len.2.2
  go_enter Tryz.func35, Tryz.ntmps35
  go_wp2_with fail
  refine (within_c _ _ _ _).mono ?_
  rintro e w' ⟨rfl, rfl⟩
  go_wp2
  go_ret
  exact ⟨rfl, bel⟩
theorem GrowT.madeNil {w w' : World} {L : List (List Int)} (hL : L = []) (hb : Below w.heap.size w w') : MadeS w (sls ints L) (.returned (.slice none 0 0)) w' :=
  (GrowT.nil w' w.heap.size 0).madeS (by rw [hL]; rfl) (Nat.le_refl _) hb
set_option maxRecDepth 100000 in
theorem implDistances_k {w : World} {p : Pgm} {cs : List Value} {bs : List Nat} {k : Int} (h : Rep w p.d cs bs) :
    Calls Tryz.prog 15 #[.agg cs.toArray, .int .i64 k] w (MadeS w (sls ints (DistancesF p k))) := by
  have HP := Lib.hid h
  obtain ⟨A1, c1, A2, c2, d1, d2, rfl, rfl, g1, g2⟩ := Rep.pgm_iff.1 h
  have Garrays := Lib.hid g1
  have Gparts := Lib.hid g2
  clear h g1 g2
  cases hv : progOk p with
  | false =>
    have HE := Lib.hid (dst_n (k := k) hv)
    have HV := Lib.hid hv; clear hv
    go_enter Tryz.func15, Tryz.ntmps15
    go_wp2_with fail
    refine (trace_n (HP.out.below bel) HV.out).mono ?_
    rintro e w1 ⟨rfl, b1⟩
    have S1 : Below w.heap.size w w1 := bel
    go_wp2
    go_ret
    exact GrowT.madeNil HE.out S1
  | true =>
    have HE := Lib.hid (dst_y (k := k) hv)
    have HV := Lib.hid hv; clear hv
    have B0 := Box2.new w (.slice A1 p.arrays.length c1) (.slice A2 p.parts.length c2) 32
    go_enter Tryz.func15, Tryz.ntmps15
    go_wp2_with fail
    refine (trace_y (HP.out.below bel) HV.out).mono ?_
    rintro e w1 ⟨g, rfl, ht, _, b1⟩
    have HB1 := Lib.hid (B0.to b1)
    have HT1 := Lib.hid ht
    have S1 : Below w.heap.size w w1 := bel
    obtain ⟨p0, p1⟩ := HB1.out
    have ltp := lt_of_cell p0
    clear b1 B0 ht
    go_wp2_with fail
    refine (isPart_d (HP.out.below S1)).mono ?_
    rintro e w2 ⟨rfl, b2⟩
    have S2 := below_tr S1 b2
    have HT2 := Lib.hid (HT1.out.below b2)
    clear p0 p1 ltp b2
    cases hin : inB k 0 ((p.parts.length : Int) - 1) with
    | false =>
      have HZ := Lib.hid (show DistancesF p k = [] by
        rw [HE.out, diffs_out HV.out (fun hh => by
          rw [inB_true hh.1 (by have := hh.2; omega)] at hin; cases hin)]; rfl)
      clear hin
      go_wp2
      go_ret
      exact GrowT.madeNil HZ.out S2
    | true =>
      clear hin
      go_wp2_with fail
      refine (distances_c HT2.out HV.out).mono ?_
      rintro e w3 ⟨A3, n3, c3, bs3, rfl, r3, nd3, hb3, b3⟩
      go_wp2
      go_ret
      rw [HE.out]
      exact ⟨A3, n3, c3, bs3, rfl, r3, nd3, fun y hy => Nat.le_trans S2.size (hb3 y hy), below_tr S2 b3⟩
theorem cntD_le {k : Nat} : (xs : List (List Int)) → (∀ x ∈ xs, cntI x ≤ k) → cntL cntI xs ≤ xs.length * k
  | [], _ => by simp [cntL]
  | x :: xs, h => by
    have h1 := h x List.mem_cons_self
    have h2 := cntD_le xs fun y hy => h y (List.mem_cons_of_mem _ hy)
    rw [cntL, List.length_cons, Nat.add_mul]; omega
theorem distL_len (ds : List (List Int)) : (distL ds).length ≤ ds.length := by
  have : ∀ (ds l : List (List Int)), (ds.foldl addL l).length ≤ l.length + ds.length := fun ds => by
    induction ds with
    | nil => intro l; simp
    | cons d ds ih =>
      intro l
      rw [List.foldl_cons, List.length_cons]
      have := ih (addL l d)
      have := addL_len l d
      omega
  have := this ds []
  unfold distL
  simpa using this
theorem DistancesF_len (p : Pgm) (k : Int) : cntL cntI (DistancesF p k) ≤ 1000000 := by
  cases hv : progOk p with
  | false => rw [dst_n hv]; simp [cntL]
  | true =>
    rw [dst_y hv]
    have h2 : (depsF (usesF p)).length ≤ 14400 := by
      have h3 := depsN_len (us := usesF p) (n := (usesF p).length) (Nat.le_refl _)
      have h4 : (usesF p).length ≤ 120 := by rw [usesF_len]; exact (progOk_all hv).2.2
      have h5 := Nat.mul_le_mul h4 h4
      unfold depsF; omega
    have h3 : (diffs p k (depsF (usesF p))).length ≤ 14400 := Nat.le_trans (List.length_filterMap_le _ _) h2
    have h4 := distL_len (diffs p k (depsF (usesF p)))
    have h5 := cntD_le (k := 5) (distL (diffs p k (depsF (usesF p)))) (fun x hx => by
      rw [distL_mem] at hx
      unfold diffs at hx
      obtain ⟨d, hd, hx⟩ := List.mem_filterMap.1 hx
      obtain ⟨a, b, hfa, htb, hal, hbl⟩ := (depsF_mem d hd).two
      rw [difO_at hfa htb hal hbl] at hx
      split at hx
      · rw [← Option.some.inj hx]
        have := ((InOk.of_mem (List.getElem_mem hbl)).pts hv).2.2
        unfold cntI
        rw [minusL_len]; omega
      · cases hx)
    omega
end Go.Proofs.YtpmgmekbnbligaaGreat
set_option linter.all false
set_option linter.unusedSimpArgs false
set_option linter.unusedVariables false
namespace Go.Proofs.YtpmgmekbnbligaaGreat
open Go.ChangeShapes Go.WideShapes Go.ChangeAt Go.RowKit Go.Deep

def Pgm.cntM (x : Pgm) : Nat := cntL Ar.cntE x.arrays + cntL Prt.cntE x.parts
def Pgm.mkM (q : Int) (x : Pgm) : Pgm := ⟨mkL Ar.mkE Ar.cntE q x.arrays, mkL Prt.mkE Prt.cntE (q + ((cntL Ar.cntE x.arrays : Nat) : Int)) x.parts⟩
theorem Pgm.mkM_rep {w : World} {x : Pgm} {q : Int} {A1 A2 : Option Addr} {n1 n2 c1 c2 : Nat} {b1 b2 : List Nat} (h1 : Rep w (sls Ar.d (mkL Ar.mkE Ar.cntE q x.arrays)) [.slice A1 n1 c1] b1) (h2 : Rep w (sls Prt.d (mkL Prt.mkE Prt.cntE (q + ((cntL Ar.cntE x.arrays : Nat) : Int)) x.parts)) [.slice A2 n2 c2] b2) : Rep w (x.mkM q).d [.slice A1 n1 c1, .slice A2 n2 c2] (b1 ++ b2) := by
  show Reps w [sls Ar.d (x.mkM q).arrays, sls Prt.d (x.mkM q).parts] _ _
  simp only [Reps]
  exact ⟨[.slice A1 n1 c1], [.slice A2 n2 c2], b1, b2, rfl, rfl, h1, [.slice A2 n2 c2], [], b2, [], by simp, by simp, h2, rfl, rfl⟩
theorem Pgm.cntM_le (x : Pgm) : x.cntM ≤ 8 * szD x.d := by
  have h1 := Ar.cnts_le x.arrays
  have h2 := Prt.cnts_le x.parts
  rw [szD_pgm]
  unfold Pgm.cntM; omega
set_option maxHeartbeats 1000000 in
theorem markProgram_n {w : World} {x : Pgm} {cs : List Value} {bs : List Nat} {q : Int} (h : Rep w x.d cs bs) (hnd : bs.Nodup) (h0 : 0 ≤ q) (h1 : q + ((x.cntM : Nat) : Int) ≤ 4611686018427387904) :
    Calls Tryz.prog 11 #[.agg cs.toArray, .int .i64 q] w fun e w' => e = .returned (.int .i64 (q + ((x.cntM : Nat) : Int))) ∧ Rep w' (x.mkM q).d cs bs ∧ Touch bs w w' := by
  obtain ⟨A1, c1, A2, c2, d1, d2, rfl, rfl, g1, g2⟩ := Rep.pgm_iff.1 h
  obtain ⟨n1, n2, dj⟩ := List.nodup_append.1 hnd
  have hc : x.cntM = cntL Ar.cntE x.arrays + cntL Prt.cntE x.parts := rfl
  rw [hc] at h1 ⊢
  have l1 := Rep.lt _ g1
  have l2 := Rep.lt _ g2
  have G1 := Lib.hid g1
  have G2 := Lib.hid g2
  clear h g1 g2 hnd
  obtain ⟨k1, hk1⟩ : ∃ k1, k1 = cntL Ar.cntE x.arrays := ⟨_, rfl⟩
  obtain ⟨k2, hk2⟩ : ∃ k2, k2 = cntL Prt.cntE x.parts := ⟨_, rfl⟩
  have HK1 := Lib.hid hk1
  have HK2 := Lib.hid hk2
  rw [← hk1, ← hk2] at h1 ⊢
  clear hk1 hk2 hc
  have D1 := Lib.hid dj
  have L1 := Lib.hid l1
  have L2 := Lib.hid l2
  clear dj l1 l2
  go_enter Tryz.func11, Tryz.ntmps11
  go_wp2_with fail
  refine (markArrayS_n (G1.out.below bel) n1 (q := q) h0 (by rw [← HK1.out]; omega)).mono ?_
  rintro e w1 ⟨rfl, r1, t1⟩
  rw [← HK1.out]
  have hz : w.heap.size < w1.heap.size := by have := t1.size; simp at this; omega
  have hno : w.heap.size ∉ d1 := fun hm => by have := L1.out _ hm; omega
  have P1 : Box2 w1 w.heap.size (.slice A1 x.arrays.length c1) (.slice A2 x.parts.length c2) := by
    refine ⟨?_, ?_⟩ <;> (rw [t1.cell (by simp) hno]; go_simp)
  have b0 : Below w.heap.size w (w.alloc (.cells #[.slice A1 x.arrays.length c1, .slice A2 x.parts.length c2] 32)) := bel
  have G2b := Lib.hid (Rep.keep _ (G2.out.below b0) (t1.keeps fun y hy => ⟨Rep.lt _ (G2.out.below b0) y hy, fun hm => D1.out y hm y hy rfl⟩))
  have t1b := Lib.hid ((Touch.of_below b0).trans t1)
  have R1 := Lib.hid r1
  clear t1 r1
  go_wp2_with fail
  refine (markPartS_n G2b.out n2 (q := q + (k1 : Int)) (by omega) (by rw [← HK2.out]; omega)).mono ?_
  rintro e w2 ⟨rfl, r2, t2⟩
  have R1b := Rep.keep _ R1.out (t2.keeps fun y hy => ⟨Rep.lt _ R1.out y hy, fun hm => D1.out y hy y hm rfl⟩)
  have RR := Lib.hid (Pgm.mkM_rep (x := x) R1b (by rw [← HK1.out]; exact r2))
  rw [← HK2.out]
  clear R1b r2 R1
  go_wp2
  go_ret
  exact ⟨ret_int (by omega), RR.out, (t1b.out.mono (by simp +contextual)).trans (t2.mono (by simp +contextual))⟩
end Go.Proofs.YtpmgmekbnbligaaGreat
