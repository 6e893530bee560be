/- Arrays of both sides: how many cells one has, which lists of arrays are valid. -/
import Derived.Test.YtgogjbnneoadkaaGreatZfReads
import Derived.Test.YtgogjbnneoadkaaGreatZfCore
import Derived.IntWalk
set_option linter.all false
set_option maxHeartbeats 8000000
set_option maxRecDepth 100000
namespace Go.Proofs.YtgogjbnneoadkaaGreat
open Go.ChangeShapes Go.WideShapes Go.ChangeAt Go.RowKit Go.Deep
section
variable {w : World} {bs : List Nat}
theorem qHL {l : List Int} (h : uP l = true) {j : Nat} (hj : j < l.length) : (1 <= xK l j /\ xK l j <= 36) /\ (1 <= gi l j /\ gi l j <= 6) /\ 0 <= xK l j * gi l j /\ xK l j * gi l j <= 36 := by
 have h1 := vU h (Nat.le_of_lt hj);have h2 := (qZU h).2 j hj;have h3 := vU h (j := j + 1) hj;simp only [xK] at h3;omega
theorem qCP {x : Ar} {cs : List Value} (h : Rep w x.d cs bs) (hd : uP x.dims = true) :
  Calls Tryz.prog 188 #[.agg cs.toArray] w fun e w' => e = .returned (.int .i64 (szF x)) /\ Below w.heap.size w w' := by
 obtain ⟨A2, c2, d2, rfl, rfl, g1, g2⟩ := Rep.ar_iff.1 h;have Gname := qQ g1;have Gdims := qQ g2;clear h g1 g2;have hn : x.dims.length <= 9223372036854775807 := qX Gdims.out.ints_len.2.1 Gdims.out.ints_len.2.2;have HD := qQ hd; clear hd;go_enter Tryz.func188, Tryz.ntmps188;go_wp2;go_loop [3, 9] (fun u i => ∃ j : Nat, j <= x.dims.length /\ i = .int .i64 j /\ u = .int .i64 (xK x.dims j)) (fun _ i => x.dims.length - (intOf i).toNat)
 case atStart => exact ⟨0, Nat.zero_le _, rfl, rfl⟩
 case round =>
  obtain ⟨j, hj, rfl, rfl⟩ := hrel;by_cases hlt : j < x.dims.length
  ·obtain ⟨b, o, rfl, _, hbl, hc, _⟩ := Gdims.out.ints_at hlt
   have hst := qHL HD.out hlt;have HP := qQ (show xK x.dims (j + 1) = xK x.dims j * gi x.dims j from rfl);go_wp2;go_round
   case rel => exact ⟨j + 1, by omega, by go_num, zQ (by rw [HP.out])⟩
   case measure => simp [intOf]; omega
  ·have hjj : j = x.dims.length := by omega
   subst hjj;go_wp2;go_ret;exact ⟨rfl, bel⟩
theorem qNI {x : Ar} {cs : List Value} (h : Rep w x.d cs bs) (hd : uP x.dims = true) :
  Calls Tryz.prog 208 #[.agg cs.toArray] w fun e w' => e = .returned (.int .i64 (szF x)) /\ Below w.heap.size w w' := by
 obtain ⟨A2, c2, d2, rfl, rfl, g1, g2⟩ := Rep.ar_iff.1 h;have Gname := qQ g1;have Gdims := qQ g2;clear h g1 g2;have hn : x.dims.length <= 9223372036854775807 := qX Gdims.out.ints_len.2.1 Gdims.out.ints_len.2.2;have HD := qQ hd; clear hd;go_enter Tryz.func208, Tryz.ntmps208;go_wp2;go_loop [3, 4] (fun u i => ∃ j : Nat, j <= x.dims.length /\ i = .int .i64 j /\ u = .int .i64 (xK x.dims j)) (fun _ i => x.dims.length - (intOf i).toNat)
 case atStart => exact ⟨0, Nat.zero_le _, rfl, rfl⟩
 case round =>
  obtain ⟨j, hj, rfl, rfl⟩ := hrel;by_cases hlt : j < x.dims.length
  ·obtain ⟨b, o, rfl, _, hbl, hc, _⟩ := Gdims.out.ints_at hlt
   have hst := qHL HD.out hlt;have HP := qQ (show xK x.dims (j + 1) = xK x.dims j * gi x.dims j from rfl);go_wp2;go_round
   case rel => exact ⟨j + 1, by omega, by go_num, zQ (by rw [HP.out])⟩
   case measure => simp [intOf]; omega
  ·have hjj : j = x.dims.length := by omega
   subst hjj;go_wp2;go_ret;exact ⟨rfl, bel⟩
theorem wX (x : Int) (W : World) : Calls Tryz.prog 179 (#[.int .i64 x] ++ #[]) W fun e w' => e = .returned (.bool (xS x)) /\ W = w' := by
 show Calls Tryz.prog 179 #[.int .i64 x] W _;go_enter Tryz.func179, Tryz.ntmps179;go_wp2_with fail;refine (xX _ _ _ _).mono ?_;rintro e w' ⟨rfl, rfl⟩;go_wp2;go_ret;exact ⟨rfl, rfl⟩
theorem wZ : xD Tryz.prog 179 := fun args W => by go_simp
theorem zB {xs : List Ar} (h : allN (wC xs) xs.length 0 = false) : xM xs = false := by rw [xM, h, Bool.false_and]
theorem qDU {s t : ByteArray} {b : Bool} (h : ltB s t = b) : Op.bytesLess s.toList t.toList = b := h
theorem qTZ {xs : List Ar} {A : Option Addr} {n c : Nat} (h : Rep w (sls Ar.d xs) [.slice A n c] bs) :
  Calls Tryz.prog 140 #[.slice A n c] w fun e w' => e = .returned (.bool (xM xs)) /\ Below w.heap.size w w' := by
 obtain ⟨rfl, h1, h2⟩ := h.sls_len;have hn : xs.length <= 9223372036854775807 := qX h1 h2;clear h1 h2;have H := qQ h; clear h;go_enter Tryz.func140, Tryz.ntmps140;go_wp2;go_loopw [7] (fun i wr => ∃ j : Nat, j <= xs.length /\ i = .int .i64 j /\ allN (wC xs) xs.length 0 = allN (wC xs) (xs.length - j) j /\ Below w.heap.size w wr) (fun i _ => xs.length - (intOf i).toNat)
 case atStart => exact ⟨0, Nat.zero_le _, rfl, rfl, bel⟩
 case round =>
  obtain ⟨j, hj, rfl, hi, hb⟩ := hrel;have HI := qQ hi; clear hi;by_cases hlt : j < xs.length
  ·have HD := qQ (HI.out.trans (qUY (f := wC xs) hlt))
   have HA := qQ (show wC xs j = (qQN xs[j].name && (qKY xs j && uP xs[j].dims)) by rw [wC, yN hlt]);have HDI := qQ (show uP xs[j].dims = (inB (xs[j].dims.length : Int) 1 2 && !xs[j].dims.any xS) from rfl);obtain ⟨be, oe, cse, le, rfl, hble, hre, _, _, hce⟩ := (H.out.below hb).sls_at Ar.d_size (k := j) hlt;have Ge := qQ hre;obtain ⟨A2e, c2e, d2e, rfl, rfl, g1e, g2e⟩ := Rep.ar_iff.1 hre;have k0e := (hce 0 _ rfl).1; rw [Nat.add_zero] at k0e;have k1e := (hce 1 _ rfl).1;have Q1e := qQ g1e;have Q2e := qQ g2e;clear hce hre g1e g2e;have hne : xs[j].dims.length <= 9223372036854775807 := qX Q2e.out.ints_len.2.1 Q2e.out.ints_len.2.2;have Q2w := qQ (Q2e.out.below (show Below wr.heap.size wr (wr.alloc (.cells #[.string xs[j].name, .slice A2e xs[j].dims.length c2e] 125)) from bel));obtain ⟨W, hW⟩ : ∃ W, W = wr.alloc (.cells #[.string xs[j].name, .slice A2e xs[j].dims.length c2e] 125) := ⟨_, rfl⟩;have PW : Box2 W wr.heap.size (.string xs[j].name) (.slice A2e xs[j].dims.length c2e) := by rw [hW]; exact Box2.new _ _ _ _
   have BW : Below wr.heap.size wr W := by rw [hW]; exact bel
   rw [<- hW] at Q2w;have HW := qQ hW; clear hW;have SW := qY hb BW
   cases hv : qQN xs[j].name with
   | false =>
    have HX := qQ (zB (HD.out.trans (by rw [HA.out, hv, Bool.false_and, Bool.false_and])));have HV := qQ hv; clear hv;go_wp2_with fail;rw [<- HW.out];refine wp_region_noPanic ?_;refine wp_region_held_drew (S := fun w' => Box2 w' wr.heap.size (.string xs[j].name) (.slice A2e xs[j].dims.length c2e)) (by kernel_rfl) (PW) (fun hHeld => ?_);refine goR 0 hHeld ?_;refine goR 1 hHeld ?_;refine zF (i := 2) rfl (by kernel_rfl) (qK rfl) (fun K hK => ?_);go_simp
    (refine (vS _ Q1e.out _).mono ?_; rintro e w' ⟨he, rfl⟩; rw [HV.out] at he; subst he)
    go_wp2_with fail;refine hK.out _ _ (PW) (fun hHeld => ?_);clear hK K
    try simp only [Act.put, aq0, aq1, aq2]
    refine goR 3 hHeld ?_;refine goR 4 hHeld ?_;refine goS 5 hHeld ?_;refine goS 6 hHeld ?_;refine goS 7 hHeld ?_;refine goS 8 hHeld ?_;refine goS 9 hHeld ?_;refine goS 10 hHeld ?_;refine goS 11 hHeld ?_;refine goS 12 hHeld ?_;refine goS 13 hHeld ?_;refine goS 14 hHeld ?_;refine goS 15 hHeld ?_;refine goS 16 hHeld ?_;refine goS 17 hHeld ?_;refine goR 18 hHeld ?_;refine goR 19 hHeld ?_;refine goS 20 hHeld ?_;refine goS 21 hHeld ?_;refine goS 22 hHeld ?_;refine goS 23 hHeld ?_;refine goS 24 hHeld ?_;refine goR 25 hHeld ?_;refine goR 26 hHeld ?_;refine goS 27 hHeld ?_;refine goS 28 hHeld ?_;refine goS 29 hHeld ?_;refine goR 30 hHeld ?_;refine wpAnyH_done (by kernel_rfl) ?_ _;refine NoPanic.normal ?_;go_wp2;go_ret;exact ⟨qH HX.out.symm, SW.drew⟩
   | true =>
    have HV := qQ hv; clear hv
    cases hj0 : decide (j = 0) with
    | true =>
     have hj00 := of_decide_eq_true hj0;have hz : (0 < j) = False := eq_false (by omega);have hz2 : ((0 : Int) < (j : Int)) = False := eq_false (by omega);have HA2 := qQ (show wC xs j = uP xs[j].dims by rw [HA.out, HV.out, Bool.true_and, qKY, hj0, Bool.true_or, Bool.true_and]);clear hj0 hj00
     cases hwi : inB (xs[j].dims.length : Int) 1 2 with
     | false =>
      have HX := qQ (zB (HD.out.trans (by rw [HA2.out, HDI.out, hwi, Bool.false_and, Bool.false_and])));have HWI := qQ hwi; clear hwi;go_wp2_with fail;rw [<- HW.out];refine wp_region_noPanic ?_;refine wp_region_held_drew (S := fun w' => Box2 w' wr.heap.size (.string xs[j].name) (.slice A2e xs[j].dims.length c2e)) (by kernel_rfl) (PW) (fun hHeld => ?_);refine goR 0 hHeld ?_;refine goR 1 hHeld ?_;refine zF (i := 2) rfl (by kernel_rfl) (qK rfl) (fun K hK => ?_);go_simp
      (refine (vS _ Q1e.out _).mono ?_; rintro e w' ⟨he, rfl⟩; rw [HV.out] at he; subst he)
      go_wp2_with fail;refine hK.out _ _ (PW) (fun hHeld => ?_);clear hK K
      try simp only [Act.put, aq0, aq1, aq2]
      refine goR 3 hHeld ?_;refine goR 4 hHeld ?_;refine goG 5 hHeld ?_;refine goG 6 hHeld ?_;refine goG 7 hHeld ?_;refine goS 8 hHeld ?_;refine goS 9 hHeld ?_;refine goS 10 hHeld ?_;refine goS 11 hHeld ?_;refine goS 12 hHeld ?_;refine goS 13 hHeld ?_;refine goS 14 hHeld ?_;refine goS 15 hHeld ?_;refine goS 16 hHeld ?_;refine goG 17 hHeld ?_;refine goR 18 hHeld ?_;refine goR 19 hHeld ?_;refine goG 20 hHeld ?_;refine goG 21 hHeld ?_;refine goG 22 hHeld ?_;refine zF (i := 23) rfl (by kernel_rfl) (by kernel_rfl) (fun K hK => ?_);go_simp
      (refine (xX _ _ _ _).mono ?_; rintro e w' ⟨he, rfl⟩; rw [HWI.out] at he; subst he)
      go_wp2_with fail;refine hK.out _ _ (PW) (fun hHeld => ?_);clear hK K
      try simp only [Act.put, aq0, aq1, aq2]
      refine goG 24 hHeld ?_;refine goR 25 hHeld ?_;refine goR 26 hHeld ?_;refine goS 27 hHeld ?_;refine goS 28 hHeld ?_;refine goS 29 hHeld ?_;refine goR 30 hHeld ?_;refine wpAnyH_done (by kernel_rfl) ?_ _;refine NoPanic.normal ?_;go_wp2;go_ret;exact ⟨qH HX.out.symm, SW.drew⟩
     | true =>
      have HWI := qQ hwi; clear hwi
      cases han : xs[j].dims.any xS with
      | true =>
       have HX := qQ (zB (HD.out.trans (by rw [HA2.out, HDI.out, HWI.out, han, Bool.not_true, Bool.and_false, Bool.false_and])));have HAN := qQ han; clear han;go_wp2_with fail;rw [<- HW.out];refine wp_region_noPanic ?_;refine wp_region_held_drew (S := fun w' => Box2 w' wr.heap.size (.string xs[j].name) (.slice A2e xs[j].dims.length c2e)) (by kernel_rfl) (PW) (fun hHeld => ?_);refine goR 0 hHeld ?_;refine goR 1 hHeld ?_;refine zF (i := 2) rfl (by kernel_rfl) (qK rfl) (fun K hK => ?_);go_simp
       (refine (vS _ Q1e.out _).mono ?_; rintro e w' ⟨he, rfl⟩; rw [HV.out] at he; subst he)
       go_wp2_with fail;refine hK.out _ _ (PW) (fun hHeld => ?_);clear hK K
       try simp only [Act.put, aq0, aq1, aq2]
       refine goR 3 hHeld ?_;refine goR 4 hHeld ?_;refine goG 5 hHeld ?_;refine goG 6 hHeld ?_;refine goG 7 hHeld ?_;refine goS 8 hHeld ?_;refine goS 9 hHeld ?_;refine goS 10 hHeld ?_;refine goS 11 hHeld ?_;refine goS 12 hHeld ?_;refine goS 13 hHeld ?_;refine goS 14 hHeld ?_;refine goS 15 hHeld ?_;refine goS 16 hHeld ?_;refine goG 17 hHeld ?_;refine goR 18 hHeld ?_;refine goR 19 hHeld ?_;refine goG 20 hHeld ?_;refine goG 21 hHeld ?_;refine goG 22 hHeld ?_;refine zF (i := 23) rfl (by kernel_rfl) (by kernel_rfl) (fun K hK => ?_);go_simp
       (refine (xX _ _ _ _).mono ?_; rintro e w' ⟨he, rfl⟩; rw [HWI.out] at he; subst he)
       go_wp2_with fail;refine hK.out _ _ (PW) (fun hHeld => ?_);clear hK K
       try simp only [Act.put, aq0, aq1, aq2]
       refine goG 24 hHeld ?_;refine goR 25 hHeld ?_;refine goR 26 hHeld ?_;refine goG 27 hHeld ?_;refine goG 28 hHeld ?_;refine zF (i := 29) rfl (by kernel_rfl) (by kernel_rfl) (fun K hK => ?_);go_simp
       (refine (xW (p := xS) (Q2w.out.drewN 1) wZ (fun x W _ => wX x W)).mono ?_; rintro e w' ⟨he, rfl⟩; rw [HAN.out] at he; subst he)
       go_wp2_with fail;refine hK.out _ _ (PW) (fun hHeld => ?_);clear hK K
       try simp only [Act.put, aq0, aq1, aq2]
       refine goR 30 hHeld ?_;refine wpAnyH_done (by kernel_rfl) ?_ _;refine NoPanic.normal ?_;go_wp2;go_ret;exact ⟨qH HX.out.symm, SW.drew⟩
      | false =>
       have HX := qQ (HD.out.trans (by rw [HA2.out, HDI.out, HWI.out, han, Bool.not_false, Bool.true_and, Bool.true_and]));have HAN := qQ han; clear han;go_wp2_with fail;rw [<- HW.out];refine wp_region_noPanic ?_;refine wp_region_held_drew (S := fun w' => Box2 w' wr.heap.size (.string xs[j].name) (.slice A2e xs[j].dims.length c2e)) (by kernel_rfl) (PW) (fun hHeld => ?_);refine goR 0 hHeld ?_;refine goR 1 hHeld ?_;refine zF (i := 2) rfl (by kernel_rfl) (qK rfl) (fun K hK => ?_);go_simp
       (refine (vS _ Q1e.out _).mono ?_; rintro e w' ⟨he, rfl⟩; rw [HV.out] at he; subst he)
       go_wp2_with fail;refine hK.out _ _ (PW) (fun hHeld => ?_);clear hK K
       try simp only [Act.put, aq0, aq1, aq2]
       refine goR 3 hHeld ?_;refine goR 4 hHeld ?_;refine goG 5 hHeld ?_;refine goG 6 hHeld ?_;refine goG 7 hHeld ?_;refine goS 8 hHeld ?_;refine goS 9 hHeld ?_;refine goS 10 hHeld ?_;refine goS 11 hHeld ?_;refine goS 12 hHeld ?_;refine goS 13 hHeld ?_;refine goS 14 hHeld ?_;refine goS 15 hHeld ?_;refine goS 16 hHeld ?_;refine goG 17 hHeld ?_;refine goR 18 hHeld ?_;refine goR 19 hHeld ?_;refine goG 20 hHeld ?_;refine goG 21 hHeld ?_;refine goG 22 hHeld ?_;refine zF (i := 23) rfl (by kernel_rfl) (by kernel_rfl) (fun K hK => ?_);go_simp
       (refine (xX _ _ _ _).mono ?_; rintro e w' ⟨he, rfl⟩; rw [HWI.out] at he; subst he)
       go_wp2_with fail;refine hK.out _ _ (PW) (fun hHeld => ?_);clear hK K
       try simp only [Act.put, aq0, aq1, aq2]
       refine goG 24 hHeld ?_;refine goR 25 hHeld ?_;refine goR 26 hHeld ?_;refine goG 27 hHeld ?_;refine goG 28 hHeld ?_;refine zF (i := 29) rfl (by kernel_rfl) (by kernel_rfl) (fun K hK => ?_);go_simp
       (refine (xW (p := xS) (Q2w.out.drewN 1) wZ (fun x W _ => wX x W)).mono ?_; rintro e w' ⟨he, rfl⟩; rw [HAN.out] at he; subst he)
       go_wp2_with fail;refine hK.out _ _ (PW) (fun hHeld => ?_);clear hK K
       try simp only [Act.put, aq0, aq1, aq2]
       refine goR 30 hHeld ?_;refine wpAnyH_done (by kernel_rfl) ?_ _;refine NoPanic.normal ?_;go_wp2;go_roundw
       case rel => exact ⟨j + 1, by omega, by go_num, HX.out, SW.drew⟩
       case measure => simp [intOf]; omega
    | false =>
     obtain ⟨m, rfl⟩ : ∃ m, j = m + 1 := ⟨j - 1, by have := of_decide_eq_false hj0; omega⟩;have hm : m < xs.length := by omega
     have HWM := qQ (show IntKind.i64.wrap (m : Int) = (m : Int) from IntWalk.i64_in _ (by omega));have hm0 : (0 <= (m : Int)) = True := eq_true (by omega);have hm1 : ((m : Int) < (xs.length : Int)) = True := eq_true (by omega);have HO := qQ (show qKY xs (m + 1) = ltB xs[m].name xs[m + 1].name by rw [qKY, hj0, Bool.false_or, Nat.add_sub_cancel, yN hm, yN hlt]);clear hj0;obtain ⟨bf, of, csf, lf, heqf, hblf, hrf, _, _, hcf⟩ := (H.out.below hb).sls_at Ar.d_size (k := m) hm;obtain ⟨rfl, rfl⟩ : be = bf /\ oe = of := by simpa using heqf
     have Gf := qQ hrf;obtain ⟨A2f, c2f, d2f, rfl, rfl, g1f, g2f⟩ := Rep.ar_iff.1 hrf;have k0f := (hcf 0 _ rfl).1; rw [Nat.add_zero] at k0f;have k1f := (hcf 1 _ rfl).1;have Q1f := qQ g1f;have Q2f := qQ g2f;clear hcf hrf g1f g2f;have F0 := (BW.cell hblf).trans k0f;clear k0f k1f
     cases ho : ltB xs[m].name xs[m + 1].name with
     | false =>
      have HX := qQ (zB (HD.out.trans (by rw [HA.out, HV.out, HO.out, ho, Bool.false_and, Bool.and_false, Bool.false_and])));have hbl1 := qDU ho;clear ho;go_wp2_with fail;rw [<- HW.out];refine wp_region_noPanic ?_;refine wp_region_held_drew (S := fun w' => Box2 w' wr.heap.size (.string xs[m + 1].name) (.slice A2e xs[m + 1].dims.length c2e) /\ w'.cell? ⟨be, oe + m * 2, none⟩ = some (.string xs[m].name)) (by kernel_rfl) (⟨PW, F0⟩) (fun hHeld => ?_);refine goR 0 hHeld ?_;refine goR 1 hHeld ?_;refine zF (i := 2) rfl (by kernel_rfl) (qK rfl) (fun K hK => ?_);go_simp
      (refine (vS _ Q1e.out _).mono ?_; rintro e w' ⟨he, rfl⟩; rw [HV.out] at he; subst he)
      go_wp2_with fail;refine hK.out _ _ (⟨PW, F0⟩) (fun hHeld => ?_);clear hK K
      try simp only [Act.put, aq0, aq1, aq2]
      refine goR 3 hHeld ?_;refine goR 4 hHeld ?_;refine goG 5 hHeld ?_;refine goG 6 hHeld ?_;refine goG 7 hHeld ?_;refine goG 8 hHeld ?_;refine goG 9 hHeld ?_;refine goG 10 hHeld ?_ (hy := by intro w hSw; (try dsimp only at hSw); go_simp; simp only [HWM.out, hm0, hm1, and_self, if_true, Int.toNat_natCast]; try with_reducible rfl);refine goG 11 hHeld ?_;refine goG 12 hHeld ?_;refine goG 13 hHeld ?_;refine goG 14 hHeld ?_;refine goG 15 hHeld ?_;refine goG 16 hHeld ?_;refine goG 17 hHeld ?_;refine goR 18 hHeld ?_;refine goR 19 hHeld ?_;refine goS 20 hHeld ?_;refine goS 21 hHeld ?_;refine goS 22 hHeld ?_;refine goS 23 hHeld ?_;refine goS 24 hHeld ?_;refine goR 25 hHeld ?_;refine goR 26 hHeld ?_;refine goS 27 hHeld ?_;refine goS 28 hHeld ?_;refine goS 29 hHeld ?_;refine goR 30 hHeld ?_;refine wpAnyH_done (by kernel_rfl) ?_ _;refine NoPanic.normal ?_;go_wp2;go_ret;exact ⟨qH HX.out.symm, SW.drew⟩
     | true =>
      have HO2 := qQ (show wC xs (m + 1) = uP xs[m + 1].dims by rw [HA.out, HV.out, HO.out, ho, Bool.true_and, Bool.true_and]);have hbl1 := qDU ho;clear ho
      cases hwi : inB (xs[m + 1].dims.length : Int) 1 2 with
      | false =>
       have HX := qQ (zB (HD.out.trans (by rw [HO2.out, HDI.out, hwi, Bool.false_and, Bool.false_and])));have HWI := qQ hwi; clear hwi;go_wp2_with fail;rw [<- HW.out];refine wp_region_noPanic ?_;refine wp_region_held_drew (S := fun w' => Box2 w' wr.heap.size (.string xs[m + 1].name) (.slice A2e xs[m + 1].dims.length c2e) /\ w'.cell? ⟨be, oe + m * 2, none⟩ = some (.string xs[m].name)) (by kernel_rfl) (⟨PW, F0⟩) (fun hHeld => ?_);refine goR 0 hHeld ?_;refine goR 1 hHeld ?_;refine zF (i := 2) rfl (by kernel_rfl) (qK rfl) (fun K hK => ?_);go_simp
       (refine (vS _ Q1e.out _).mono ?_; rintro e w' ⟨he, rfl⟩; rw [HV.out] at he; subst he)
       go_wp2_with fail;refine hK.out _ _ (⟨PW, F0⟩) (fun hHeld => ?_);clear hK K
       try simp only [Act.put, aq0, aq1, aq2]
       refine goR 3 hHeld ?_;refine goR 4 hHeld ?_;refine goG 5 hHeld ?_;refine goG 6 hHeld ?_;refine goG 7 hHeld ?_;refine goG 8 hHeld ?_;refine goG 9 hHeld ?_;refine goG 10 hHeld ?_ (hy := by intro w hSw; (try dsimp only at hSw); go_simp; simp only [HWM.out, hm0, hm1, and_self, if_true, Int.toNat_natCast]; try with_reducible rfl);refine goG 11 hHeld ?_;refine goG 12 hHeld ?_;refine goG 13 hHeld ?_;refine goG 14 hHeld ?_;refine goG 15 hHeld ?_;refine goG 16 hHeld ?_;refine goG 17 hHeld ?_;refine goR 18 hHeld ?_;refine goR 19 hHeld ?_;refine goG 20 hHeld ?_;refine goG 21 hHeld ?_;refine goG 22 hHeld ?_;refine zF (i := 23) rfl (by kernel_rfl) (by kernel_rfl) (fun K hK => ?_);go_simp
       (refine (xX _ _ _ _).mono ?_; rintro e w' ⟨he, rfl⟩; rw [HWI.out] at he; subst he)
       go_wp2_with fail;refine hK.out _ _ (⟨PW, F0⟩) (fun hHeld => ?_);clear hK K
       try simp only [Act.put, aq0, aq1, aq2]
       refine goG 24 hHeld ?_;refine goR 25 hHeld ?_;refine goR 26 hHeld ?_;refine goS 27 hHeld ?_;refine goS 28 hHeld ?_;refine goS 29 hHeld ?_;refine goR 30 hHeld ?_;refine wpAnyH_done (by kernel_rfl) ?_ _;refine NoPanic.normal ?_;go_wp2;go_ret;exact ⟨qH HX.out.symm, SW.drew⟩
      | true =>
       have HWI := qQ hwi; clear hwi
       cases han : xs[m + 1].dims.any xS with
       | true =>
        have HX := qQ (zB (HD.out.trans (by rw [HO2.out, HDI.out, HWI.out, han, Bool.not_true, Bool.and_false, Bool.false_and])));have HAN := qQ han; clear han;go_wp2_with fail;rw [<- HW.out];refine wp_region_noPanic ?_;refine wp_region_held_drew (S := fun w' => Box2 w' wr.heap.size (.string xs[m + 1].name) (.slice A2e xs[m + 1].dims.length c2e) /\ w'.cell? ⟨be, oe + m * 2, none⟩ = some (.string xs[m].name)) (by kernel_rfl) (⟨PW, F0⟩) (fun hHeld => ?_);refine goR 0 hHeld ?_;refine goR 1 hHeld ?_;refine zF (i := 2) rfl (by kernel_rfl) (qK rfl) (fun K hK => ?_);go_simp
        (refine (vS _ Q1e.out _).mono ?_; rintro e w' ⟨he, rfl⟩; rw [HV.out] at he; subst he)
        go_wp2_with fail;refine hK.out _ _ (⟨PW, F0⟩) (fun hHeld => ?_);clear hK K
        try simp only [Act.put, aq0, aq1, aq2]
        refine goR 3 hHeld ?_;refine goR 4 hHeld ?_;refine goG 5 hHeld ?_;refine goG 6 hHeld ?_;refine goG 7 hHeld ?_;refine goG 8 hHeld ?_;refine goG 9 hHeld ?_;refine goG 10 hHeld ?_ (hy := by intro w hSw; (try dsimp only at hSw); go_simp; simp only [HWM.out, hm0, hm1, and_self, if_true, Int.toNat_natCast]; try with_reducible rfl);refine goG 11 hHeld ?_;refine goG 12 hHeld ?_;refine goG 13 hHeld ?_;refine goG 14 hHeld ?_;refine goG 15 hHeld ?_;refine goG 16 hHeld ?_;refine goG 17 hHeld ?_;refine goR 18 hHeld ?_;refine goR 19 hHeld ?_;refine goG 20 hHeld ?_;refine goG 21 hHeld ?_;refine goG 22 hHeld ?_;refine zF (i := 23) rfl (by kernel_rfl) (by kernel_rfl) (fun K hK => ?_);go_simp
        (refine (xX _ _ _ _).mono ?_; rintro e w' ⟨he, rfl⟩; rw [HWI.out] at he; subst he)
        go_wp2_with fail;refine hK.out _ _ (⟨PW, F0⟩) (fun hHeld => ?_);clear hK K
        try simp only [Act.put, aq0, aq1, aq2]
        refine goG 24 hHeld ?_;refine goR 25 hHeld ?_;refine goR 26 hHeld ?_;refine goG 27 hHeld ?_;refine goG 28 hHeld ?_;refine zF (i := 29) rfl (by kernel_rfl) (by kernel_rfl) (fun K hK => ?_);go_simp
        (refine (xW (p := xS) (Q2w.out.drewN 1) wZ (fun x W _ => wX x W)).mono ?_; rintro e w' ⟨he, rfl⟩; rw [HAN.out] at he; subst he)
        go_wp2_with fail;refine hK.out _ _ (⟨PW, F0⟩) (fun hHeld => ?_);clear hK K
        try simp only [Act.put, aq0, aq1, aq2]
        refine goR 30 hHeld ?_;refine wpAnyH_done (by kernel_rfl) ?_ _;refine NoPanic.normal ?_;go_wp2;go_ret;exact ⟨qH HX.out.symm, SW.drew⟩
       | false =>
        have HX := qQ (HD.out.trans (by rw [HO2.out, HDI.out, HWI.out, han, Bool.not_false, Bool.true_and, Bool.true_and]));have HAN := qQ han; clear han;go_wp2_with fail;rw [<- HW.out];refine wp_region_noPanic ?_;refine wp_region_held_drew (S := fun w' => Box2 w' wr.heap.size (.string xs[m + 1].name) (.slice A2e xs[m + 1].dims.length c2e) /\ w'.cell? ⟨be, oe + m * 2, none⟩ = some (.string xs[m].name)) (by kernel_rfl) (⟨PW, F0⟩) (fun hHeld => ?_);refine goR 0 hHeld ?_;refine goR 1 hHeld ?_;refine zF (i := 2) rfl (by kernel_rfl) (qK rfl) (fun K hK => ?_);go_simp
        (refine (vS _ Q1e.out _).mono ?_; rintro e w' ⟨he, rfl⟩; rw [HV.out] at he; subst he)
        go_wp2_with fail;refine hK.out _ _ (⟨PW, F0⟩) (fun hHeld => ?_);clear hK K
        try simp only [Act.put, aq0, aq1, aq2]
        refine goR 3 hHeld ?_;refine goR 4 hHeld ?_;refine goG 5 hHeld ?_;refine goG 6 hHeld ?_;refine goG 7 hHeld ?_;refine goG 8 hHeld ?_;refine goG 9 hHeld ?_;refine goG 10 hHeld ?_ (hy := by intro w hSw; (try dsimp only at hSw); go_simp; simp only [HWM.out, hm0, hm1, and_self, if_true, Int.toNat_natCast]; try with_reducible rfl);refine goG 11 hHeld ?_;refine goG 12 hHeld ?_;refine goG 13 hHeld ?_;refine goG 14 hHeld ?_;refine goG 15 hHeld ?_;refine goG 16 hHeld ?_;refine goG 17 hHeld ?_;refine goR 18 hHeld ?_;refine goR 19 hHeld ?_;refine goG 20 hHeld ?_;refine goG 21 hHeld ?_;refine goG 22 hHeld ?_;refine zF (i := 23) rfl (by kernel_rfl) (by kernel_rfl) (fun K hK => ?_);go_simp
        (refine (xX _ _ _ _).mono ?_; rintro e w' ⟨he, rfl⟩; rw [HWI.out] at he; subst he)
        go_wp2_with fail;refine hK.out _ _ (⟨PW, F0⟩) (fun hHeld => ?_);clear hK K
        try simp only [Act.put, aq0, aq1, aq2]
        refine goG 24 hHeld ?_;refine goR 25 hHeld ?_;refine goR 26 hHeld ?_;refine goG 27 hHeld ?_;refine goG 28 hHeld ?_;refine zF (i := 29) rfl (by kernel_rfl) (by kernel_rfl) (fun K hK => ?_);go_simp
        (refine (xW (p := xS) (Q2w.out.drewN 1) wZ (fun x W _ => wX x W)).mono ?_; rintro e w' ⟨he, rfl⟩; rw [HAN.out] at he; subst he)
        go_wp2_with fail;refine hK.out _ _ (⟨PW, F0⟩) (fun hHeld => ?_);clear hK K
        try simp only [Act.put, aq0, aq1, aq2]
        refine goR 30 hHeld ?_;refine wpAnyH_done (by kernel_rfl) ?_ _;refine NoPanic.normal ?_;go_wp2;go_roundw
        case rel => exact ⟨m + 1 + 1, by omega, by go_num, HX.out, SW.drew⟩
        case measure => simp [intOf]; omega
  ·have hjj : j = xs.length := by omega
   subst hjj;have HX := qQ (show xM xs = decide (xs.length <= 4) by rw [xM, HI.out, qDE, Bool.true_and]);go_wp2;go_ret;exact ⟨qH (by rw [HX.out] <;> first | rfl | (rw [decide_eq_decide]; omega)), hb⟩
end
end Go.Proofs.YtgogjbnneoadkaaGreat
