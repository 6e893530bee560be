/- The program's own copies: (Program).own. -/
import Derived.Test.YtgogjbnneoadkaaGreatZdOwnP
set_option linter.all false
set_option maxHeartbeats 16000000
set_option maxRecDepth 100000
namespace Go.Proofs.YtgogjbnneoadkaaGreat
open Go.ChangeShapes Go.WideShapes Go.ChangeAt Go.RowKit Go.Deep
def PgmSm (x : Pgm) : Prop := x.arrays.length ≤ 1000000 ∧ (∀ a ∈ x.arrays, a.dims.length ≤ 10000000) ∧ x.parts.length ≤ 1000000 ∧ ∀ p ∈ x.parts, PrtSm p
def MadePg (w : World) (x : Pgm) (e : Ending) (w' : World) : Prop :=
 ∃ A1 c1 d1 v B, e = .returned (.agg #[.slice A1 x.arrays.length c1, v]) ∧ Rep w' (sls Ar.d x.arrays) [.slice A1 x.arrays.length c1] d1 ∧ d1.Nodup ∧ (∀ y ∈ d1, w.heap.size ≤ y ∧ y < B) ∧ EGrow PrtO w' B 54 2 v x.parts ∧ w.heap.size ≤ B ∧ Below w.heap.size w w'
theorem MadePg.made {w w' : World} {x : Pgm} {e : Ending} (h : MadePg w x e w') : MadeT w x.d e w' := by
 obtain ⟨A1, c1, d1, v, B, rfl, h1, h2, h3, h4, h5, h6⟩ := h
 obtain ⟨A6, c6, bs6, rfl, r6, nd6, hb6⟩ := (h4.grow (f := Prt.d) PrtO.rep).rep
 rw [List.length_map] at r6
 rw [List.length_map]
 exact ⟨[.slice A1 x.arrays.length c1, .slice A6 x.parts.length c6], d1 ++ bs6, rfl, Rep.pgm_iff.2 ⟨_, _, _, _, _, _, rfl, rfl, h1, r6⟩, List.nodup_append.2 ⟨h2, nd6, fun y q1 z q2 e => by subst e; have := (h3 y q1).2; have := hb6 y q2; omega⟩, fun y hy => by
  rcases List.mem_append.1 hy with hy | hy
  ·exact (h3 y hy).1
  ·have := hb6 y hy; omega, h6⟩
theorem own_g {x : Pgm} {w : World} {cs : List Value} {bs : List Nat} (h : Rep w x.d cs bs) (hs : PgmSm x) :
  Calls Tryz.prog 82 #[.agg cs.toArray] w (MadePg w x) := by
 obtain ⟨A1, c1, A2, c2, d1, d2, rfl, rfl, g1, g2⟩ := Rep.pgm_iff.1 h
 have HA := Lib.hid g1
 have HB := Lib.hid g2
 have HS := Lib.hid hs
 have hal : x.arrays.length ≤ 1000000 := hs.1
 have hn1 : x.arrays.length ≤ 9223372036854775807 := by omega
 have hbl : x.parts.length ≤ 1000000 := hs.2.2.1
 have hn2 : x.parts.length ≤ 9223372036854775807 := by omega
 clear g1 g2 h hs
 go_enter Tryz.func82, Tryz.ntmps82
 go_wp2
 go_loopw [11] (fun i wr => ∃ (j : Nat) (u : Value), j ≤ x.arrays.length ∧ i = .int .i64 j ∧ BoxW wr (w.heap.size + 2) u (.slice none 0 0) ∧ Grow wr (w.heap.size + 3) 125 2 u ((x.arrays.take j).map Ar.d) ∧ BoxW wr (w.heap.size + 1) (.slice none 0 0) (.slice none 0 0) ∧ BoxW wr w.heap.size (.slice A1 x.arrays.length c1) (.slice A2 x.parts.length c2) ∧ w.heap.size + 3 ≤ wr.heap.size ∧ Below w.heap.size w wr) (fun i _ => x.arrays.length - (intOf i).toNat)
 case atStart => exact ⟨0, .slice none 0 0, Nat.zero_le _, rfl, ⟨⟨by go_simp, by go_simp⟩, by go_simp, by go_simp⟩, by simpa using Grow.nil _ _ _ _, ⟨⟨by go_simp, by go_simp⟩, by go_simp, by go_simp⟩, ⟨⟨by go_simp, by go_simp⟩, by go_simp, by go_simp⟩, by simp, bel⟩
 case round =>
  obtain ⟨j, u, hj, rfl, ⟨⟨k2a, k2b⟩, f2a, f2b⟩, hG, hR, hX, hz, hb⟩ := hrel
  have HR := Lib.hid hR; clear hR
  obtain ⟨⟨p0, p1⟩, z0, z1⟩ := hX
  have HX := Lib.hid (show BoxW wr w.heap.size (.slice A1 x.arrays.length c1) (.slice A2 x.parts.length c2) from ⟨⟨p0, p1⟩, z0, z1⟩)
  obtain ⟨Au, cu, hfu, _, _⟩ := hG.form
  rw [List.length_map, List.length_take] at hfu
  have HG := Lib.hid hG; clear hG
  by_cases hlt : j < x.arrays.length
  ·have HT := Lib.hid (show (x.arrays.take (j + 1)).map Ar.d = (x.arrays.take j).map Ar.d ++ [x.arrays[j].d] by rw [List.take_succ_eq_append_getElem hlt, List.map_append]; rfl)
   have HV := Lib.hid (HS.out.2.1 _ (List.getElem_mem hlt))
   obtain ⟨be, oe, cse, le, rfl, hble, hre, _, _, hce⟩ := (HA.out.below hb).sls_at Ar.d_size (k := j) hlt
   have Ge := Lib.hid hre
   obtain ⟨A2e, c2e, d2e, rfl, rfl, g1e, g2e⟩ := Rep.ar_iff.1 hre
   have k0e := (hce 0 _ rfl).1; rw [Nat.add_zero] at k0e
   have k1e := (hce 1 _ rfl).1
   have Q1e := Lib.hid g1e
   have Q2e := Lib.hid g2e
   clear hce hre g1e g2e
   have lt2 := lt_of_cell k2a
   have hmin : min j x.arrays.length = j := by omega
   rw [hmin] at hfu
   subst hfu
   have HOW := Lib.hid HG.out.own_ge
   obtain ⟨a, ha⟩ : ∃ a, a = x.arrays[j] := ⟨_, rfl⟩
   rw [← ha] at k0e k1e HT HV Q1e Q2e
   clear hmin ha p0 p1 z0 z1
   go_wp2_with fail
   refine wp_region_noPanic ?_
   refine wp_regionT (S := fun w' => Box2 w' (w.heap.size + 2) (.slice Au j cu) (.slice none 0 0) ∧ Box2 w' wr.heap.size (.string a.name) (.slice A2e a.dims.length c2e)) 11 (by kernel_rfl) (⟨⟨by go_simp, by go_simp⟩, by go_simp, by go_simp⟩) (fun hHeld => ?_)
   refine goU 0 (fun _ => hHeld) ?_
   refine goT 1 hHeld ?_
   refine goU 2 (fun _ => hHeld) ?_
   refine goT 3 hHeld ?_
   refine goU 4 (fun _ => hHeld) ?_
   refine goT 5 hHeld ?_
   refine readyT (rs := [6]) (by kernel_rfl) (by simp) (all1 ?_)
   refine opT (i := 6) rfl (wanted_none rfl) (fun K hK => ?_)
   go_simp
   (refine (Clone_int_g (Q2e.out.below bel) HV.out).mono ?_; rintro e w2 ⟨v2, rfl, hg2, b2⟩; obtain ⟨A2q, c2q, bs2, rfl, r2, nd2, hb2, _⟩ := hg2.ints; have B2 : Below wr.heap.size wr w2 := bel; have O1 := Lib.hid (one_newN (N := w2.heap.size) (Rep.ar_iff (x := a).2 ⟨_, _, _, rfl, rfl, Q1e.out, r2⟩) 125 rfl); have N2 := Lib.hid (And.intro nd2 (show ∀ y ∈ bs2, wr.heap.size ≤ y from fun y hy => by have := hb2 y hy; simp at this; omega)); clear r2 nd2 hb2 hg2)
   go_wp2_with fail
   refine hK.out _ _ (⟨hHeld.1.to b2, hHeld.2.to b2⟩) (fun hHeld => ?_)
   clear hK K
   try simp only [Act.put, aq0, aq1, aq2]
   refine goU 7 (fun _ => hHeld) ?_
   refine readyT (rs := [8]) (by kernel_rfl) (by simp) (all1 ?_)
   refine opT (i := 8) rfl (wanted_none rfl) (fun K hK => ?_)
   (unfold Oper.wp; go_simp)
   refine hK.out _ _ (⟨hHeld.1.to ((Below.refl _ _).alloc (Nat.le_refl _) _), hHeld.2.to ((Below.refl _ _).alloc (Nat.le_refl _) _)⟩) (fun hHeld => ?_)
   clear hK K
   try simp only [Act.put, aq0, aq1, aq2]
   refine readyT (rs := [9]) (by kernel_rfl) (by simp) (all1 ?_)
   refine opT (i := 9) rfl (wanted_none rfl) (fun K hK => ?_)
   (refine wp_append_more (w0 := wr) (B := w.heap.size + 3) (xs := (x.arrays.take j).map Ar.d) (ys := [a.d]) (.tmp 16) (.tmp 23) _ rfl _ Tryz.underlying27 Tryz.infoArray rfl (by decide) rfl HG.out ?hbw rfl O1.out ?hys ?hn ?hf ?hlen hz ?_; (case hbw => exact bel); (case hys => (intro y hy; simp only [List.mem_singleton] at hy; rw [hy]; rfl)); (case hn => exact N2.out.1); (case hf => exact N2.out.2); (case hlen => (simp; omega)); intro v2 w4 hG4 hg4; have B4 : Below (w.heap.size + 3) wr w4 := ((B2.alloc B2.size _).mono hz).trans (hg4.below (Nat.le_trans hz (Nat.le_trans B2.size (by simp))) (fun b hb => (HOW.out b hb).1)); have X2 : BoxW w4 (w.heap.size + 2) (.slice Au j cu) (.slice none 0 0) := BoxW.toB ⟨⟨k2a, k2b⟩, f2a, f2b⟩ (by omega) B4; have XR := Lib.hid (BoxW.toB HR.out (by omega) B4); have XX := Lib.hid (BoxW.toB HX.out (by omega) B4); have XZ := B4.size; obtain ⟨⟨k2d, k2e⟩, f2d, f2e⟩ := X2; obtain ⟨A4, c4, hf4, _, _⟩ := hG4.form; simp only [List.length_append, List.length_map, List.length_take, List.length_singleton] at hf4; rw [show min j x.arrays.length + 1 = j + 1 by omega] at hf4; subst hf4; rw [← HT.out] at hG4; have HG4 := Lib.hid hG4; have HB4 := Lib.hid (hb.trans (B4.mono (by omega))))
   refine hK.out _ _ (⟨hg4.touch.box2 hHeld.1 (fun hm => by have := (HOW.out _ (mem_ownL.1 hm)).1; omega), hg4.touch.box2 hHeld.2 (fun hm => by have := (HOW.out _ (mem_ownL.1 hm)).2; omega)⟩) (fun hHeld => ?_)
   clear hK K
   try simp only [Act.put, aq0, aq1, aq2]
   refine goU 10 (fun _ => hHeld) ?_
   refine readyT (rs := [11]) (by kernel_rfl) (by simp) (all1 ?_)
   refine opTT (i := 11) rfl (wanted_none rfl) (by kernel_rfl) (fun K hK => ?_)
   (unfold Oper.wp; go_simp)
   refine hK.out _ _ ?_
   clear hK K
   try simp only [Act.put, aq0, aq1, aq2]
   refine wpAnyT_done (by kernel_rfl) ?_ _
   refine NoPanic.normal ?_
   (go_wp2; go_roundw; (case rel => exact ⟨j + 1, _, by omega, by go_num, ⟨⟨by go_simp, by go_simp⟩, by go_simp, by go_simp⟩, HG4.out.set_low (p := ⟨w.heap.size + 2, 0, none⟩) (by simp) _, ⟨Box2.set XR.out.1 (by first | (simp; done) | (simp; omega)) _, by rw [World.frozen?_setCell]; exact XR.out.2.1, by rw [World.frozen?_setCell]; exact XR.out.2.2⟩, ⟨Box2.set XX.out.1 (by first | (simp; done) | (simp; omega)) _, by rw [World.frozen?_setCell]; exact XX.out.2.1, by rw [World.frozen?_setCell]; exact XX.out.2.2⟩, by (simp [World.setCell]; omega), HB4.out.setCell (by first | (simp; done) | (simp; omega)) _⟩); (case measure => (simp [intOf]; omega)))
  ·have hjj : j = x.arrays.length := by omega
   subst hjj
   have hmin : min x.arrays.length x.arrays.length = x.arrays.length := by omega
   rw [hmin] at hfu
   subst hfu
   have hG := HG.out
   obtain ⟨A5, c5, bs5, he5, r5, nd5, hb5⟩ := hG.rep
   rw [List.length_map, List.length_take, Nat.min_self] at he5 r5
   simp only [Value.slice.injEq, true_and] at he5
   obtain ⟨rfl, rfl⟩ := he5
   rw [List.take_length] at r5
   have L5 := Lib.hid (Rep.lt _ r5)
   have N5 := Lib.hid (And.intro nd5 hb5)
   have R5 := Lib.hid (show Rep wr (sls Ar.d x.arrays) [.slice Au x.arrays.length cu] bs5 from r5)
   clear hG r5 nd5 hb5 HG
   obtain ⟨wo, rfl⟩ : ∃ wo, wo = wr := ⟨_, rfl⟩
   have lt2 := lt_of_cell k2a
   have lt0 := lt_of_cell p0
   go_wp2
   go_loopw [30] (fun i wv => ∃ (k : Nat) (v : Value), k ≤ x.parts.length ∧ i = .int .i64 k ∧ BoxW wv (w.heap.size + 2) (.slice Au x.arrays.length cu) v ∧ EGrow PrtO wv wo.heap.size 54 2 v (x.parts.take k) ∧ BoxW wv (w.heap.size + 1) (.slice none 0 0) (.slice none 0 0) ∧ Rep wv (sls Ar.d x.arrays) [.slice Au x.arrays.length cu] bs5 ∧ wo.heap.size ≤ wv.heap.size ∧ Below w.heap.size w wv) (fun i _ => x.parts.length - (intOf i).toNat)
   case atStart => exact ⟨0, .slice none 0 0, Nat.zero_le _, rfl, ⟨⟨k2a, k2b⟩, f2a, f2b⟩, by simpa using EGrow.nil _ _ _ _, HR.out, R5.out, Nat.le_refl _, hb⟩
   case round =>
    obtain ⟨wv, rfl⟩ : ∃ wv, wv = wr := ⟨_, rfl⟩
    obtain ⟨k, v, hk, rfl, ⟨⟨m2a, m2b⟩, n2a, n2b⟩, hP, hQ, hA5, hz2, hb2⟩ := hrel
    have HQ := Lib.hid hQ; clear hQ
    have HA5 := Lib.hid hA5; clear hA5
    obtain ⟨Av, cv, hfv, _, _⟩ := hP.form
    rw [List.length_take] at hfv
    have HP := Lib.hid hP; clear hP
    clear k2a k2b f2a f2b p0 p1 z0 z1 HX
    by_cases hkt : k < x.parts.length
    ·have HT := Lib.hid (show x.parts.take (k + 1) = x.parts.take k ++ [x.parts[k]] by rw [List.take_succ_eq_append_getElem hkt])
     have HV := Lib.hid (HS.out.2.2.2 _ (List.getElem_mem hkt))
     obtain ⟨bf, of, csf, lf, rfl, hblf, hrf, _, _, hcf⟩ := (HB.out.below hb2).sls_at Prt.d_size (k := k) hkt
     have Gf := Lib.hid hrf
     obtain ⟨A1f, c1f, A2f, c2f, d1f, d2f, rfl, rfl, g1f, g2f⟩ := Rep.prt_iff.1 hrf
     have k0f := (hcf 0 _ rfl).1; rw [Nat.add_zero] at k0f
     have k1f := (hcf 1 _ rfl).1
     have Q1f := Lib.hid g1f
     have Q2f := Lib.hid g2f
     clear hcf hrf g1f g2f
     have lt2' := lt_of_cell m2a
     have hmin : min k x.parts.length = k := by omega
     rw [hmin] at hfv
     subst hfv
     have HOW := Lib.hid HP.out.own_ge
     obtain ⟨a, ha⟩ : ∃ a, a = x.parts[k] := ⟨_, rfl⟩
     rw [← ha] at k0f k1f HT HV Gf
     clear hmin ha
     go_wp2_with fail
     refine wp_region_noPanic ?_
     refine wp_regionT (S := fun w' => Box2 w' (w.heap.size + 2) (.slice Au x.arrays.length cu) (.slice Av k cv) ∧ Box2 w' wv.heap.size (.slice A1f a.nest.length c1f) (.slice A2f a.body.length c2f)) 7 (by kernel_rfl) (⟨⟨by go_simp, by go_simp⟩, by go_simp, by go_simp⟩) (fun hHeld => ?_)
     refine goU 0 (fun _ => hHeld) ?_
     refine goT 1 hHeld ?_
     refine goT 2 hHeld ?_
     refine readyT (rs := [3]) (by kernel_rfl) (by simp) (all1 ?_)
     refine opT (i := 3) rfl (wanted_none rfl) (fun K hK => ?_)
     go_simp
     (refine (ownPart_c (Gf.out.below bel) HV.out).mono ?_; rintro e w2 ⟨A1r, c1r, A2r, c2r, bs2, rfl, r2, nd2, hb2', b2⟩; have B2 : Below wv.heap.size wv w2 := bel; have O1 := Lib.hid (And.intro (PrtO.ek.keep r2 ((Keeps.refl w2 bs2).alloc (PrtO.ek.lt r2) (.cells #[.slice A1r a.nest.length c1r, .slice A2r a.body.length c2r] 54))) (new_cells w2 [.slice A1r a.nest.length c1r, .slice A2r a.body.length c2r] 54)); have N2 := Lib.hid (And.intro nd2 (show ∀ y ∈ bs2, wv.heap.size ≤ y from fun y hy => by have := hb2' y hy; simp at this; omega)); clear r2 nd2 hb2')
     go_wp2_with fail
     refine hK.out _ _ (⟨hHeld.1.to b2, hHeld.2.to b2⟩) (fun hHeld => ?_)
     clear hK K
     try simp only [Act.put, aq0, aq1, aq2]
     refine readyT (rs := [4]) (by kernel_rfl) (by simp) (all1 ?_)
     refine opT (i := 4) rfl (wanted_none rfl) (fun K hK => ?_)
     (unfold Oper.wp; go_simp)
     refine hK.out _ _ (⟨hHeld.1.to ((Below.refl _ _).alloc (Nat.le_refl _) _), hHeld.2.to ((Below.refl _ _).alloc (Nat.le_refl _) _)⟩) (fun hHeld => ?_)
     clear hK K
     try simp only [Act.put, aq0, aq1, aq2]
     refine readyT (rs := [5]) (by kernel_rfl) (by simp) (all1 ?_)
     refine opT (i := 5) rfl (wanted_none rfl) (fun K hK => ?_)
     (refine wp_append_E PrtO.ek (w0 := wv) (B := wo.heap.size) (xs := x.parts.take k) (y := a) (.tmp 35) (.tmp 38) _ rfl _ Tryz.underlying28 Tryz.infoPart rfl (by decide) rfl HP.out ?hbw rfl O1.out.1 N2.out.1 N2.out.2 O1.out.2 ?hlen hz2 ?_; (case hbw => exact bel); (case hlen => (simp; omega)); intro v2 w4 hG4 hg4; have B4 : Below wo.heap.size wv w4 := ((B2.alloc B2.size _).mono hz2).trans (hg4.below (Nat.le_trans hz2 (Nat.le_trans B2.size (by simp))) (fun b hb => (HOW.out b hb).1)); have X2 : BoxW w4 (w.heap.size + 2) (.slice Au x.arrays.length cu) (.slice Av k cv) := BoxW.toB ⟨⟨m2a, m2b⟩, n2a, n2b⟩ (by omega) B4; have XR := Lib.hid (BoxW.toB HQ.out (by omega) B4); have XA := Lib.hid (Rep.keep _ HA5.out (Keeps.of_below B4 L5.out)); have XZ := B4.size; obtain ⟨⟨m2d, m2e⟩, n2d, n2e⟩ := X2; obtain ⟨A4, c4, hf4, _, _⟩ := hG4.form; simp only [List.length_append, List.length_map, List.length_take, List.length_singleton] at hf4; rw [show min k x.parts.length + 1 = k + 1 by omega] at hf4; subst hf4; rw [← HT.out] at hG4; have HG4 := Lib.hid hG4; have HB4 := Lib.hid (hb2.trans (B4.mono (by omega))))
     refine hK.out _ _ (⟨hg4.touch.box2 hHeld.1 (fun hm => by have := (HOW.out _ (mem_ownL.1 hm)).1; omega), hg4.touch.box2 hHeld.2 (fun hm => by have := (HOW.out _ (mem_ownL.1 hm)).2; omega)⟩) (fun hHeld => ?_)
     clear hK K
     try simp only [Act.put, aq0, aq1, aq2]
     refine goU 6 (fun _ => hHeld) ?_
     refine readyT (rs := [7]) (by kernel_rfl) (by simp) (all1 ?_)
     refine opTT (i := 7) rfl (wanted_none rfl) (by kernel_rfl) (fun K hK => ?_)
     (unfold Oper.wp; go_simp)
     refine hK.out _ _ ?_
     clear hK K
     try simp only [Act.put, aq0, aq1, aq2]
     refine wpAnyT_done (by kernel_rfl) ?_ _
     refine NoPanic.normal ?_
     (go_wp2; go_roundw; (case rel => exact ⟨k + 1, _, by omega, by go_num, ⟨⟨by go_simp, by go_simp⟩, by go_simp, by go_simp⟩, HG4.out.set_low PrtO.ek (p := ⟨w.heap.size + 2, 1, none⟩) (by first | (simp; done) | (simp; omega)) _, ⟨Box2.set XR.out.1 (by first | (simp; done) | (simp; omega)) _, by rw [World.frozen?_setCell]; exact XR.out.2.1, by rw [World.frozen?_setCell]; exact XR.out.2.2⟩, Rep.keep _ XA.out ((Keeps.refl _ _).setCell (fun hm => by have := N5.out.2 _ hm; simp at this; omega) _), by (simp [World.setCell]; omega), HB4.out.setCell (by first | (simp; done) | (simp; omega)) _⟩); (case measure => (simp [intOf]; omega)))
    ·have hkk : k = x.parts.length := by omega
     subst hkk
     have hmin : min x.parts.length x.parts.length = x.parts.length := by omega
     rw [hmin] at hfv
     subst hfv
     have hG := HP.out
     rw [List.take_length] at hG
     have H6 := Lib.hid hG
     clear hG
     obtain ⟨⟨m1, m2⟩, m3, m4⟩ := HQ.out
     have lt1 := lt_of_cell m1
     have lt2' := lt_of_cell m2a
     go_wp2
     have hnb : w.heap.size + 1 ∉ bs5 := fun hm => by have := N5.out.2 _ hm; omega
     exact bodyPost_ret (v := .agg #[.slice Au x.arrays.length cu, .slice Av x.parts.length cv]) (by simp [results, Tryz.results82, go_sem, m1, m2]) rfl ⟨Au, cu, bs5, .slice Av x.parts.length cv, wo.heap.size, rfl, Rep.keep _ HA5.out (((Keeps.refl _ _).setCell hnb _).setCell hnb _), N5.out.1, fun y hy => ⟨by have := N5.out.2 y hy; omega, L5.out y hy⟩, (H6.out.set_low PrtO.ek (by simp; omega) _).set_low PrtO.ek (by simp; omega) _, by omega, (hb2.setCell (by simp) _).setCell (by simp) _⟩
theorem own_c {x : Pgm} {w : World} {cs : List Value} {bs : List Nat} (h : Rep w x.d cs bs) (hs : PgmSm x) :
  Calls Tryz.prog 82 #[.agg cs.toArray] w (MadeT w x.d) := (own_g h hs).mono fun _ _ h => h.made
end Go.Proofs.YtgogjbnneoadkaaGreat
