/- Copies of the reference: affine expressions, accesses; the accesses that an expression reads. -/
import Derived.Test.YtbhniobgaoncaaaGreatDoorZpReads
import Derived.Test.YtbhniobgaoncaaaGreatDoorZpBasic
import Derived.Test.YtbhniobgaoncaaaGreatDoorZpScanI
import Derived.Test.YtbhniobgaoncaaaGreatDoorZpNestPoints
import Derived.Deep.RegionLaw
import Derived.Deep.RegionHeld3
set_option linter.all false
set_option linter.unusedSimpArgs false
set_option linter.unusedVariables false
namespace Go.Proofs.YtbhniobgaoncaaaGreatDoor
open Go.ChangeShapes Go.WideShapes Go.ChangeAt Go.RowKit Go.Deep

theorem Tryz.infoAff : (Tryz.prog.info? 46).map (fun i => (i.zero, i.size, decide (i.bytes ≤ 1024))) = some (some (.agg #[.slice none 0 0, .int .i64 0]), 2, true) := by kernel_rfl
theorem own_some {g o : Nat} {n c : Nat} {y : Nat} (h : y ∈ ownL (.slice (some ⟨g, o, none⟩) n c)) : y = g := by
  have h5 : some g = some y := mem_ownL.1 h
  exact (Option.some.inj h5).symm

theorem cell_toC {w w' : World} {g o : Nat} {u : Value} (h : w.cell? ⟨g, o, none⟩ = some u) (hb : Below w.heap.size w w') : w'.cell? ⟨g, o, none⟩ = some u := by rw [hb.cell (lt_of_cell h)]; exact h
set_option maxRecDepth 100000 in
set_option maxHeartbeats 4000000 in
theorem l3CopyAffine_c {w : World} {a : Aff} {cs : List Value} {bs : List Nat} (h : Rep w a.d cs bs) (hl : a.coefs.length ≤ 10000000) :
    Calls Tryz.prog 254 #[.agg cs.toArray] w (MadeAff w a) := by
  obtain ⟨A, c, d1, rfl, rfl, hra, hI⟩ := Rep.aff_iff2.1 h
  have hn : a.coefs.length ≤ 9223372036854775807 := by omega
  have HA := Lib.hid hra; clear hra h
  have HI := Lib.hid hI; clear hI
  by_cases h0 : a.coefs.length = 0
  · have q1 : ((a.coefs.length : Int) == 0) = true := ieq_t (by omega)
    have H0 := Lib.hid (List.eq_nil_of_length_eq_zero h0); clear h0
    go_enter Tryz.func254, Tryz.ntmps254
    go_wp2
    exact bodyPost_ret (v := .agg #[.slice none 0 0, .int .i64 a.const]) (by simp [results, Tryz.results254, go_sem]) rfl ⟨_, _, _, _, [], rfl, Rep.aff_iff.2 ⟨none, 0, 0, rfl, by rw [H0.out]; exact Rep.ints_nil (Nat.zero_le _), HI.out⟩, by simp, by simp, bel⟩
  have q1 : ((a.coefs.length : Int) == 0) = false := ieq_f (by omega)
  clear h0
  go_enter Tryz.func254, Tryz.ntmps254
  go_wp2_with fail
  go_region_held3 (fun w' => Box2 w' w.heap.size (.slice A a.coefs.length c) (.int .i64 a.const)) (first | (refine ⟨?_, ?_⟩ <;> (go_simp; done)) | exact Q4 | (refine Q4.to ?_; (repeat (first | with_reducible exact Below.refl _ _ | refine Below.setCell ?_ (by simp; try omega) _ | refine below_al ?_ _ | refine Below.alloc ?_ (by simp [World.setCell]; try omega) _ | refine below_drewN ?_ _ | refine Below.drew ?_ | refine below_tr ?_ ‹Below _ _ _›)); done) | skip)
    (first
      | (refine wp_append_copy (B := w.heap.size + 2) (.tmp 10) (.tmp 12) rfl Tryz.underlying44 Tryz.infoInt rfl ?hG rfl (HA.out.below bel) hl (by first | (simp; done) | (simp; omega) | omega) ?_
         case hG => (repeat (first | exact Grow.madeE _ _ (by simp) (by simp) | refine Grow.drewG ?_ | refine Grow.allocG ?_ _))
         intro v4 w4 hG4 hg4
         obtain ⟨A4, c4, bs4, rfl, r4, nd4, hb4, ho4⟩ := hG4.ints
         have Q4 : Box2 w4 w.heap.size (.slice A a.coefs.length c) (.int .i64 a.const) := hg4.touch.box2 ⟨by go_simp, by go_simp⟩ (fun hm => by have h6 := own_some hm; first | omega | (simp at h6; done) | (simp at h6; omega))
         have b4 : Below (w.heap.size + 2) _ w4 := hg4.below (by first | (simp; done) | (simp; omega) | omega) (fun y hy => by have h5 : some _ = some y := hy; have h6 := Option.some.inj h5; clear h5 hy; simp at h6; omega)
         have B4 := b4.mono (show w.heap.size ≤ w.heap.size + 2 by omega)
         clear hG4
         refine have_of (Q := BoxW w4 (w.heap.size + 1) (.slice none 0 0) (.int .i64 0)) ?hq ?_
         case hq => (refine hg4.touch.boxW ⟨⟨?_, ?_⟩, ?_, ?_⟩ ?_ <;> first | (go_simp; done) | (intro hm; have h6 := own_some hm; first | omega | (simp at h6; done) | (simp at h6; omega)))
         rintro ⟨⟨Q5a, Q5b⟩, Q5c, Q5d⟩))
  go_wp2
  have hnb : w.heap.size + 1 ∉ bs4 := fun hm => by have := hb4 _ hm; omega
  have S4 : Below w.heap.size w w4 := by
    refine Below.trans ?_ B4
    (repeat (first | with_reducible exact Below.refl _ _ | refine Below.setCell ?_ (by simp; try omega) _ | refine below_al ?_ _ | refine Below.alloc ?_ (by simp [World.setCell]; try omega) _ | refine below_drewN ?_ _ | refine Below.drew ?_ | refine below_tr ?_ ‹Below _ _ _›))
  exact bodyPost_ret (v := .agg #[.slice A4 a.coefs.length c4, .int .i64 a.const]) (by simp [results, Tryz.results254, go_sem, Q5a, Q5b]) rfl ⟨_, _, _, _, bs4, rfl, Rep.aff_iff.2 ⟨_, _, _, rfl, Rep.keep _ r4 (((Keeps.refl _ _).setCell hnb _).setCell hnb _), HI.out⟩, nd4, fun x hx => by have := hb4 x hx; omega, (S4.setCell (by simp; try omega) _).setCell (by simp; try omega) _⟩

set_option maxRecDepth 100000 in
set_option maxHeartbeats 8000000 in
theorem l3CopyAccess_c {w : World} {x : Acc} {cs : List Value} {bs : List Nat} (h : Rep w x.d cs bs) (hl : x.subs.length ≤ 1000000) (hs : ∀ t ∈ x.subs, t.coefs.length ≤ 10000000) :
    Calls Tryz.prog 222 #[.agg cs.toArray] w (MadeAcc w x) := by
  obtain ⟨A2, c2, d2, rfl, rfl, g1, g2⟩ := Rep.acc_iff.1 h
  have Garr := Lib.hid g1
  have Gsubs := Lib.hid g2
  clear h g1 g2
  have hn : x.subs.length ≤ 9223372036854775807 := by omega
  have HS := Lib.hid hs; clear hs
  go_enter Tryz.func222, Tryz.ntmps222
  go_wp2
  go_loopw [4] (fun i wr => ∃ (j : Nat) (u : Value), j ≤ x.subs.length ∧ i = .int .i64 j ∧ BoxW wr (w.heap.size + 2) (.string x.arr) u ∧ Grow wr (w.heap.size + 3) 46 2 u ((x.subs.take j).map Aff.d) ∧ Box2 wr w.heap.size (.string x.arr) (.slice A2 x.subs.length c2) ∧ BoxW wr (w.heap.size + 1) (.string ⟨#[]⟩) (.slice none 0 0) ∧ w.heap.size + 3 ≤ wr.heap.size ∧ Below w.heap.size w wr) (fun i _ => x.subs.length - (intOf i).toNat)
  case atStart => exact ⟨0, .slice none 0 0, Nat.zero_le _, rfl, ⟨⟨by go_simp, by go_simp⟩, by go_simp, by go_simp⟩, by simpa using Grow.nil _ _ _ _, ⟨by go_simp, by go_simp⟩, ⟨⟨by go_simp, by go_simp⟩, by go_simp, by go_simp⟩, by simp, bel⟩
  case round =>
    obtain ⟨j, u, hj, rfl, ⟨⟨k2a, k2b⟩, f2a, f2b⟩, hG, ⟨p0, p1⟩, hR, hz, hb⟩ := hrel
    have HR := Lib.hid hR; clear hR
    obtain ⟨Au, cu, hfu, _, _⟩ := hG.form
    rw [List.length_map, List.length_take] at hfu
    have HG := Lib.hid hG; clear hG
    by_cases hlt : j < x.subs.length
    · have HT := Lib.hid (show (x.subs.take (j + 1)).map Aff.d = (x.subs.take j).map Aff.d ++ [x.subs[j].d] by rw [List.take_succ_eq_append_getElem hlt, List.map_append]; rfl)
      have hsl := HS.out _ (List.getElem_mem hlt)
      obtain ⟨be, oe, cse, le, rfl, hble, hre, _, _, hce⟩ := (Gsubs.out.below hb).sls_at Aff.d_size (k := j) hlt
      have Ge := Lib.hid hre
      obtain ⟨A1e, c1e, d1e, rfl, rfl, g1e, g2e⟩ := Rep.aff_iff2.1 hre
      have k0e := (hce 0 _ rfl).1; rw [Nat.add_zero] at k0e
      have k1e := (hce 1 _ rfl).1
      have Q1e := Lib.hid g1e
      have Q2e := Lib.hid g2e
      clear hce hre g1e g2e
      have lt2 := lt_of_cell k2a
      have lt0 := lt_of_cell p0
      have hmin : min j x.subs.length = j := by omega
      rw [hmin] at hfu
      subst hfu
      have HOW := Lib.hid HG.out.own_ge
      clear hmin
      go_wp2_with fail
      go_region_law (first
        | (rw [if_pos (wanted_none rfl)]; go_simp; go_at_call 254; refine (l3CopyAffine_c (Ge.out.drewN 1) hsl).mono ?_; rintro e w1 ⟨A1, n1, c1, k1, bs1, rfl, r1, nd1, hb1, b1⟩; replace b1 := of_drew b1; have k2c := cell_toC k2b b1; have gl1 := Nat.lt_of_lt_of_le lt2 b1.size; have O1 := Lib.hid (one_newN (N := w1.heap.size) r1 46 rfl); have N1 := Lib.hid (And.intro nd1 hb1); have B1 := b1.alloc b1.size (.cells #[.slice A1 n1 c1, .int .i64 k1] 46); clear r1 nd1 hb1; go_wp2_with fail)
        | (rw [if_pos (wanted_none rfl)]
           refine wp_append_more (w0 := wr) (B := w.heap.size + 3) (xs := (x.subs.take j).map Aff.d) (ys := [x.subs[j].d]) (.tmp 16) (.tmp 23) _ rfl _ Tryz.underlying41 Tryz.infoAff rfl (by decide) rfl HG.out B1 rfl O1.out ?hys ?hn ?hf ?hlen hz ?_
           case hys => intro y hy; simp only [List.mem_singleton] at hy; rw [hy]; rfl
           case hn => exact N1.out.1
           case hf => exact N1.out.2
           case hlen => simp; omega
           intro v2 w4 hG4 hg4
           have B4 : Below (w.heap.size + 3) wr w4 := (B1.mono hz).trans (hg4.below (Nat.le_trans hz B1.size) (fun b hb => (HOW.out b hb).1))
           have X2 : BoxW w4 (w.heap.size + 2) (.string x.arr) (.slice Au j cu) := BoxW.toB ⟨⟨k2a, k2b⟩, f2a, f2b⟩ (by omega) B4
           have X0 : Box2 w4 w.heap.size (.string x.arr) _ := Box2.toB ⟨p0, p1⟩ (by omega) B4
           have XR := Lib.hid (BoxW.toB HR.out (by omega) B4)
           have XZ := B4.size
           obtain ⟨⟨k2d, k2e⟩, f2d, f2e⟩ := X2
           obtain ⟨A4, c4, hf4, _, _⟩ := hG4.form
           simp only [List.length_append, List.length_map, List.length_take, List.length_singleton] at hf4
           rw [show min j x.subs.length + 1 = j + 1 by omega] at hf4
           subst hf4
           rw [← HT.out] at hG4
           have HG4 := Lib.hid hG4
           have HX0 := Lib.hid X0
           have HB4 := Lib.hid (hb.trans (B4.mono (by omega)))
           clear hG4 hg4 k2c b1 B1 O1 N1 X0 B4))
      all_goals (
        go_wp2
        go_roundw
        case rel => exact ⟨j + 1, _, by omega, by go_num, ⟨⟨by go_simp, by go_simp⟩, by go_simp, by go_simp⟩, HG4.out.set_low (p := ⟨w.heap.size + 2, 1, none⟩) (by simp) _, HX0.out.set (by first | (simp; done) | (simp; omega)) _, ⟨Box2.set XR.out.1 (by first | (simp; done) | (simp; omega)) _, by rw [World.frozen?_setCell]; exact XR.out.2.1, by rw [World.frozen?_setCell]; exact XR.out.2.2⟩, by (simp [World.setCell]; try omega), HB4.out.setCell (by first | (simp; done) | (simp; omega)) _⟩
        case measure => simp [intOf]; omega)
    · have hjj : j = x.subs.length := by omega
      subst hjj
      have hmin : min x.subs.length x.subs.length = x.subs.length := by omega
      rw [hmin] at hfu
      subst hfu
      have hG := HG.out
      obtain ⟨A5, c5, bs5, he5, r5, nd5, hb5⟩ := hG.rep
      rw [List.length_map, List.length_take, Nat.min_self] at he5 r5
      simp only [Value.slice.injEq, true_and] at he5
      obtain ⟨rfl, rfl⟩ := he5
      rw [List.take_length] at r5
      have H5 := Lib.hid (And.intro r5 (And.intro nd5 hb5))
      clear hG r5 nd5 hb5
      obtain ⟨⟨m1, m2⟩, m3, m4⟩ := HR.out
      have lt1 := lt_of_cell m1
      go_wp2
      have hnb : w.heap.size + 1 ∉ bs5 := fun hm => by have := H5.out.2.2 _ hm; omega
      refine bodyPost_ret (v := .agg #[.string x.arr, .slice Au x.subs.length cu]) (by simp [results, Tryz.results222, go_sem, m1, m2]) rfl ⟨Au, cu, bs5, rfl, Rep.acc_iff.2 ⟨_, _, _, rfl, rfl, Garr.out, Rep.keep _ H5.out.1 (((Keeps.refl _ _).setCell hnb _).setCell hnb _)⟩, H5.out.2.1, fun y hy => by have := H5.out.2.2 y hy; omega, (hb.setCell (by simp) _).setCell (by simp) _⟩

def RdEx (x : Ex) : Prop := ∀ (L : Nat) (dp : Int) (w : World) (cs : List Value) (bs : List Nat) (Bg : Nat) (v : Value) (o : List Acc), exShape x dp L = true → L ≤ 5 → o.length + (readsF x).length ≤ 1000000 → Rep w x.d cs bs → Grow w Bg 43 2 v (o.map Acc.d) → Bg ≤ w.heap.size → (∀ y ∈ bs, v.ownBlock ≠ some y) →
    Calls Tryz.prog 170 #[v, .agg cs.toArray] w fun e w' => ∃ v', e = .returned v' ∧ Grow w' Bg 43 2 v' ((o ++ readsF x).map Acc.d) ∧ Grew w w' v v'
end Go.Proofs.YtbhniobgaoncaaaGreatDoor
