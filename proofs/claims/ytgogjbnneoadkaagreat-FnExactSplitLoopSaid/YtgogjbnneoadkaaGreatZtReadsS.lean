/- The accesses that an expression reads, copied: l3Reads of the reference. -/
import Derived.Test.YtgogjbnneoadkaaGreatZtReads
import Derived.Test.YtgogjbnneoadkaaGreatZtBasic
import Derived.Test.YtgogjbnneoadkaaGreatZtScanI
import Derived.Test.YtgogjbnneoadkaaGreatZtNestPoints
import Derived.Deep.RegionLaw
import Derived.Deep.RegionHeld3
import Derived.Test.YtgogjbnneoadkaaGreatZtStmtOk
set_option linter.all false
set_option maxHeartbeats 8000000
set_option maxRecDepth 100000
namespace Go.Proofs.YtgogjbnneoadkaaGreat
open Go.ChangeShapes Go.WideShapes Go.ChangeAt Go.RowKit Go.Deep
theorem Tryz.infoAff : (Tryz.prog.info? 61).map (fun i => (i.zero, i.size, decide (i.bytes ≤ 1024))) = some (some (.agg #[.slice none 0 0, .int .i64 0]), 2, true) := by kernel_rfl
theorem own_some {g o : Nat} {n c : Nat} {y : Nat} (h : y ∈ ownL (.slice (some ⟨g, o, none⟩) n c)) : y = g := by
 have h5 : some g = some y := mem_ownL.1 h
 exact (Option.some.inj h5).symm
theorem cell_toC {w w' : World} {g o : Nat} {u : Value} (h : w.cell? ⟨g, o, none⟩ = some u) (hb : Below w.heap.size w w') : w'.cell? ⟨g, o, none⟩ = some u := by rw [hb.cell (lt_of_cell h)]; exact h
theorem l3CopyAffine_c {w : World} {a : Aff} {cs : List Value} {bs : List Nat} (h : Rep w a.d cs bs) (hl : a.coefs.length ≤ 10000000) :
  Calls Tryz.prog 197 #[.agg cs.toArray] w (MadeAff w a) := by
 obtain ⟨A, c, d1, rfl, rfl, hra, hI⟩ := Rep.aff_iff2.1 h
 have hn : a.coefs.length ≤ 9223372036854775807 := by omega
 have HA := Lib.hid hra; clear hra h
 have HI := Lib.hid hI; clear hI
 by_cases h0 : a.coefs.length = 0
 ·have q1 : ((a.coefs.length : Int) == 0) = true := ieq_t (by omega)
  have H0 := Lib.hid (List.eq_nil_of_length_eq_zero h0); clear h0
  go_enter Tryz.func197, Tryz.ntmps197
  go_wp2
  exact bodyPost_ret (v := .agg #[.slice none 0 0, .int .i64 a.const]) (by simp [results, Tryz.results197, go_sem]) rfl ⟨_, _, _, _, [], rfl, Rep.aff_iff.2 ⟨none, 0, 0, rfl, by rw [H0.out]; exact Rep.ints_nil (Nat.zero_le _), HI.out⟩, by simp, by simp, bel⟩
 have q1 : ((a.coefs.length : Int) == 0) = false := ieq_f (by omega)
 clear h0
 go_enter Tryz.func197, Tryz.ntmps197
 go_wp2_with fail
 go_region_held3 (fun w' => Box2 w' w.heap.size (.slice A a.coefs.length c) (.int .i64 a.const)) (first | (refine ⟨?_, ?_⟩ <;> (go_simp; done)) | exact Q4 | (refine Q4.to ?_; (repeat (first | with_reducible exact Below.refl _ _ | refine Below.setCell ?_ (by simp; try omega) _ | refine below_al ?_ _ | refine Below.alloc ?_ (by simp [World.setCell]; try omega) _ | refine below_drewN ?_ _ | refine Below.drew ?_ | refine below_tr ?_ ‹Below _ _ _›)); done) | skip)
  (first
   |(refine wp_append_copy (B := w.heap.size + 2) (.tmp 10) (.tmp 12) rfl Tryz.underlying39 Tryz.infoInt rfl ?hG rfl (HA.out.below bel) hl (by first | (simp; done) | (simp; omega) | omega) ?_
     case hG => (repeat (first | exact Grow.madeE _ _ (by simp) (by simp) | refine Grow.drewG ?_ | refine Grow.allocG ?_ _))
     intro v4 w4 hG4 hg4
     obtain ⟨A4, c4, bs4, rfl, r4, nd4, hb4, ho4⟩ := hG4.ints
     have Q4 : Box2 w4 w.heap.size (.slice A a.coefs.length c) (.int .i64 a.const) := hg4.touch.box2 ⟨by go_simp, by go_simp⟩ (fun hm => by have h6 := own_some hm; first | omega | (simp at h6; done) | (simp at h6; omega))
     have b4 : Below (w.heap.size + 2) _ w4 := hg4.below (by first | (simp; done) | (simp; omega) | omega) (fun y hy => by have h5 : some _ = some y := hy; have h6 := Option.some.inj h5; clear h5 hy; simp at h6; omega)
     have B4 := b4.mono (show w.heap.size ≤ w.heap.size + 2 by omega)
     clear hG4
     refine have_of (Q := BoxW w4 (w.heap.size + 1) (.slice none 0 0) (.int .i64 0)) ?hq ?_
     case hq => (refine hg4.touch.boxW ⟨⟨?_, ?_⟩, ?_, ?_⟩ ?_ <;> first | (go_simp; done) | (intro hm; have h6 := own_some hm; first | omega | (simp at h6; done) | (simp at h6; omega)))
     rintro ⟨⟨Q5a, Q5b⟩, Q5c, Q5d⟩))
 go_wp2
 have hnb : w.heap.size + 1 ∉ bs4 := fun hm => by have := hb4 _ hm; omega
 have S4 : Below w.heap.size w w4 := by
  refine Below.trans ?_ B4
  (repeat (first | with_reducible exact Below.refl _ _ | refine Below.setCell ?_ (by simp; try omega) _ | refine below_al ?_ _ | refine Below.alloc ?_ (by simp [World.setCell]; try omega) _ | refine below_drewN ?_ _ | refine Below.drew ?_ | refine below_tr ?_ ‹Below _ _ _›))
 exact bodyPost_ret (v := .agg #[.slice A4 a.coefs.length c4, .int .i64 a.const]) (by simp [results, Tryz.results197, go_sem, Q5a, Q5b]) rfl ⟨_, _, _, _, bs4, rfl, Rep.aff_iff.2 ⟨_, _, _, rfl, Rep.keep _ r4 (((Keeps.refl _ _).setCell hnb _).setCell hnb _), HI.out⟩, nd4, fun x hx => by have := hb4 x hx; omega, (S4.setCell (by simp; try omega) _).setCell (by simp; try omega) _⟩
theorem l3CopyAccess_c {w : World} {x : Acc} {cs : List Value} {bs : List Nat} (h : Rep w x.d cs bs) (hl : x.subs.length ≤ 1000000) (hs : ∀ t ∈ x.subs, t.coefs.length ≤ 10000000) :
  Calls Tryz.prog 158 #[.agg cs.toArray] w (MadeAcc w x) := by
 obtain ⟨A2, c2, d2, rfl, rfl, g1, g2⟩ := Rep.acc_iff.1 h
 have Garr := Lib.hid g1
 have Gsubs := Lib.hid g2
 clear h g1 g2
 have hn : x.subs.length ≤ 9223372036854775807 := by omega
 have HS := Lib.hid hs; clear hs
 go_enter Tryz.func158, Tryz.ntmps158
 go_wp2
 go_loopw [4] (fun i wr => ∃ (j : Nat) (u : Value), j ≤ x.subs.length ∧ i = .int .i64 j ∧ BoxW wr (w.heap.size + 2) (.string x.arr) u ∧ Grow wr (w.heap.size + 3) 61 2 u ((x.subs.take j).map Aff.d) ∧ Box2 wr w.heap.size (.string x.arr) (.slice A2 x.subs.length c2) ∧ BoxW wr (w.heap.size + 1) (.string ⟨#[]⟩) (.slice none 0 0) ∧ w.heap.size + 3 ≤ wr.heap.size ∧ Below w.heap.size w wr) (fun i _ => x.subs.length - (intOf i).toNat)
 case atStart => exact ⟨0, .slice none 0 0, Nat.zero_le _, rfl, ⟨⟨by go_simp, by go_simp⟩, by go_simp, by go_simp⟩, by simpa using Grow.nil _ _ _ _, ⟨by go_simp, by go_simp⟩, ⟨⟨by go_simp, by go_simp⟩, by go_simp, by go_simp⟩, by simp, bel⟩
 case round =>
  obtain ⟨j, u, hj, rfl, ⟨⟨k2a, k2b⟩, f2a, f2b⟩, hG, ⟨p0, p1⟩, hR, hz, hb⟩ := hrel
  have HR := Lib.hid hR; clear hR
  obtain ⟨Au, cu, hfu, _, _⟩ := hG.form
  rw [List.length_map, List.length_take] at hfu
  have HG := Lib.hid hG; clear hG
  by_cases hlt : j < x.subs.length
  ·have HT := Lib.hid (show (x.subs.take (j + 1)).map Aff.d = (x.subs.take j).map Aff.d ++ [x.subs[j].d] by rw [List.take_succ_eq_append_getElem hlt, List.map_append]; rfl)
   have hsl := HS.out _ (List.getElem_mem hlt)
   obtain ⟨be, oe, cse, le, rfl, hble, hre, _, _, hce⟩ := (Gsubs.out.below hb).sls_at Aff.d_size (k := j) hlt
   have Ge := Lib.hid hre
   obtain ⟨A1e, c1e, d1e, rfl, rfl, g1e, g2e⟩ := Rep.aff_iff2.1 hre
   have k0e := (hce 0 _ rfl).1; rw [Nat.add_zero] at k0e
   have k1e := (hce 1 _ rfl).1
   have Q1e := Lib.hid g1e
   have Q2e := Lib.hid g2e
   clear hce hre g1e g2e
   have lt2 := lt_of_cell k2a
   have lt0 := lt_of_cell p0
   have hmin : min j x.subs.length = j := by omega
   rw [hmin] at hfu
   subst hfu
   have HOW := Lib.hid HG.out.own_ge
   clear hmin
   go_wp2_with fail
   go_region_law (first
    | (rw [if_pos (wanted_none rfl)]; go_simp; go_at_call 197; refine (l3CopyAffine_c (Ge.out.drewN 1) hsl).mono ?_; rintro e w1 ⟨A1, n1, c1, k1, bs1, rfl, r1, nd1, hb1, b1⟩; replace b1 := of_drew b1; have k2c := cell_toC k2b b1; have gl1 := Nat.lt_of_lt_of_le lt2 b1.size; have O1 := Lib.hid (one_newN (N := w1.heap.size) r1 61 rfl); have N1 := Lib.hid (And.intro nd1 hb1); have B1 := b1.alloc b1.size (.cells #[.slice A1 n1 c1, .int .i64 k1] 61); clear r1 nd1 hb1; go_wp2_with fail)
    |(rw [if_pos (wanted_none rfl)]
      refine wp_append_more (w0 := wr) (B := w.heap.size + 3) (xs := (x.subs.take j).map Aff.d) (ys := [x.subs[j].d]) (.tmp 16) (.tmp 23) _ rfl _ Tryz.underlying57 Tryz.infoAff rfl (by decide) rfl HG.out B1 rfl O1.out ?hys ?hn ?hf ?hlen hz ?_
      case hys => intro y hy; simp only [List.mem_singleton] at hy; rw [hy]; rfl
      case hn => exact N1.out.1
      case hf => exact N1.out.2
      case hlen => simp; omega
      intro v2 w4 hG4 hg4
      have B4 : Below (w.heap.size + 3) wr w4 := (B1.mono hz).trans (hg4.below (Nat.le_trans hz B1.size) (fun b hb => (HOW.out b hb).1))
      have X2 : BoxW w4 (w.heap.size + 2) (.string x.arr) (.slice Au j cu) := BoxW.toB ⟨⟨k2a, k2b⟩, f2a, f2b⟩ (by omega) B4
      have X0 : Box2 w4 w.heap.size (.string x.arr) _ := Box2.toB ⟨p0, p1⟩ (by omega) B4
      have XR := Lib.hid (BoxW.toB HR.out (by omega) B4)
      have XZ := B4.size
      obtain ⟨⟨k2d, k2e⟩, f2d, f2e⟩ := X2
      obtain ⟨A4, c4, hf4, _, _⟩ := hG4.form
      simp only [List.length_append, List.length_map, List.length_take, List.length_singleton] at hf4
      rw [show min j x.subs.length + 1 = j + 1 by omega] at hf4
      subst hf4
      rw [← HT.out] at hG4
      have HG4 := Lib.hid hG4
      have HX0 := Lib.hid X0
      have HB4 := Lib.hid (hb.trans (B4.mono (by omega)))
      clear hG4 hg4 k2c b1 B1 O1 N1 X0 B4))
   all_goals (
    go_wp2
    go_roundw
    case rel => exact ⟨j + 1, _, by omega, by go_num, ⟨⟨by go_simp, by go_simp⟩, by go_simp, by go_simp⟩, HG4.out.set_low (p := ⟨w.heap.size + 2, 1, none⟩) (by simp) _, HX0.out.set (by first | (simp; done) | (simp; omega)) _, ⟨Box2.set XR.out.1 (by first | (simp; done) | (simp; omega)) _, by rw [World.frozen?_setCell]; exact XR.out.2.1, by rw [World.frozen?_setCell]; exact XR.out.2.2⟩, by (simp [World.setCell]; try omega), HB4.out.setCell (by first | (simp; done) | (simp; omega)) _⟩
    case measure => simp [intOf]; omega)
  ·have hjj : j = x.subs.length := by omega
   subst hjj
   have hmin : min x.subs.length x.subs.length = x.subs.length := by omega
   rw [hmin] at hfu
   subst hfu
   have hG := HG.out
   obtain ⟨A5, c5, bs5, he5, r5, nd5, hb5⟩ := hG.rep
   rw [List.length_map, List.length_take, Nat.min_self] at he5 r5
   simp only [Value.slice.injEq, true_and] at he5
   obtain ⟨rfl, rfl⟩ := he5
   rw [List.take_length] at r5
   have H5 := Lib.hid (And.intro r5 (And.intro nd5 hb5))
   clear hG r5 nd5 hb5
   obtain ⟨⟨m1, m2⟩, m3, m4⟩ := HR.out
   have lt1 := lt_of_cell m1
   go_wp2
   have hnb : w.heap.size + 1 ∉ bs5 := fun hm => by have := H5.out.2.2 _ hm; omega
   refine bodyPost_ret (v := .agg #[.string x.arr, .slice Au x.subs.length cu]) (by simp [results, Tryz.results158, go_sem, m1, m2]) rfl ⟨Au, cu, bs5, rfl, Rep.acc_iff.2 ⟨_, _, _, rfl, rfl, Garr.out, Rep.keep _ H5.out.1 (((Keeps.refl _ _).setCell hnb _).setCell hnb _)⟩, H5.out.2.1, fun y hy => by have := H5.out.2.2 y hy; omega, (hb.setCell (by simp) _).setCell (by simp) _⟩
def RdEx (x : Ex) : Prop := ∀ (L : Nat) (dp : Int) (w : World) (cs : List Value) (bs : List Nat) (Bg : Nat) (v : Value) (o : List Acc), exShape x dp L = true → L ≤ 5 → o.length + (readsF x).length ≤ 1000000 → Rep w x.d cs bs → Grow w Bg 97 2 v (o.map Acc.d) → Bg ≤ w.heap.size → (∀ y ∈ bs, v.ownBlock ≠ some y) →
  Calls Tryz.prog 173 #[v, .agg cs.toArray] w fun e w' => ∃ v', e = .returned v' ∧ Grow w' Bg 97 2 v' ((o ++ readsF x).map Acc.d) ∧ Grew w w' v v'
theorem l3Reads_r {x : Ex} (hrec : ∀ y ∈ x.kids, RdEx y) : RdEx x := by
 intro L dp w cs bs Bg v o hsh hL hlen h hG hB hv
 have HREC := Lib.hid hrec; clear hrec
 have HE := Lib.hid (readsF_eq x)
 have hsh2 := hsh
 rw [exShape_eq] at hsh2
 simp only [Bool.and_eq_true, decide_eq_true_iff, List.all_eq_true] at hsh2
 obtain ⟨hL1, hkn, _, hall⟩ := hsh2
 have HALL := Lib.hid hall; clear hall
 have HRD := Lib.hid (shape_reads x L dp hsh); clear hsh
 have HLT := Rep.lt _ h
 have HOWN := Lib.hid hG.own_ge
 obtain ⟨A3, c3, A6, c6, A7, c7, d3, d6, d7, rfl, rfl, g1, g2, g3, g4, g5, g6, g7⟩ := Rep.ex_iff.1 h
 have Gkind := Lib.hid g1
 have Gnum := Lib.hid g2
 have Gindex := Lib.hid ((Rep.aff_iff2 (x := x.index)).2 ⟨_, _, _, rfl, rfl, g3, g4⟩)
 have Gread := Lib.hid ((Rep.acc_iff (x := x.read)).2 ⟨_, _, _, rfl, rfl, g5, g6⟩)
 have Gkids := Lib.hid g7
 clear h g1 g2 g3 g4 g5 g6 g7
 have hn : x.kids.length ≤ 9223372036854775807 := Nat.le_trans Gkids.out.sls_len.2.1 Gkids.out.sls_len.2.2
 obtain ⟨W, hW⟩ : ∃ W, W = w.alloc (.cells #[.int .i64 x.kind, .int .i64 x.num, .slice A3 x.index.coefs.length c3, .int .i64 x.index.const, .string x.read.arr, .slice A6 x.read.subs.length c6, .slice A7 x.kids.length c7] 100) := ⟨_, rfl⟩
 have P0 : Box7 W w.heap.size (.int .i64 x.kind) (.int .i64 x.num) (.slice A3 x.index.coefs.length c3) (.int .i64 x.index.const) (.string x.read.arr) (.slice A6 x.read.subs.length c6) (.slice A7 x.kids.length c7) := by
  rw [hW]; refine ⟨?_, ?_, ?_, ?_, ?_, ?_, ?_⟩ <;> go_simp
 have B0 : Below w.heap.size w W := by rw [hW]; exact bel
 have hWz : W.heap.size = w.heap.size + 1 := by rw [hW]; simp
 have HW := Lib.hid hW; clear hW
 have HWZ := Lib.hid hWz; clear hWz
 have HG := Lib.hid (hG.below B0); clear hG
 have GR := Lib.hid (Gread.out.below B0)
 have GK := Lib.hid (Gkids.out.below B0)
 have HVK := Lib.hid (show ∀ y ∈ d7, v.ownBlock ≠ some y ∧ y < W.heap.size from fun y hy => ⟨hv y (by simp [hy]), by have := HLT y (by simp [hy]); have := HWZ.out; omega⟩)
 have hvw : v.ownBlock ≠ some w.heap.size := fun e => by have := (HOWN.out _ e).2; omega
 have hgW : Grew w W v v := Grew.of_below B0 v
 have HGW := Lib.hid hgW; clear hgW
 have HVW := Lib.hid hvw; clear hvw hv HLT
 clear Gindex Gread Gkids Gkind Gnum
 obtain ⟨Av, cv, hfv, _, _⟩ := HG.out.form
 rw [List.length_map] at hfv
 have HBW := Lib.hid (show Bg ≤ W.heap.size from Nat.le_trans hB B0.size); clear hB
 by_cases hk : x.kind = 3
 ·have hk0 : x.kids.length = 0 := by
   rw [hk] at hkn
   have : kidsN 3 = 0 := by simp [kidsN]
   omega
  have q1 : (x.kind == 3) = true := ieq_t hk
  have HR := Lib.hid (HE.out.trans (if_pos hk)); clear HE
  have hacc := accOk_subs (HRD.out x.read (by rw [HR.out]; simp))
  have hal : ∀ t ∈ x.read.subs, t.coefs.length ≤ 10000000 := fun t ht => by have := (affOk_iff.1 (hacc.2 t ht)).1; omega
  have hsl : x.read.subs.length ≤ 1000000 := by
   have h5 := HRD.out x.read (by rw [HR.out]; simp)
   simp only [accOk, Bool.and_eq_true] at h5
   have := (sideOk_iff h5.2).2.1
   omega
  have HAL := Lib.hid (And.intro hsl hal)
  have HK0 := Lib.hid hk0
  rw [HR.out] at hlen ⊢
  simp only [List.length_singleton] at hlen
  clear hacc hal hsl hk hkn hk0 HALL HRD
  subst hfv
  go_enter Tryz.func173, Tryz.ntmps173
  go_wp2_with fail
  rw [← HW.out]
  refine (l3CopyAccess_c GR.out HAL.out.1 HAL.out.2).mono ?_
  rintro e w1 ⟨A9, c9, bs9, rfl, r9, nd9, hb9, b9⟩
  have P1 := P0.to b9
  have O1 := Lib.hid (one_newN (N := w1.heap.size) r9 97 rfl)
  have N1 := Lib.hid (And.intro nd9 hb9)
  have B1 := b9.alloc b9.size (.cells #[.string x.read.arr, .slice A9 x.read.subs.length c9] 97)
  clear r9 nd9 hb9 P0
  go_wp2_with (
   at_builtin
   refine wpList_append_more (w0 := W) (B := Bg) (xs := o.map Acc.d) (ys := [x.read.d]) rfl (.tmp 9) (.tmp 13) _ rfl _ Tryz.underlying190 Tryz.infoAcc rfl (by decide) rfl HG.out B1 rfl O1.out ?hys ?hn ?hf ?hlen HBW.out ?_
   case hys => intro y hy; simp only [List.mem_singleton] at hy; rw [hy]; rfl
   case hn => exact N1.out.1
   case hf => exact N1.out.2
   case hlen => simp; omega
   intro v2 w4 hG4 hg4)
  rw [show o.map Acc.d ++ [x.read.d] = (o ++ [x.read]).map Acc.d by simp] at hG4
  have g4 := Lib.hid ((HGW.out.trans (Grew.of_below B1 _)).trans hg4)
  have P4 : Box7 w4 w.heap.size (.int .i64 x.kind) (.int .i64 x.num) (.slice A3 x.index.coefs.length c3) (.int .i64 x.index.const) (.string x.read.arr) (.slice A6 x.read.subs.length c6) (.slice A7 x.kids.length c7) := ((P1.to (show Below w1.heap.size w1 _ from (Below.refl _ _).alloc (Nat.le_refl _) (.cells #[.string x.read.arr, .slice A9 x.read.subs.length c9] 97)))).touch hg4.touch (fun hm => HVW.out (mem_ownL.1 hm))
  have HG4 := Lib.hid hG4
  obtain ⟨A5, c5, hf5, _, _⟩ := hG4.form
  rw [List.length_map, List.length_append, List.length_singleton] at hf5
  rw [HK0.out] at P4
  clear hG4 hg4 B1 b9 P1 HK0
  subst hf5
  go_wp2
  go_loopw [0, 5] (fun u i wr => u = .slice A5 (o.length + 1) c5 ∧ i = .int .i64 0 ∧ wr = w4) (fun _ _ _ => 0)
  case atStart => exact ⟨rfl, rfl, rfl⟩
  case round =>
   obtain ⟨rfl, rfl, rfl⟩ := hrel
   go_wp2
   go_ret
   exact ⟨_, rfl, HG4.out, g4.out⟩
 have q1 : (x.kind == 3) = false := ieq_f hk
 have HR := Lib.hid (HE.out.trans (if_neg hk)); clear HE hk
 rw [HR.out] at hlen ⊢
 have HLEN := Lib.hid hlen; clear hlen
 clear hkn
 subst hfv
 obtain ⟨L, rfl⟩ : ∃ M, L = M + 1 := ⟨L - 1, by omega⟩
 go_enter Tryz.func173, Tryz.ntmps173
 go_wp2
 rw [← HW.out]
 go_loopw [0, 5] (fun u i wr => ∃ j : Nat, j ≤ x.kids.length ∧ i = .int .i64 j ∧ Grow wr Bg 97 2 u ((o ++ readsL (x.kids.take j)).map Acc.d) ∧ Grew W wr (.slice Av o.length cv) u) (fun _ i _ => x.kids.length - (intOf i).toNat)
 case atStart => exact ⟨0, Nat.zero_le _, rfl, by simpa [readsL] using HG.out, Grew.refl _ _⟩
 case round =>
  obtain ⟨j, hj, rfl, hGr, hgr⟩ := hrel
  have P1 := P0.touch hgr.touch (fun hm => HVW.out (mem_ownL.1 hm))
  have HGr := Lib.hid hGr; clear hGr
  have Hgr := Lib.hid hgr; clear hgr
  obtain ⟨R, hR⟩ : ∃ R, R = o ++ readsL (x.kids.take j) := ⟨_, rfl⟩
  rw [← hR] at HGr
  have HR2 := Lib.hid hR; clear hR
  obtain ⟨Au, cu, hfu, _, _⟩ := HGr.out.form
  rw [List.length_map] at hfu
  by_cases hlt : j < x.kids.length
  ·have HT := Lib.hid (readsL_take hlt)
   have hle := readsL_take_le (xs := x.kids) (j + 1)
   rw [HT.out, List.length_append] at hle
   have hl3 := HLEN.out
   have HL3 := Lib.hid (show R.length + (readsF x.kids[j]).length ≤ 1000000 by rw [HR2.out, List.length_append]; omega)
   have GKr := Lib.hid (GK.out.grew Hgr.out fun y hy => (HVK.out y hy).1)
   have HVR := Lib.hid (Hgr.out.apart (bs := d7) (fun y hy => (HVK.out y hy).1) fun y hy => (HVK.out y hy).2)
   have HSK := Lib.hid (HALL.out _ (List.getElem_mem hlt))
   clear hle hl3
   obtain ⟨be, oe, cse, le, rfl, hble, hre, _, _, hce⟩ := GKr.out.sls_at Ex.d_size (k := j) hlt
   have Ge := Lib.hid hre
   obtain ⟨A3e, c3e, A6e, c6e, A7e, c7e, d3e, d6e, d7e, rfl, rfl, g1e, g2e, g3e, g4e, g5e, g6e, g7e⟩ := Rep.ex_iff.1 hre
   have k0e := (hce 0 _ rfl).1; rw [Nat.add_zero] at k0e
   have k1e := (hce 1 _ rfl).1
   have k2e := (hce 2 _ rfl).1
   have k3e := (hce 3 _ rfl).1
   have k4e := (hce 4 _ rfl).1
   have k5e := (hce 5 _ rfl).1
   have k6e := (hce 6 _ rfl).1
   have Q1e := Lib.hid g1e
   have Q2e := Lib.hid g2e
   have Q3e := Lib.hid g3e
   have Q4e := Lib.hid g4e
   have Q5e := Lib.hid g5e
   have Q6e := Lib.hid g6e
   have Q7e := Lib.hid g7e
   clear hce hre g1e g2e g3e g4e g5e g6e g7e
   have HSB := Lib.hid ‹∀ y ∈ d3e ++ d6e ++ d7e, y ∈ d7›
   subst hfu
   go_wp2_with fail
   refine (HREC.out _ (List.getElem_mem hlt) L dp _ _ _ Bg _ R HSK.out (by omega) HL3.out Ge.out HGr.out (Nat.le_trans HBW.out Hgr.out.touch.size) (fun y hy => HVR.out y (HSB.out y hy))).mono ?_
   rintro e w2 ⟨v2, rfl, hG2, hg2⟩
   rw [HR2.out, List.append_assoc, ← HT.out] at hG2
   have HG2 := Lib.hid hG2
   have g2 := Lib.hid (Hgr.out.trans hg2)
   clear hG2 hg2 P1 k0e k1e k2e k3e k4e k5e k6e
   go_wp2
   go_roundw
   case rel => exact ⟨j + 1, by omega, by go_num, HG2.out, g2.out⟩
   case measure => simp [intOf]; omega
  ·have hjj : j = x.kids.length := by omega
   subst hjj
   have HX := Lib.hid (show readsL x.kids = readsL (x.kids.take x.kids.length) by rw [List.take_length])
   subst hfu
   go_wp2
   go_ret
   rw [HX.out, ← HR2.out]
   exact ⟨_, rfl, HGr.out, HGW.out.trans Hgr.out⟩
theorem l3Reads_c (x : Ex) : RdEx x := Ex.ind (P := RdEx) (fun x hx => l3Reads_r hx) x
end Go.Proofs.YtgogjbnneoadkaaGreat
