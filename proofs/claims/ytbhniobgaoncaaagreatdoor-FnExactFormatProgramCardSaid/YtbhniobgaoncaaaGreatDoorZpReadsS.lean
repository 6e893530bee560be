/- The accesses that an expression reads, copied: l3Reads of the reference. -/
import Derived.Test.YtbhniobgaoncaaaGreatDoorZpCopy
import Derived.Test.YtbhniobgaoncaaaGreatDoorZpStmtOk
set_option linter.all false
set_option linter.unusedSimpArgs false
set_option linter.unusedVariables false
namespace Go.Proofs.YtbhniobgaoncaaaGreatDoor
open Go.ChangeShapes Go.WideShapes Go.ChangeAt Go.RowKit Go.Deep

set_option maxRecDepth 100000 in
set_option maxHeartbeats 1000000 in
theorem l3Reads_r {x : Ex} (hrec : ∀ y ∈ x.kids, RdEx y) : RdEx x := by
  intro L dp w cs bs Bg v o hsh hL hlen h hG hB hv
  have HREC := Lib.hid hrec; clear hrec
  have HE := Lib.hid (readsF_eq x)
  have hsh2 := hsh
  rw [exShape_eq] at hsh2
  simp only [Bool.and_eq_true, decide_eq_true_iff, List.all_eq_true] at hsh2
  obtain ⟨hL1, hkn, _, hall⟩ := hsh2
  have HALL := Lib.hid hall; clear hall
  have HRD := Lib.hid (shape_reads x L dp hsh); clear hsh
  have HLT := Rep.lt _ h
  have HOWN := Lib.hid hG.own_ge
  obtain ⟨A3, c3, A6, c6, A7, c7, d3, d6, d7, rfl, rfl, g1, g2, g3, g4, g5, g6, g7⟩ := Rep.ex_iff.1 h
  have Gkind := Lib.hid g1
  have Gnum := Lib.hid g2
  have Gindex := Lib.hid ((Rep.aff_iff2 (x := x.index)).2 ⟨_, _, _, rfl, rfl, g3, g4⟩)
  have Gread := Lib.hid ((Rep.acc_iff (x := x.read)).2 ⟨_, _, _, rfl, rfl, g5, g6⟩)
  have Gkids := Lib.hid g7
  clear h g1 g2 g3 g4 g5 g6 g7
  have hn : x.kids.length ≤ 9223372036854775807 := Nat.le_trans Gkids.out.sls_len.2.1 Gkids.out.sls_len.2.2
  obtain ⟨W, hW⟩ : ∃ W, W = w.alloc (.cells #[.int .i64 x.kind, .int .i64 x.num, .slice A3 x.index.coefs.length c3, .int .i64 x.index.const, .string x.read.arr, .slice A6 x.read.subs.length c6, .slice A7 x.kids.length c7] 49) := ⟨_, rfl⟩
  have P0 : Box7 W w.heap.size (.int .i64 x.kind) (.int .i64 x.num) (.slice A3 x.index.coefs.length c3) (.int .i64 x.index.const) (.string x.read.arr) (.slice A6 x.read.subs.length c6) (.slice A7 x.kids.length c7) := by
    rw [hW]; refine ⟨?_, ?_, ?_, ?_, ?_, ?_, ?_⟩ <;> go_simp
  have B0 : Below w.heap.size w W := by rw [hW]; exact bel
  have hWz : W.heap.size = w.heap.size + 1 := by rw [hW]; simp
  have HW := Lib.hid hW; clear hW
  have HWZ := Lib.hid hWz; clear hWz
  have HG := Lib.hid (hG.below B0); clear hG
  have GR := Lib.hid (Gread.out.below B0)
  have GK := Lib.hid (Gkids.out.below B0)
  have HVK := Lib.hid (show ∀ y ∈ d7, v.ownBlock ≠ some y ∧ y < W.heap.size from fun y hy => ⟨hv y (by simp [hy]), by have := HLT y (by simp [hy]); have := HWZ.out; omega⟩)
  have hvw : v.ownBlock ≠ some w.heap.size := fun e => by have := (HOWN.out _ e).2; omega
  have hgW : Grew w W v v := Grew.of_below B0 v
  have HGW := Lib.hid hgW; clear hgW
  have HVW := Lib.hid hvw; clear hvw hv HLT
  clear Gindex Gread Gkids Gkind Gnum
  obtain ⟨Av, cv, hfv, _, _⟩ := HG.out.form
  rw [List.length_map] at hfv
  have HBW := Lib.hid (show Bg ≤ W.heap.size from Nat.le_trans hB B0.size); clear hB
  by_cases hk : x.kind = 3
  · have hk0 : x.kids.length = 0 := by
      rw [hk] at hkn
      have : kidsN 3 = 0 := by simp [kidsN]
      omega
    have q1 : (x.kind == 3) = true := ieq_t hk
    have HR := Lib.hid (HE.out.trans (if_pos hk)); clear HE
    have hacc := accOk_subs (HRD.out x.read (by rw [HR.out]; simp))
    have hal : ∀ t ∈ x.read.subs, t.coefs.length ≤ 10000000 := fun t ht => by have := (affOk_iff.1 (hacc.2 t ht)).1; omega
    have hsl : x.read.subs.length ≤ 1000000 := by
      have h5 := HRD.out x.read (by rw [HR.out]; simp)
      simp only [accOk, Bool.and_eq_true] at h5
      have := (sideOk_iff h5.2).2.1
      omega
    have HAL := Lib.hid (And.intro hsl hal)
    have HK0 := Lib.hid hk0
    rw [HR.out] at hlen ⊢
    simp only [List.length_singleton] at hlen
    clear hacc hal hsl hk hkn hk0 HALL HRD
    subst hfv
    go_enter Tryz.func170, Tryz.ntmps170
    go_wp2_with fail
    rw [← HW.out]
    refine (l3CopyAccess_c GR.out HAL.out.1 HAL.out.2).mono ?_
    rintro e w1 ⟨A9, c9, bs9, rfl, r9, nd9, hb9, b9⟩
    have P1 := P0.to b9
    have O1 := Lib.hid (one_newN (N := w1.heap.size) r9 43 rfl)
    have N1 := Lib.hid (And.intro nd9 hb9)
    have B1 := b9.alloc b9.size (.cells #[.string x.read.arr, .slice A9 x.read.subs.length c9] 43)
    clear r9 nd9 hb9 P0
    go_wp2_with (
      at_builtin
      refine wpList_append_more (w0 := W) (B := Bg) (xs := o.map Acc.d) (ys := [x.read.d]) rfl (.tmp 9) (.tmp 13) _ rfl _ Tryz.underlying207 Tryz.infoAcc rfl (by decide) rfl HG.out B1 rfl O1.out ?hys ?hn ?hf ?hlen HBW.out ?_
      case hys => intro y hy; simp only [List.mem_singleton] at hy; rw [hy]; rfl
      case hn => exact N1.out.1
      case hf => exact N1.out.2
      case hlen => simp; omega
      intro v2 w4 hG4 hg4)
    rw [show o.map Acc.d ++ [x.read.d] = (o ++ [x.read]).map Acc.d by simp] at hG4
    have g4 := Lib.hid ((HGW.out.trans (Grew.of_below B1 _)).trans hg4)
    have P4 : Box7 w4 w.heap.size (.int .i64 x.kind) (.int .i64 x.num) (.slice A3 x.index.coefs.length c3) (.int .i64 x.index.const) (.string x.read.arr) (.slice A6 x.read.subs.length c6) (.slice A7 x.kids.length c7) := ((P1.to (show Below w1.heap.size w1 _ from (Below.refl _ _).alloc (Nat.le_refl _) (.cells #[.string x.read.arr, .slice A9 x.read.subs.length c9] 43)))).touch hg4.touch (fun hm => HVW.out (mem_ownL.1 hm))
    have HG4 := Lib.hid hG4
    obtain ⟨A5, c5, hf5, _, _⟩ := hG4.form
    rw [List.length_map, List.length_append, List.length_singleton] at hf5
    rw [HK0.out] at P4
    clear hG4 hg4 B1 b9 P1 HK0
    subst hf5
    go_wp2
    go_loopw [0, 5] (fun u i wr => u = .slice A5 (o.length + 1) c5 ∧ i = .int .i64 0 ∧ wr = w4) (fun _ _ _ => 0)
    case atStart => exact ⟨rfl, rfl, rfl⟩
    case round =>
      obtain ⟨rfl, rfl, rfl⟩ := hrel
      go_wp2
      go_ret
      exact ⟨_, rfl, HG4.out, g4.out⟩
  have q1 : (x.kind == 3) = false := ieq_f hk
  have HR := Lib.hid (HE.out.trans (if_neg hk)); clear HE hk
  rw [HR.out] at hlen ⊢
  have HLEN := Lib.hid hlen; clear hlen
  clear hkn
  subst hfv
  obtain ⟨L, rfl⟩ : ∃ M, L = M + 1 := ⟨L - 1, by omega⟩
  go_enter Tryz.func170, Tryz.ntmps170
  go_wp2
  rw [← HW.out]
  go_loopw [0, 5] (fun u i wr => ∃ j : Nat, j ≤ x.kids.length ∧ i = .int .i64 j ∧ Grow wr Bg 43 2 u ((o ++ readsL (x.kids.take j)).map Acc.d) ∧ Grew W wr (.slice Av o.length cv) u) (fun _ i _ => x.kids.length - (intOf i).toNat)
  case atStart => exact ⟨0, Nat.zero_le _, rfl, by simpa [readsL] using HG.out, Grew.refl _ _⟩
  case round =>
    obtain ⟨j, hj, rfl, hGr, hgr⟩ := hrel
    have P1 := P0.touch hgr.touch (fun hm => HVW.out (mem_ownL.1 hm))
    have HGr := Lib.hid hGr; clear hGr
    have Hgr := Lib.hid hgr; clear hgr
    obtain ⟨R, hR⟩ : ∃ R, R = o ++ readsL (x.kids.take j) := ⟨_, rfl⟩
    rw [← hR] at HGr
    have HR2 := Lib.hid hR; clear hR
    obtain ⟨Au, cu, hfu, _, _⟩ := HGr.out.form
    rw [List.length_map] at hfu
    by_cases hlt : j < x.kids.length
    · have HT := Lib.hid (readsL_take hlt)
      have hle := readsL_take_le (xs := x.kids) (j + 1)
      rw [HT.out, List.length_append] at hle
      have hl3 := HLEN.out
      have HL3 := Lib.hid (show R.length + (readsF x.kids[j]).length ≤ 1000000 by rw [HR2.out, List.length_append]; omega)
      have GKr := Lib.hid (GK.out.grew Hgr.out fun y hy => (HVK.out y hy).1)
      have HVR := Lib.hid (Hgr.out.apart (bs := d7) (fun y hy => (HVK.out y hy).1) fun y hy => (HVK.out y hy).2)
      have HSK := Lib.hid (HALL.out _ (List.getElem_mem hlt))
      clear hle hl3
      obtain ⟨be, oe, cse, le, rfl, hble, hre, _, _, hce⟩ := GKr.out.sls_at Ex.d_size (k := j) hlt
      have Ge := Lib.hid hre
      obtain ⟨A3e, c3e, A6e, c6e, A7e, c7e, d3e, d6e, d7e, rfl, rfl, g1e, g2e, g3e, g4e, g5e, g6e, g7e⟩ := Rep.ex_iff.1 hre
      have k0e := (hce 0 _ rfl).1; rw [Nat.add_zero] at k0e
      have k1e := (hce 1 _ rfl).1
      have k2e := (hce 2 _ rfl).1
      have k3e := (hce 3 _ rfl).1
      have k4e := (hce 4 _ rfl).1
      have k5e := (hce 5 _ rfl).1
      have k6e := (hce 6 _ rfl).1
      have Q1e := Lib.hid g1e
      have Q2e := Lib.hid g2e
      have Q3e := Lib.hid g3e
      have Q4e := Lib.hid g4e
      have Q5e := Lib.hid g5e
      have Q6e := Lib.hid g6e
      have Q7e := Lib.hid g7e
      clear hce hre g1e g2e g3e g4e g5e g6e g7e
      have HSB := Lib.hid ‹∀ y ∈ d3e ++ d6e ++ d7e, y ∈ d7›
      subst hfu
      go_wp2_with fail
      refine (HREC.out _ (List.getElem_mem hlt) L dp _ _ _ Bg _ R HSK.out (by omega) HL3.out Ge.out HGr.out (Nat.le_trans HBW.out Hgr.out.touch.size) (fun y hy => HVR.out y (HSB.out y hy))).mono ?_
      rintro e w2 ⟨v2, rfl, hG2, hg2⟩
      rw [HR2.out, List.append_assoc, ← HT.out] at hG2
      have HG2 := Lib.hid hG2
      have g2 := Lib.hid (Hgr.out.trans hg2)
      clear hG2 hg2 P1 k0e k1e k2e k3e k4e k5e k6e
      go_wp2
      go_roundw
      case rel => exact ⟨j + 1, by omega, by go_num, HG2.out, g2.out⟩
      case measure => simp [intOf]; omega
    · have hjj : j = x.kids.length := by omega
      subst hjj
      have HX := Lib.hid (show readsL x.kids = readsL (x.kids.take x.kids.length) by rw [List.take_length])
      subst hfu
      go_wp2
      go_ret
      rw [HX.out, ← HR2.out]
      exact ⟨_, rfl, HGr.out, HGW.out.trans Hgr.out⟩
theorem l3Reads_c (x : Ex) : RdEx x := Ex.ind (P := RdEx) (fun x hx => l3Reads_r hx) x
end Go.Proofs.YtbhniobgaoncaaaGreatDoor
