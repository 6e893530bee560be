/- The Go type Loop: how it reads; the law package's functions on it and on slices of it. Printed by tygen.py. -/
import Derived.Test.YtadmmlflngkpiaaTyAffine
set_option linter.all false
set_option linter.unusedSimpArgs false
set_option linter.unusedVariables false
namespace Go.Proofs.Ytadmmlflngkpiaa
open Go.ChangeShapes Go.WideShapes Go.ChangeAt Go.RowKit Go.Deep

structure Lp where
  lo : List Aff
  hi : List Aff
  deriving DecidableEq
def Lp.d (x : Lp) : D := .st [sls Aff.d x.lo, sls Aff.d x.hi]
theorem Lp.d_size (x : Lp) : x.d.size = 2 := rfl
theorem Rep.lp_iff {w : World} {x : Lp} {cs : List Value} {bs : List Nat} : Rep w x.d cs bs ↔ ∃ (A1 : Option Addr) (c1 : Nat) (A2 : Option Addr) (c2 : Nat) (d1 : List Nat) (d2 : List Nat), cs = [.slice A1 x.lo.length c1, .slice A2 x.hi.length c2] ∧ bs = d1 ++ d2 ∧ Rep w (sls Aff.d x.lo) [.slice A1 x.lo.length c1] d1 ∧ Rep w (sls Aff.d x.hi) [.slice A2 x.hi.length c2] d2 := by
  constructor
  · intro h
    replace h : Reps w [sls Aff.d x.lo, sls Aff.d x.hi] cs bs := h
    obtain ⟨_, _, _, _, rfl, rfl, g1, h⟩ := h
    obtain ⟨_, _, _, _, rfl, rfl, g2, h⟩ := h
    obtain ⟨rfl, rfl⟩ := h
    obtain ⟨B1, e1, rfl, _⟩ := g1.sls_form
    obtain ⟨B2, e2, rfl, _⟩ := g2.sls_form
    exact ⟨_, _, _, _, _, _, rfl, by simp, g1, g2⟩
  · rintro ⟨A1, c1, A2, c2, d1, d2, rfl, rfl, g1, g2⟩
    have h : Reps w [sls Aff.d x.lo, sls Aff.d x.hi] _ _ := ⟨_, _, _, _, rfl, rfl, g1, ⟨_, _, _, _, rfl, rfl, g2, ⟨rfl, rfl⟩⟩⟩
    simpa using (show Rep w x.d _ _ from h)

theorem Try.infoLoop : (Try.prog.info? 71).map (fun i => (i.zero, i.size, decide (i.bytes ≤ 1024))) = some (some (.agg #[.slice none 0 0, .slice none 0 0]), 2, true) := by kernel_rfl
set_option maxHeartbeats 1000000 in
theorem eqLoop_c {w : World} {x : Lp} {cs cs' : List Value} {bs bs' : List Nat} (h : Rep w x.d cs bs) (h' : Rep w x.d cs' bs') :
    Calls Try.prog 39 #[.agg cs.toArray, .agg cs'.toArray] w fun e w' => e = .returned (.bool true) ∧ Below w.heap.size w w' := by
  have H := Lib.hid h
  have H' := Lib.hid h'
  obtain ⟨A1, c1, A2, c2, d1, d2, rfl, rfl, g1, g2⟩ := Rep.lp_iff.1 h
  obtain ⟨A1', c1', A2', c2', d1', d2', rfl, rfl, g1', g2'⟩ := Rep.lp_iff.1 h'
  have G1 := Lib.hid g1
  have G1' := Lib.hid g1'
  have G2 := Lib.hid g2
  have G2' := Lib.hid g2'
  clear h h' H H' g1 g1' g2 g2'
  go_enter Try.func39, Try.ntmps39
  go_wp2_with fail
  refine (eqAffineS_c (G1.out.below bel) (G1'.out.below bel)).mono ?_
  rintro e w1 ⟨rfl, b1⟩
  have P1 : Box2 w1 w.heap.size (.slice A1 x.lo.length c1) (.slice A2 x.hi.length c2) := by
    refine ⟨?_, ?_⟩ <;> (rw [b1.cell (by simp; try omega)]; go_simp)
  have Q1 : Box2 w1 (w.heap.size + 1) (.slice A1' x.lo.length c1') (.slice A2' x.hi.length c2') := by
    refine ⟨?_, ?_⟩ <;> (rw [b1.cell (by simp; try omega)]; go_simp)
  have S1 : Below w.heap.size w w1 := bel
  clear b1
  go_wp2_with fail
  refine (eqAffineS_c (G2.out.below bel) (G2'.out.below bel)).mono ?_
  rintro e w2 ⟨rfl, b2⟩
  have P2 := P1.to b2; clear P1
  have Q2 := Q1.to b2; clear Q1
  have S2 := below_tr S1 b2
  clear b2
  go_wp2
  go_ret
  exact ⟨rfl, bel⟩

set_option maxHeartbeats 1000000 in
theorem eqLoopS_c {w : World} {xs : List Lp} {A B : Option Addr} {n m c d : Nat} {bs bs' : List Nat} (hA : Rep w (sls Lp.d xs) [.slice A n c] bs) (hB : Rep w (sls Lp.d xs) [.slice B m d] bs') :
    Calls Try.prog 10 #[.slice A n c, .slice B m d] w fun e w' => e = .returned (.bool true) ∧ Below w.heap.size w w' := by
  obtain ⟨rfl, h1, h2⟩ := hA.sls_len
  obtain ⟨rfl, _, _⟩ := hB.sls_len
  have hn : xs.length ≤ 9223372036854775807 := Nat.le_trans h1 h2
  clear h1 h2
  have hl1 : ((xs.length : Int) != (xs.length : Int)) = false := by simp
  have HA := Lib.hid hA; clear hA
  have HB := Lib.hid hB; clear hB
  go_enter Try.func10, Try.ntmps10
  go_wp2
  go_loopw [5] (fun i wr => ∃ k : Nat, k ≤ xs.length ∧ i = .int .i64 k ∧ Below w.heap.size w wr) (fun i _ => xs.length - (intOf i).toNat)
  case atStart => exact ⟨0, Nat.zero_le _, rfl, Below.refl _ _⟩
  case round =>
    obtain ⟨k, hk, rfl, hb⟩ := hrel
    by_cases hlt : k < xs.length
    · obtain ⟨b, o, cs, l, rfl, hbl, hr, _, _, hc⟩ := (HA.out.below hb).sls_at Lp.d_size hlt
      have G := Lib.hid hr
      obtain ⟨A1, c1, A2, c2, d1, d2, rfl, rfl, g1, g2⟩ := Rep.lp_iff.1 hr
      have k0 := (hc 0 _ rfl).1; rw [Nat.add_zero] at k0
      have k1 := (hc 1 _ rfl).1
      clear hc hr g1 g2
      obtain ⟨b', o', cs', l', rfl, hbl', hr', _, _, hc'⟩ := (HB.out.below hb).sls_at Lp.d_size hlt
      have G' := Lib.hid hr'
      obtain ⟨A1', c1', A2', c2', d1', d2', rfl, rfl, g1', g2'⟩ := Rep.lp_iff.1 hr'
      have k0' := (hc' 0 _ rfl).1; rw [Nat.add_zero] at k0'
      have k1' := (hc' 1 _ rfl).1
      clear hc' hr' g1' g2'
      go_wp2_with fail
      go_region_held3 (fun w' => w'.cell? ⟨b, o + k * 2, none⟩ = some (.slice A1 xs[k].lo.length c1) ∧ w'.cell? ⟨b, o + k * 2 + 1, none⟩ = some (.slice A2 xs[k].hi.length c2) ∧ w'.cell? ⟨b', o' + k * 2, none⟩ = some (.slice A1' xs[k].lo.length c1') ∧ w'.cell? ⟨b', o' + k * 2 + 1, none⟩ = some (.slice A2' xs[k].hi.length c2')) (first | exact ⟨k0, k1, k0', k1'⟩ | exact ⟨(by rw [b1.cell hbl]; exact k0), (by rw [b1.cell hbl]; exact k1), (by rw [b1.cell hbl']; exact k0'), (by rw [b1.cell hbl']; exact k1')⟩ | skip)
        (first | (go_at_call 39; refine (eqLoop_c (G.out.drewN 1) (G'.out.drewN 1)).mono ?_; rintro e w1 ⟨rfl, b1⟩; replace b1 := of_drew b1))
      have S1 := below_tr hb b1
      clear b1
      go_wp2
      go_roundw
      case rel => exact ⟨k + 1, by omega, by go_num, S1⟩
      case measure => simp [intOf]; omega
    · go_wp2
      go_ret
      exact ⟨rfl, hb⟩





def Lp.mkE (q : Int) (x : Lp) : Lp := ⟨mkL Aff.mkE Aff.cntE (q) x.lo, mkL Aff.mkE Aff.cntE (q + ((cntL Aff.cntE x.lo : Nat) : Int)) x.hi⟩
def Lp.cntE (x : Lp) : Nat := cntL Aff.cntE x.lo + cntL Aff.cntE x.hi


set_option maxHeartbeats 2000000 in
theorem markLoopS_c {w : World} {xs : List Lp} {A : Option Addr} {n c : Nat} {bs : List Nat} {q : Int} (h : Rep w (sls Lp.d xs) [.slice A n c] bs) (hnd : bs.Nodup) (h0 : 0 ≤ q) (h1 : q + ((cntL Lp.cntE xs : Nat) : Int) ≤ 4611686018427387904) :
    Calls Try.prog 13 #[.slice A n c, .int .i64 q] w fun e w' => e = .returned (.int .i64 (q + ((cntL Lp.cntE xs : Nat) : Int))) ∧ Rep w' (sls Lp.d (mkL Lp.mkE Lp.cntE q xs)) [.slice A n c] bs ∧ Touch bs w w' := by
  obtain ⟨rfl, h2, h3⟩ := h.sls_len
  have hn : xs.length ≤ 9223372036854775807 := Nat.le_trans h2 h3
  have ND := Lib.hid hnd; clear hnd
  clear h2 h3
  go_enter Try.func13, Try.ntmps13
  go_wp2
  go_loopw [1, 5] (fun u i wr => ∃ j : Nat, j ≤ xs.length ∧ i = .int .i64 j ∧ u = .int .i64 (q + ((cntL Lp.cntE (xs.take j) : Nat) : Int)) ∧ Rep wr (sls Lp.d (mkTo Lp.mkE Lp.cntE q xs j)) [.slice A xs.length c] bs ∧ Touch bs w wr) (fun _ i _ => xs.length - (intOf i).toNat)
  case atStart => exact ⟨0, Nat.zero_le _, rfl, int_eq (by simp [cntL]), by rw [mkTo_zero]; exact h, Touch.refl _ _⟩
  case round =>
    obtain ⟨j, hj, rfl, rfl, hr0, ht⟩ := hrel
    by_cases hlt : j < xs.length
    · have hlen : (mkTo Lp.mkE Lp.cntE q xs j).length = xs.length := mkTo_len _ _ _ _ hj
      obtain ⟨b, o, cs, l, rfl, hbl, hr, hbb, hlb, hnl, hbn, hc, hset⟩ := hr0.sls_focus Lp.d_size ND.out (k := j) (by rw [hlen]; exact hlt)
      rw [mkTo_get hlt] at hr
      have hcnt := cntL_take (cnt := Lp.cntE) hlt
      have hle := cntL_le (cnt := Lp.cntE) (xs := xs) (j + 1)
      rw [hcnt] at hle
      have HC := Lib.hid hcnt; clear hcnt hr0 hlen
      obtain ⟨A1, c1, A2, c2, d1, d2, rfl, rfl, g1, g2⟩ := Rep.lp_iff.1 hr
      have k0 := (hc 0 _ rfl).1; rw [Nat.add_zero] at k0
      have z0 := (hc 0 _ rfl).2; rw [Nat.add_zero] at z0
      have k1 := (hc 1 _ rfl).1
      have z1 := (hc 1 _ rfl).2
      have HS := Lib.hid hset; clear hset hc hr
      have B1 : q + ((cntL Lp.cntE (xs.take j) : Nat) : Int) + ((cntL Aff.cntE xs[j].lo : Nat) : Int) + ((cntL Aff.cntE xs[j].hi : Nat) : Int) ≤ 4611686018427387904 := by simp only [Lp.cntE] at hle; omega
      have B0 : 0 ≤ q + ((cntL Lp.cntE (xs.take j) : Nat) : Int) := by omega
      obtain ⟨nx1, nd_d2, nj1⟩ := nd_app hnl
      have nd_d1 := nx1
      have mb1 : b ∉ d1 := fun hm => hbn (by first | exact hm | simp [hm])
      have sb1 : ∀ y ∈ d1, y ∈ (d1 ++ d2 : List Nat) := fun y hm => by first | exact hm | simp [hm]
      have lt1 := Rep.lt _ g1
      have mb2 : b ∉ d2 := fun hm => hbn (by first | exact hm | simp [hm])
      have sb2 : ∀ y ∈ d2, y ∈ (d1 ++ d2 : List Nat) := fun y hm => by first | exact hm | simp [hm]
      have lt2 := Rep.lt _ g2
      have dj_d1_d2 : ∀ y ∈ d1, y ∉ d2 := fun y hm => nj1 y (by simp [hm])
      have dj_d2_d1 : ∀ y ∈ d2, y ∉ d1 := fun y hm hx => nj1 y (by simp [hx]) hm
      have hlow : ∀ y ∈ (d1 ++ d2 : List Nat), y ∈ bs := hlb
      have HND := Lib.hid (And.intro hnl (And.intro hbn hlb)); clear hnl hbn hlb
      clear nj1
      have R1_0 := Lib.hid g1; clear g1
      have R2_0 := Lib.hid g2; clear g2
      have M0 := Mk.refl wr b (o + j * 2) (o + j * 2 + 2) (d1 ++ d2)
      have L0 := hbl
      have Hmb1 := Lib.hid mb1; clear mb1
      have Hsb1 := Lib.hid sb1; clear sb1
      have Hlt1 := Lib.hid lt1; clear lt1
      have Hnd_d1 := Lib.hid nd_d1; clear nd_d1
      have Hmb2 := Lib.hid mb2; clear mb2
      have Hsb2 := Lib.hid sb2; clear sb2
      have Hlt2 := Lib.hid lt2; clear lt2
      have Hnd_d2 := Lib.hid nd_d2; clear nd_d2
      have Hdj_d1_d2 := Lib.hid dj_d1_d2; clear dj_d1_d2
      have Hdj_d2_d1 := Lib.hid dj_d2_d1; clear dj_d2_d1
      have Hhlow := Lib.hid hlow; clear hlow
      go_wp2_with fail
      refine (markAffineS_c (q := q + ((cntL Lp.cntE (xs.take j) : Nat) : Int)) R1_0.out Hnd_d1.out (by have := h1; simp only [Lp.cntE] at hle; omega) (by have := h1; simp only [Lp.cntE] at hle; omega)).mono ?_
      rintro e w1 ⟨rfl, r1, t1⟩
      have M1 := M0.call t1 Hsb1.out HND.out.2.1 (Nat.lt_of_lt_of_le hbl M0.touch.size)
      have k0_1 := (t1.cell (g := b) (o := o + j * 2) (Nat.lt_of_lt_of_le hbl M0.touch.size) Hmb1.out).trans k0; clear k0
      have z0_1 := (t1.frozen (g := b) (o := o + j * 2) (Nat.lt_of_lt_of_le hbl M0.touch.size) Hmb1.out).trans z0; clear z0
      have k1_1 := (t1.cell (g := b) (o := o + j * 2 + 1) (Nat.lt_of_lt_of_le hbl M0.touch.size) Hmb1.out).trans k1; clear k1
      have z1_1 := (t1.frozen (g := b) (o := o + j * 2 + 1) (Nat.lt_of_lt_of_le hbl M0.touch.size) Hmb1.out).trans z1; clear z1
      have R1_1 := Lib.hid r1; clear r1 R1_0
      have R2_1 := Lib.hid (Rep.keep _ R2_0.out (t1.keeps fun y hy => ⟨Rep.lt _ R2_0.out y hy, Hdj_d2_d1.out y hy⟩)); clear R2_0
      clear t1
      go_wp2_with fail
      refine (markAffineS_c (q := q + ((cntL Lp.cntE (xs.take j) : Nat) : Int) + ((cntL Aff.cntE xs[j].lo : Nat) : Int)) R2_1.out Hnd_d2.out (by have := h1; simp only [Lp.cntE] at hle; omega) (by have := h1; simp only [Lp.cntE] at hle; omega)).mono ?_
      rintro e w2 ⟨rfl, r2, t2⟩
      have M2 := M1.call t2 Hsb2.out HND.out.2.1 (Nat.lt_of_lt_of_le hbl M1.touch.size)
      have k0_2 := (t2.cell (g := b) (o := o + j * 2) (Nat.lt_of_lt_of_le hbl M1.touch.size) Hmb2.out).trans k0_1; clear k0_1
      have z0_2 := (t2.frozen (g := b) (o := o + j * 2) (Nat.lt_of_lt_of_le hbl M1.touch.size) Hmb2.out).trans z0_1; clear z0_1
      have k1_2 := (t2.cell (g := b) (o := o + j * 2 + 1) (Nat.lt_of_lt_of_le hbl M1.touch.size) Hmb2.out).trans k1_1; clear k1_1
      have z1_2 := (t2.frozen (g := b) (o := o + j * 2 + 1) (Nat.lt_of_lt_of_le hbl M1.touch.size) Hmb2.out).trans z1_1; clear z1_1
      have R1_2 := Lib.hid (Rep.keep _ R1_1.out (t2.keeps fun y hy => ⟨Rep.lt _ R1_1.out y hy, Hdj_d1_d2.out y hy⟩)); clear R1_1
      have R2_2 := Lib.hid r2; clear r2 R2_1
      clear t2
      have MM := Lib.hid M2
      go_wp2
      go_roundw
      case rel =>
        have rx : Rep _ (Lp.mkE (q + ((cntL Lp.cntE (xs.take j) : Nat) : Int)) xs[j]).d _ (d1 ++ d2) := Rep.lp_iff.2 ⟨_, _, _, _, _, _, rfl, rfl, (by simp only [Lp.mkE, seqI_len, mkL_len]; exact R1_2.out), (by simp only [Lp.mkE, seqI_len, mkL_len]; exact R2_2.out)⟩
        have rs := HS.out _ (Lp.mkE (q + ((cntL Lp.cntE (xs.take j) : Nat) : Int)) xs[j]) _ rx MM.out.touch MM.out.frozen (fun jj u hu => by
          match jj, hu with
          | 0, hu => simp only [List.getElem?_cons_zero, List.getElem?_cons_succ, Option.some.injEq] at hu; subst hu; first | exact k0_2 | simpa [Lp.mkE, seqI_len, mkL_len] using k0_2
          | 1, hu => simp only [List.getElem?_cons_zero, List.getElem?_cons_succ, Option.some.injEq] at hu; subst hu; first | exact k1_2 | simpa [Lp.mkE, seqI_len, mkL_len] using k1_2
          | jj + 2, hu => simp at hu) MM.out.other
        rw [mkTo_set hlt] at rs
        exact ⟨j + 1, by omega, by go_num, int_eq (by rw [HC.out]; simp only [Lp.cntE]; omega), rs, ht.trans (MM.out.touch.mono fun y hy => by rcases List.mem_cons.1 hy with rfl | hy; exact hbb; exact Hhlow.out y hy)⟩
      case measure => simp [intOf]; omega
    · have hjj : j = xs.length := by omega
      subst hjj
      rw [mkTo_all] at hr0
      go_wp2
      go_ret
      exact ⟨ret_int (by rw [List.take_length]), hr0, ht⟩

set_option maxHeartbeats 2000000 in
theorem heldLoopS_c {w : World} {xs : List Lp} {A : Option Addr} {n c : Nat} {bs : List Nat} {q : Int} (h : Rep w (sls Lp.d (mkL Lp.mkE Lp.cntE q xs)) [.slice A n c] bs) (h0 : 0 ≤ q) (h1 : q + ((cntL Lp.cntE xs : Nat) : Int) ≤ 4611686018427387904) :
    Calls Try.prog 14 #[.slice A n c, .int .i64 q] w fun e w' => e = .returned (.int .i64 (q + ((cntL Lp.cntE xs : Nat) : Int))) ∧ Below w.heap.size w w' := by
  obtain ⟨hn0, h2, h3⟩ := h.sls_len
  rw [mkL_len] at hn0
  subst hn0
  have hn : xs.length ≤ 9223372036854775807 := Nat.le_trans h2 h3
  clear h2 h3
  have H := Lib.hid h; clear h
  go_enter Try.func14, Try.ntmps14
  go_wp2
  go_loopw [1, 5] (fun u i wr => ∃ j : Nat, j ≤ xs.length ∧ i = .int .i64 j ∧ u = .int .i64 (q + ((cntL Lp.cntE (xs.take j) : Nat) : Int)) ∧ Below w.heap.size w wr) (fun _ i _ => xs.length - (intOf i).toNat)
  case atStart => exact ⟨0, Nat.zero_le _, rfl, int_eq (by simp [cntL]), Below.refl _ _⟩
  case round =>
    obtain ⟨j, hj, rfl, rfl, hb⟩ := hrel
    by_cases hlt : j < xs.length
    · obtain ⟨b, o, cs, l, rfl, hbl, hr, _, _, hc⟩ := (H.out.below hb).sls_at Lp.d_size (k := j) (by rw [mkL_len]; exact hlt)
      rw [mkL_get hlt] at hr
      have hcnt := cntL_take (cnt := Lp.cntE) hlt
      have hle := cntL_le (cnt := Lp.cntE) (xs := xs) (j + 1)
      rw [hcnt] at hle
      have HC := Lib.hid hcnt; clear hcnt
      obtain ⟨A1, c1, A2, c2, d1, d2, rfl, rfl, g1, g2⟩ := Rep.lp_iff.1 hr
      have k0 := (hc 0 _ rfl).1; rw [Nat.add_zero] at k0
      have k1 := (hc 1 _ rfl).1
      clear hc hr
      simp only [Lp.mkE, mkL_len] at k0 g1
      simp only [Lp.mkE, mkL_len] at k1 g2
      have B1 : q + ((cntL Lp.cntE (xs.take j) : Nat) : Int) + ((cntL Aff.cntE xs[j].lo : Nat) : Int) + ((cntL Aff.cntE xs[j].hi : Nat) : Int) ≤ 4611686018427387904 := by simp only [Lp.cntE] at hle; omega
      have B0 : 0 ≤ q + ((cntL Lp.cntE (xs.take j) : Nat) : Int) := by omega
      have HLE := Lib.hid hle; clear hle
      have R1_0 := Lib.hid g1; clear g1
      have R2_0 := Lib.hid g2; clear g2
      go_wp2_with fail
      refine (heldAffineS_c (q := q + ((cntL Lp.cntE (xs.take j) : Nat) : Int)) R1_0.out (by omega) (by omega)).mono ?_
      rintro e w1 ⟨rfl, b1⟩
      have k1_1 := (b1.cell (p := ⟨b, o + j * 2 + 1, none⟩) (hbl)).trans k1; clear k1
      have R2_1 := Lib.hid (R2_0.out.below b1); clear R2_0
      have hb1 := below_tr hb b1
      have hbl1 := Nat.lt_of_lt_of_le hbl b1.size; clear b1
      go_wp2_with fail
      refine (heldAffineS_c (q := q + ((cntL Lp.cntE (xs.take j) : Nat) : Int) + ((cntL Aff.cntE xs[j].lo : Nat) : Int)) R2_1.out (by omega) (by omega)).mono ?_
      rintro e w2 ⟨rfl, b2⟩
      have hb2 := below_tr hb1 b2
      have hbl2 := Nat.lt_of_lt_of_le hbl1 b2.size; clear b2
      go_wp2
      go_roundw
      case rel => exact ⟨j + 1, by omega, by go_num, int_eq (by rw [HC.out]; simp only [Lp.cntE]; omega), hb2⟩
      case measure => simp [intOf]; omega
    · have hjj : j = xs.length := by omega
      subst hjj
      go_wp2
      go_ret
      exact ⟨ret_int (by rw [List.take_length]), hb⟩

theorem eqLoopS_b {w : World} {xs : List Lp} {A B : Option Addr} {n m c d : Nat} {bs bs' : List Nat} (hA : Rep w (sls Lp.d xs) [.slice A n c] bs) (hB : Rep w (sls Lp.d xs) [.slice B m d] bs') : Calls Try.prog 10 #[.slice A n c, .slice B m d] w fun e w' => e = .returned (.bool true) ∧ Below w.heap.size w w' := eqLoopS_c hA hB
theorem markLoopS_n {w : World} {xs : List Lp} {A : Option Addr} {n c : Nat} {bs : List Nat} {q : Int} (h : Rep w (sls Lp.d xs) [.slice A n c] bs) (hnd : bs.Nodup) (h0 : 0 ≤ q) (h1 : q + ((cntL Lp.cntE xs : Nat) : Int) ≤ 4611686018427387904) : Calls Try.prog 13 #[.slice A n c, .int .i64 q] w fun e w' => e = .returned (.int .i64 (q + ((cntL Lp.cntE xs : Nat) : Int))) ∧ Rep w' (sls Lp.d (mkL Lp.mkE Lp.cntE q xs)) [.slice A n c] bs ∧ Touch bs w w' := markLoopS_c h hnd h0 h1
theorem heldLoopS_n {w : World} {xs : List Lp} {A : Option Addr} {n c : Nat} {bs : List Nat} {q : Int} (h : Rep w (sls Lp.d (mkL Lp.mkE Lp.cntE q xs)) [.slice A n c] bs) (h0 : 0 ≤ q) (h1 : q + ((cntL Lp.cntE xs : Nat) : Int) ≤ 4611686018427387904) : Calls Try.prog 14 #[.slice A n c, .int .i64 q] w fun e w' => e = .returned (.int .i64 (q + ((cntL Lp.cntE xs : Nat) : Int))) ∧ Below w.heap.size w w' := heldLoopS_c h h0 h1
def MadeLp (w : World) (x : Lp) (e : Ending) (w' : World) : Prop := ∃ (A1 : Option Addr) (c1 : Nat) (A2 : Option Addr) (c2 : Nat) (bs : List Nat), e = .returned (.agg #[.slice A1 x.lo.length c1, .slice A2 x.hi.length c2]) ∧ Rep w' x.d [.slice A1 x.lo.length c1, .slice A2 x.hi.length c2] bs ∧ bs.Nodup ∧ (∀ b ∈ bs, w.heap.size ≤ b) ∧ Below w.heap.size w w'
theorem MadeLp.of {w w' : World} {x : Lp} {e : Ending} (h : MadeT w x.d e w') : MadeLp w x e w' := by
  obtain ⟨cs, bs, rfl, r, h1, h2, h3⟩ := h
  have r2 := r
  obtain ⟨A1, c1, A2, c2, d1, d2, rfl, _⟩ := Rep.lp_iff.1 r2
  exact ⟨_, _, _, _, _, rfl, r, h1, h2, h3⟩
end Go.Proofs.Ytadmmlflngkpiaa
