/- The Go type Access: how it reads; the law package's functions on it and on slices of it. Printed by tygen.py. -/
import Derived.Test.YtadmmlflngkpiaaTyAffine
import Derived.Test.YtadmmlflngkpiaaText
set_option linter.all false
set_option linter.unusedSimpArgs false
set_option linter.unusedVariables false
namespace Go.Proofs.Ytadmmlflngkpiaa
open Go.ChangeShapes Go.WideShapes Go.ChangeAt Go.RowKit Go.Deep

structure Acc where
  arr : ByteArray
  subs : List Aff

def Acc.d (x : Acc) : D := .st [.str x.arr, sls Aff.d x.subs]
theorem Acc.d_size (x : Acc) : x.d.size = 2 := rfl
theorem Rep.acc_iff {w : World} {x : Acc} {cs : List Value} {bs : List Nat} : Rep w x.d cs bs ↔ ∃ (A2 : Option Addr) (c2 : Nat) (d2 : List Nat), cs = [.string x.arr, .slice A2 x.subs.length c2] ∧ bs = d2 ∧ x.arr.size ≤ maxLen ∧ Rep w (sls Aff.d x.subs) [.slice A2 x.subs.length c2] d2 := by
  constructor
  · intro h
    replace h : Reps w [.str x.arr, sls Aff.d x.subs] cs bs := h
    obtain ⟨_, _, _, _, rfl, rfl, g1, h⟩ := h
    obtain ⟨_, _, _, _, rfl, rfl, g2, h⟩ := h
    obtain ⟨rfl, rfl⟩ := h
    obtain ⟨rfl, rfl, g1⟩ := g1
    obtain ⟨B2, e2, rfl, _⟩ := g2.sls_form
    exact ⟨_, _, _, rfl, by simp, g1, g2⟩
  · rintro ⟨A2, c2, d2, rfl, rfl, g1, g2⟩
    have h : Reps w [.str x.arr, sls Aff.d x.subs] _ _ := ⟨_, _, _, _, rfl, rfl, ⟨rfl, rfl, g1⟩, ⟨_, _, _, _, rfl, rfl, g2, ⟨rfl, rfl⟩⟩⟩
    simpa using (show Rep w x.d _ _ from h)

theorem Try.infoAccess : (Try.prog.info? 46).map (fun i => (i.zero, i.size, decide (i.bytes ≤ 1024))) = some (some (.agg #[.string ⟨#[]⟩, .slice none 0 0]), 2, true) := by kernel_rfl
set_option maxHeartbeats 1000000 in
theorem eqAccess_c {w : World} {x : Acc} {cs cs' : List Value} {bs bs' : List Nat} (h : Rep w x.d cs bs) (h' : Rep w x.d cs' bs') :
    Calls Try.prog 51 #[.agg cs.toArray, .agg cs'.toArray] w fun e w' => e = .returned (.bool true) ∧ Below w.heap.size w w' := by
  have H := Lib.hid h
  have H' := Lib.hid h'
  obtain ⟨A2, c2, d2, rfl, rfl, g1, g2⟩ := Rep.acc_iff.1 h
  obtain ⟨A2', c2', d2', rfl, rfl, g1', g2'⟩ := Rep.acc_iff.1 h'
  have q1 := Lib.hid g1
  have G2 := Lib.hid g2
  have G2' := Lib.hid g2'
  clear h h' H H' g1 g1' g2 g2'
  go_enter Try.func51, Try.ntmps51
  go_wp2_with fail
  refine (eqAffineS_c (G2.out.below bel) (G2'.out.below bel)).mono ?_
  rintro e w1 ⟨rfl, b1⟩
  have P1 : Box2 w1 w.heap.size (.string x.arr) (.slice A2 x.subs.length c2) := by
    refine ⟨?_, ?_⟩ <;> (rw [b1.cell (by simp; try omega)]; go_simp)
  have Q1 : Box2 w1 (w.heap.size + 1) (.string x.arr) (.slice A2' x.subs.length c2') := by
    refine ⟨?_, ?_⟩ <;> (rw [b1.cell (by simp; try omega)]; go_simp)
  have S1 : Below w.heap.size w w1 := bel
  clear b1
  go_wp2
  go_ret
  exact ⟨rfl, bel⟩

set_option maxHeartbeats 1000000 in
theorem eqAccessS_c {w : World} {xs : List Acc} {A B : Option Addr} {n m c d : Nat} {bs bs' : List Nat} (hA : Rep w (sls Acc.d xs) [.slice A n c] bs) (hB : Rep w (sls Acc.d xs) [.slice B m d] bs') :
    Calls Try.prog 22 #[.slice A n c, .slice B m d] w fun e w' => e = .returned (.bool true) ∧ Below w.heap.size w w' := by
  obtain ⟨rfl, h1, h2⟩ := hA.sls_len
  obtain ⟨rfl, _, _⟩ := hB.sls_len
  have hn : xs.length ≤ 9223372036854775807 := Nat.le_trans h1 h2
  clear h1 h2
  have hl1 : ((xs.length : Int) != (xs.length : Int)) = false := by simp
  have HA := Lib.hid hA; clear hA
  have HB := Lib.hid hB; clear hB
  go_enter Try.func22, Try.ntmps22
  go_wp2
  go_loopw [5] (fun i wr => ∃ k : Nat, k ≤ xs.length ∧ i = .int .i64 k ∧ Below w.heap.size w wr) (fun i _ => xs.length - (intOf i).toNat)
  case atStart => exact ⟨0, Nat.zero_le _, rfl, Below.refl _ _⟩
  case round =>
    obtain ⟨k, hk, rfl, hb⟩ := hrel
    by_cases hlt : k < xs.length
    · obtain ⟨b, o, cs, l, rfl, hbl, hr, _, _, hc⟩ := (HA.out.below hb).sls_at Acc.d_size hlt
      have G := Lib.hid hr
      obtain ⟨A2, c2, d2, rfl, rfl, g1, g2⟩ := Rep.acc_iff.1 hr
      have k0 := (hc 0 _ rfl).1; rw [Nat.add_zero] at k0
      have k1 := (hc 1 _ rfl).1
      clear hc hr g1 g2
      obtain ⟨b', o', cs', l', rfl, hbl', hr', _, _, hc'⟩ := (HB.out.below hb).sls_at Acc.d_size hlt
      have G' := Lib.hid hr'
      obtain ⟨A2', c2', d2', rfl, rfl, g1', g2'⟩ := Rep.acc_iff.1 hr'
      have k0' := (hc' 0 _ rfl).1; rw [Nat.add_zero] at k0'
      have k1' := (hc' 1 _ rfl).1
      clear hc' hr' g1' g2'
      go_wp2_with fail
      go_region_held3 (fun w' => w'.cell? ⟨b, o + k * 2, none⟩ = some (.string xs[k].arr) ∧ w'.cell? ⟨b, o + k * 2 + 1, none⟩ = some (.slice A2 xs[k].subs.length c2) ∧ w'.cell? ⟨b', o' + k * 2, none⟩ = some (.string xs[k].arr) ∧ w'.cell? ⟨b', o' + k * 2 + 1, none⟩ = some (.slice A2' xs[k].subs.length c2')) (first | exact ⟨k0, k1, k0', k1'⟩ | exact ⟨(by rw [b1.cell hbl]; exact k0), (by rw [b1.cell hbl]; exact k1), (by rw [b1.cell hbl']; exact k0'), (by rw [b1.cell hbl']; exact k1')⟩ | skip)
        (first | (go_at_call 51; refine (eqAccess_c (G.out.drewN 1) (G'.out.drewN 1)).mono ?_; rintro e w1 ⟨rfl, b1⟩; replace b1 := of_drew b1))
      have S1 := below_tr hb b1
      clear b1
      go_wp2
      go_roundw
      case rel => exact ⟨k + 1, by omega, by go_num, S1⟩
      case measure => simp [intOf]; omega
    · go_wp2
      go_ret
      exact ⟨rfl, hb⟩

theorem szD_acc (x : Acc) : szD x.d = x.arr.size + szD (sls Aff.d x.subs) := by
  have h : szD x.d = szDs [.str x.arr, sls Aff.d x.subs] := by simp only [Acc.d, szD]
  rw [h]; simp only [szDs, szD, szD_ints]; omega
set_option maxHeartbeats 2000000 in
theorem szAccess_c {w : World} {x : Acc} {cs : List Value} {bs : List Nat} {left : Int} (h : Rep w x.d cs bs) (h0 : 0 ≤ left) (h1 : left ≤ 1048576) :
    Calls Try.prog 42 #[.agg cs.toArray, .int .i64 left] w fun e w' => e = .returned (.int .i64 (szR left (szD x.d))) ∧ Below w.heap.size w w' := by
  obtain ⟨A2, c2, d2, rfl, rfl, g1, g2⟩ := Rep.acc_iff.1 h
  rw [szD_acc x]
  have hl1 : x.arr.size ≤ 9223372036854775807 := Nat.le_trans g1 (by unfold maxLen; omega)
  have G2 := Lib.hid g2
  clear h g1 g2
  by_cases hs0 : (left : Int) - ((x.arr.size : Nat) : Int) < 0
  · have HR := Lib.hid (show szR left (x.arr.size + szD (sls Aff.d x.subs)) = -1 from szR_neg (by omega))
    have HS0 := Lib.hid (szR_neg hs0)
    go_enter Try.func42, Try.ntmps42
    go_wp2
    go_ret
    exact ⟨ret_int HR.out.symm, bel⟩
  · have HS0 := Lib.hid (szR_pos (left := left) (tot := x.arr.size) (by omega))
    have hp0 : 0 ≤ left - ((x.arr.size : Nat) : Int) := by omega
    clear hs0
    by_cases hs1 : (left - ((x.arr.size : Nat) : Int) : Int) - ((szD (sls Aff.d x.subs) : Nat) : Int) < 0
    · have HR := Lib.hid (show szR left (x.arr.size + szD (sls Aff.d x.subs)) = -1 from szR_neg (by omega))
      have HS1 := Lib.hid (szR_neg hs1)
      go_enter Try.func42, Try.ntmps42
      go_wp2_with fail
      refine (szAffineS_c (G2.out.below bel) (by omega) (by omega)).mono ?_
      rintro e w1 ⟨rfl, b1⟩
      rw [HS1.out]
      have P1 : Box2 w1 w.heap.size (.string x.arr) (.slice A2 x.subs.length c2) := by
        refine ⟨?_, ?_⟩ <;> (rw [b1.cell (by simp; try omega)]; go_simp)
      have S1 : Below w.heap.size w w1 := bel
      clear b1
      go_wp2
      go_ret
      exact ⟨ret_int HR.out.symm, bel⟩
    · have HS1 := Lib.hid (szR_pos (left := left - ((x.arr.size : Nat) : Int)) (tot := szD (sls Aff.d x.subs)) (by omega))
      have hp1 : 0 ≤ left - ((x.arr.size : Nat) : Int) - ((szD (sls Aff.d x.subs) : Nat) : Int) := by omega
      clear hs1
      have HR := Lib.hid (show szR left (x.arr.size + szD (sls Aff.d x.subs)) = left - ((x.arr.size : Nat) : Int) - ((szD (sls Aff.d x.subs) : Nat) : Int) by rw [szR_pos (by omega)] <;> omega)
      go_enter Try.func42, Try.ntmps42
      go_wp2_with fail
      refine (szAffineS_c (G2.out.below bel) (by omega) (by omega)).mono ?_
      rintro e w1 ⟨rfl, b1⟩
      rw [HS1.out]
      have P1 : Box2 w1 w.heap.size (.string x.arr) (.slice A2 x.subs.length c2) := by
        refine ⟨?_, ?_⟩ <;> (rw [b1.cell (by simp; try omega)]; go_simp)
      have S1 : Below w.heap.size w w1 := bel
      clear b1
      go_wp2
      go_ret
      exact ⟨ret_int HR.out.symm, bel⟩


set_option maxHeartbeats 4000000 in
set_option maxRecDepth 100000 in
theorem toAccess_c {w : World} {x : Acc} {cs : List Value} {bs : List Nat} (h : Rep w x.d cs bs) (hz : szD x.d ≤ 10000000) :
    Calls Try.prog 45 #[.agg cs.toArray] w (MadeT w x.d) := by
  rw [szD_acc] at hz
  obtain ⟨A2, c2, d2, rfl, rfl, g1, g2⟩ := Rep.acc_iff.1 h
  have G2 := Lib.hid g2
  have Z2 := Lib.hid (show szD (sls Aff.d x.subs) ≤ 10000000 by omega)
  have I1 := Lib.hid g1
  clear h hz g1 g2
  go_enter Try.func45, Try.ntmps45
  go_wp2_with fail
  refine (toAffineS_c (G2.out.below bel) Z2.out).mono ?_
  rintro e w1 ⟨Ar1, nr1, cr1, bs1, rfl, r1, nd1, hy1, b1⟩
  obtain ⟨hn1, _, _⟩ := r1.sls_len
  subst hn1
  have hb1 : ∀ y ∈ bs1, w.heap.size + 3 ≤ y := fun y hy => by have := hy1 y hy; (try simp [World.setCell] at this); omega
  have PA1 : w1.cell? ⟨w.heap.size, 0, none⟩ = some (.string x.arr) ∧ w1.cell? ⟨w.heap.size, 1, none⟩ = some (.slice A2 x.subs.length c2) := by
    refine ⟨?_, ?_⟩ <;> (rw [b1.cell (by simp [World.setCell]; try (omega))]; go_simp)
  have PR1 : w1.cell? ⟨w.heap.size + 1, 0, none⟩ = some (.string ⟨#[]⟩) ∧ w1.cell? ⟨w.heap.size + 1, 1, none⟩ = some (.slice none 0 0) := by
    refine ⟨?_, ?_⟩ <;> (rw [b1.cell (by simp [World.setCell]; try (omega))]; go_simp)
  have PO1 : w1.cell? ⟨w.heap.size + 2, 0, none⟩ = some (.string x.arr) ∧ w1.cell? ⟨w.heap.size + 2, 1, none⟩ = some (.slice none 0 0) := by
    refine ⟨?_, ?_⟩ <;> (rw [b1.cell (by simp [World.setCell]; try (omega))]; go_simp)
  have F1 : w1.frozen? ⟨w.heap.size + 1, 0, none⟩ = false ∧ w1.frozen? ⟨w.heap.size + 1, 1, none⟩ = false ∧ w1.frozen? ⟨w.heap.size + 2, 0, none⟩ = false ∧ w1.frozen? ⟨w.heap.size + 2, 1, none⟩ = false := by
    refine ⟨?_, ?_, ?_, ?_⟩ <;> (rw [b1.frozen (by simp [World.setCell]; try (omega))]; go_simp)
  have S1 : Below w.heap.size w w1 := bel
  have ZS1 := Lib.hid (show w.heap.size + 3 ≤ w1.heap.size by have := b1.size; (try simp [World.setCell] at this); omega)
  have RR1_1 := Lib.hid r1; have HB1 := Lib.hid hb1; have ND1 := Lib.hid nd1; have LT1 := Lib.hid (Rep.lt _ r1)
  clear r1 hb1 nd1 hy1 b1
  have RALL := Lib.hid (show Rep w1 x.d [.string x.arr, .slice Ar1 x.subs.length cr1] (bs1) from (show ∀ W, Reps W [.str x.arr, sls Aff.d x.subs] ([.string x.arr] ++ ([.slice Ar1 x.subs.length cr1] ++ ([]))) ([] ++ (bs1 ++ ([]))) → Rep W x.d [.string x.arr, .slice Ar1 x.subs.length cr1] (bs1) from fun W hq => by simpa [List.append_assoc] using (show Rep W x.d _ _ from hq)) _ ⟨_, _, _, _, rfl, rfl, ⟨rfl, rfl, I1.out⟩, ⟨_, _, _, _, rfl, rfl, RR1_1.out, ⟨rfl, rfl⟩⟩⟩)
  have NDALL := Lib.hid (show (bs1 : List Nat).Nodup from ND1.out)
  have HBALL := Lib.hid (show ∀ y ∈ (bs1 : List Nat), w.heap.size + 3 ≤ y from HB1.out)
  clear RR1_1 HB1 ND1 LT1
  go_wp2
  refine bodyPost_ret (v := .agg #[.string x.arr, .slice Ar1 x.subs.length cr1]) (by simp [results, Try.results45, go_sem, PR1, PO1]) rfl ⟨[.string x.arr, .slice Ar1 x.subs.length cr1], bs1, rfl, ?_, NDALL.out, fun y hy => by have := HBALL.out y hy; omega, ?_⟩
  · exact Rep.keep _ RALL.out (by repeat (first | with_reducible exact Keeps.refl _ _ | refine Keeps.setCell ?_ (fun hm => by have := HBALL.out _ hm; dsimp only at this; omega) _))
  · exact (by repeat (first | with_reducible exact S1 | refine Below.setCell ?_ (by simp; try omega) _))


def Acc.mkE (q : Int) (x : Acc) : Acc := ⟨mtext (q), mkL Aff.mkE Aff.cntE (q + 1) x.subs⟩
def Acc.cntE (x : Acc) : Nat := 1 + cntL Aff.cntE x.subs

theorem Acc.cnt_le (x : Acc) : x.cntE ≤ 8 * (szD x.d + 1) := by
  have := szD_acc x
  have := Aff.cnts_le x.subs
  simp only [Acc.cntE]
  omega
theorem Acc.cnts_le (xs : List Acc) : cntL Acc.cntE xs ≤ 8 * szD (sls Acc.d xs) := cntL_le8 xs fun x _ => x.cnt_le

set_option maxHeartbeats 2000000 in
theorem markAccessS_c {w : World} {xs : List Acc} {A : Option Addr} {n c : Nat} {bs : List Nat} {q : Int} (h : Rep w (sls Acc.d xs) [.slice A n c] bs) (hnd : bs.Nodup) (h0 : 0 ≤ q) (h1 : q + ((cntL Acc.cntE xs : Nat) : Int) ≤ 4611686018427387904) :
    Calls Try.prog 24 #[.slice A n c, .int .i64 q] w fun e w' => e = .returned (.int .i64 (q + ((cntL Acc.cntE xs : Nat) : Int))) ∧ Rep w' (sls Acc.d (mkL Acc.mkE Acc.cntE q xs)) [.slice A n c] bs ∧ Touch bs w w' := by
  obtain ⟨rfl, h2, h3⟩ := h.sls_len
  have hn : xs.length ≤ 9223372036854775807 := Nat.le_trans h2 h3
  have ND := Lib.hid hnd; clear hnd
  clear h2 h3
  go_enter Try.func24, Try.ntmps24
  go_wp2
  go_loopw [1, 5] (fun u i wr => ∃ j : Nat, j ≤ xs.length ∧ i = .int .i64 j ∧ u = .int .i64 (q + ((cntL Acc.cntE (xs.take j) : Nat) : Int)) ∧ Rep wr (sls Acc.d (mkTo Acc.mkE Acc.cntE q xs j)) [.slice A xs.length c] bs ∧ Touch bs w wr) (fun _ i _ => xs.length - (intOf i).toNat)
  case atStart => exact ⟨0, Nat.zero_le _, rfl, int_eq (by simp [cntL]), by rw [mkTo_zero]; exact h, Touch.refl _ _⟩
  case round =>
    obtain ⟨j, hj, rfl, rfl, hr0, ht⟩ := hrel
    by_cases hlt : j < xs.length
    · have hlen : (mkTo Acc.mkE Acc.cntE q xs j).length = xs.length := mkTo_len _ _ _ _ hj
      obtain ⟨b, o, cs, l, rfl, hbl, hr, hbb, hlb, hnl, hbn, hc, hset⟩ := hr0.sls_focus Acc.d_size ND.out (k := j) (by rw [hlen]; exact hlt)
      rw [mkTo_get hlt] at hr
      have hcnt := cntL_take (cnt := Acc.cntE) hlt
      have hle := cntL_le (cnt := Acc.cntE) (xs := xs) (j + 1)
      rw [hcnt] at hle
      have HC := Lib.hid hcnt; clear hcnt hr0 hlen
      obtain ⟨A2, c2, d2, rfl, rfl, g1, g2⟩ := Rep.acc_iff.1 hr
      have k0 := (hc 0 _ rfl).1; rw [Nat.add_zero] at k0
      have z0 := (hc 0 _ rfl).2; rw [Nat.add_zero] at z0
      have k1 := (hc 1 _ rfl).1
      have z1 := (hc 1 _ rfl).2
      have HS := Lib.hid hset; clear hset hc hr
      have B1 : q + ((cntL Acc.cntE (xs.take j) : Nat) : Int) + 1 + ((cntL Aff.cntE xs[j].subs : Nat) : Int) ≤ 4611686018427387904 := by simp only [Acc.cntE] at hle; omega
      have B0 : 0 ≤ q + ((cntL Acc.cntE (xs.take j) : Nat) : Int) := by omega
      have nd_l := hnl
      have mb2 : b ∉ l := fun hm => hbn (by first | exact hm | simp [hm])
      have sb2 : ∀ y ∈ l, y ∈ (l : List Nat) := fun y hm => by first | exact hm | simp [hm]
      have lt2 := Rep.lt _ g2
      have hlow : ∀ y ∈ (l : List Nat), y ∈ bs := hlb
      have HND := Lib.hid (And.intro hnl (And.intro hbn hlb)); clear hnl hbn hlb
      have R1_0 := Lib.hid g1; clear g1
      have R2_0 := Lib.hid g2; clear g2
      have M0 := Mk.refl wr b (o + j * 2) (o + j * 2 + 2) (l)
      have L0 := hbl
      have Hmb2 := Lib.hid mb2; clear mb2
      have Hsb2 := Lib.hid sb2; clear sb2
      have Hlt2 := Lib.hid lt2; clear lt2
      have Hnd_l := Lib.hid nd_l; clear nd_l
      have Hhlow := Lib.hid hlow; clear hlow
      go_wp2_with fail
      refine (markText_c (k := q + ((cntL Acc.cntE (xs.take j) : Nat) : Int)) (by have := h1; simp only [Acc.cntE] at hle; omega) (by have := h1; simp only [Acc.cntE] at hle; omega)).mono ?_
      rintro e w1 ⟨rfl, t1⟩
      have M1 := M0.below t1 (Nat.lt_of_lt_of_le hbl M0.touch.size)
      have k0_1 := (t1.cell (p := ⟨b, o + j * 2, none⟩) (Nat.lt_of_lt_of_le hbl M0.touch.size)).trans k0; clear k0
      have z0_1 := (t1.frozen (p := ⟨b, o + j * 2, none⟩) (Nat.lt_of_lt_of_le hbl M0.touch.size)).trans z0; clear z0
      have k1_1 := (t1.cell (p := ⟨b, o + j * 2 + 1, none⟩) (Nat.lt_of_lt_of_le hbl M0.touch.size)).trans k1; clear k1
      have z1_1 := (t1.frozen (p := ⟨b, o + j * 2 + 1, none⟩) (Nat.lt_of_lt_of_le hbl M0.touch.size)).trans z1; clear z1
      have R2_1 := Lib.hid (R2_0.out.below t1); clear R2_0
      clear t1
      have X2 := Lib.hid (show ∃ W, W = w1.setCell ⟨b, o + j * 2, none⟩ (.string (mtext (q + ((cntL Acc.cntE (xs.take j) : Nat) : Int)))) from ⟨_, rfl⟩)
      have M2 := M1.store (i := o + j * 2) (by omega) (by omega) (.string (mtext (q + ((cntL Acc.cntE (xs.take j) : Nat) : Int))))
      have k0_2 := World.cell?_setCell_same (w := w1) (a := ⟨b, o + j * 2, none⟩) (v := .string (mtext (q + ((cntL Acc.cntE (xs.take j) : Nat) : Int)))) k0_1
      have z0_2 := (World.frozen?_setCell (w := w1) (a := ⟨b, o + j * 2, none⟩) (v := .string (mtext (q + ((cntL Acc.cntE (xs.take j) : Nat) : Int)))) (b := ⟨b, o + j * 2, none⟩)).trans z0_1
      have k1_2 := (World.cell?_setCell_other (w := w1) (a := ⟨b, o + j * 2, none⟩) (v := .string (mtext (q + ((cntL Acc.cntE (xs.take j) : Nat) : Int)))) (b := ⟨b, o + j * 2 + 1, none⟩) (fun e => by have h := congrArg Addr.off e; dsimp only at h; omega)).trans k1_1
      have z1_2 := (World.frozen?_setCell (w := w1) (a := ⟨b, o + j * 2, none⟩) (v := .string (mtext (q + ((cntL Acc.cntE (xs.take j) : Nat) : Int)))) (b := ⟨b, o + j * 2 + 1, none⟩)).trans z1_1
      have R2_2 := Lib.hid (Rep.keep _ R2_1.out ((Keeps.refl _ _).setCell (p := ⟨b, o + j * 2, none⟩) Hmb2.out (.string (mtext (q + ((cntL Acc.cntE (xs.take j) : Nat) : Int)))))); clear R2_1
      go_wp2_with fail
      refine (markAffineS_c (q := q + ((cntL Acc.cntE (xs.take j) : Nat) : Int) + 1) R2_2.out Hnd_l.out (by have := h1; simp only [Acc.cntE] at hle; omega) (by have := h1; simp only [Acc.cntE] at hle; omega)).mono ?_
      rintro e w3 ⟨rfl, r3, t3⟩
      have M3 := M2.call t3 Hsb2.out HND.out.2.1 (Nat.lt_of_lt_of_le hbl M2.touch.size)
      have k0_3 := (t3.cell (g := b) (o := o + j * 2) (Nat.lt_of_lt_of_le hbl M2.touch.size) Hmb2.out).trans k0_2; clear k0_2
      have z0_3 := (t3.frozen (g := b) (o := o + j * 2) (Nat.lt_of_lt_of_le hbl M2.touch.size) Hmb2.out).trans z0_2; clear z0_2
      have k1_3 := (t3.cell (g := b) (o := o + j * 2 + 1) (Nat.lt_of_lt_of_le hbl M2.touch.size) Hmb2.out).trans k1_2; clear k1_2
      have z1_3 := (t3.frozen (g := b) (o := o + j * 2 + 1) (Nat.lt_of_lt_of_le hbl M2.touch.size) Hmb2.out).trans z1_2; clear z1_2
      have R2_3 := Lib.hid r3; clear r3 R2_2
      clear t3
      have MM := Lib.hid M3
      go_wp2
      go_roundw
      case rel =>
        have rx : Rep _ (Acc.mkE (q + ((cntL Acc.cntE (xs.take j) : Nat) : Int)) xs[j]).d _ (l) := Rep.acc_iff.2 ⟨_, _, _, rfl, rfl, (by first | exact mtext_le _ | (simp only [Acc.mkE]; exact mtext_le _)), (by simp only [Acc.mkE, seqI_len, mkL_len]; exact R2_3.out)⟩
        have rs := HS.out _ (Acc.mkE (q + ((cntL Acc.cntE (xs.take j) : Nat) : Int)) xs[j]) _ rx MM.out.touch MM.out.frozen (fun jj u hu => by
          match jj, hu with
          | 0, hu => simp only [List.getElem?_cons_zero, List.getElem?_cons_succ, Option.some.injEq] at hu; subst hu; first | exact k0_3 | simpa [Acc.mkE, seqI_len, mkL_len] using k0_3
          | 1, hu => simp only [List.getElem?_cons_zero, List.getElem?_cons_succ, Option.some.injEq] at hu; subst hu; first | exact k1_3 | simpa [Acc.mkE, seqI_len, mkL_len] using k1_3
          | jj + 2, hu => simp at hu) MM.out.other
        rw [mkTo_set hlt] at rs
        exact ⟨j + 1, by omega, by go_num, int_eq (by rw [HC.out]; simp only [Acc.cntE]; omega), rs, ht.trans (MM.out.touch.mono fun y hy => by rcases List.mem_cons.1 hy with rfl | hy; exact hbb; exact Hhlow.out y hy)⟩
      case measure => simp [intOf]; omega
    · have hjj : j = xs.length := by omega
      subst hjj
      rw [mkTo_all] at hr0
      go_wp2
      go_ret
      exact ⟨ret_int (by rw [List.take_length]), hr0, ht⟩

set_option maxHeartbeats 2000000 in
theorem heldAccessS_c {w : World} {xs : List Acc} {A : Option Addr} {n c : Nat} {bs : List Nat} {q : Int} (h : Rep w (sls Acc.d (mkL Acc.mkE Acc.cntE q xs)) [.slice A n c] bs) (h0 : 0 ≤ q) (h1 : q + ((cntL Acc.cntE xs : Nat) : Int) ≤ 4611686018427387904) :
    Calls Try.prog 25 #[.slice A n c, .int .i64 q] w fun e w' => e = .returned (.int .i64 (q + ((cntL Acc.cntE xs : Nat) : Int))) ∧ Below w.heap.size w w' := by
  obtain ⟨hn0, h2, h3⟩ := h.sls_len
  rw [mkL_len] at hn0
  subst hn0
  have hn : xs.length ≤ 9223372036854775807 := Nat.le_trans h2 h3
  clear h2 h3
  have H := Lib.hid h; clear h
  go_enter Try.func25, Try.ntmps25
  go_wp2
  go_loopw [1, 5] (fun u i wr => ∃ j : Nat, j ≤ xs.length ∧ i = .int .i64 j ∧ u = .int .i64 (q + ((cntL Acc.cntE (xs.take j) : Nat) : Int)) ∧ Below w.heap.size w wr) (fun _ i _ => xs.length - (intOf i).toNat)
  case atStart => exact ⟨0, Nat.zero_le _, rfl, int_eq (by simp [cntL]), Below.refl _ _⟩
  case round =>
    obtain ⟨j, hj, rfl, rfl, hb⟩ := hrel
    by_cases hlt : j < xs.length
    · obtain ⟨b, o, cs, l, rfl, hbl, hr, _, _, hc⟩ := (H.out.below hb).sls_at Acc.d_size (k := j) (by rw [mkL_len]; exact hlt)
      rw [mkL_get hlt] at hr
      have hcnt := cntL_take (cnt := Acc.cntE) hlt
      have hle := cntL_le (cnt := Acc.cntE) (xs := xs) (j + 1)
      rw [hcnt] at hle
      have HC := Lib.hid hcnt; clear hcnt
      obtain ⟨A2, c2, d2, rfl, rfl, g1, g2⟩ := Rep.acc_iff.1 hr
      have k0 := (hc 0 _ rfl).1; rw [Nat.add_zero] at k0
      have k1 := (hc 1 _ rfl).1
      clear hc hr
      simp only [Acc.mkE] at k0
      clear g1
      simp only [Acc.mkE, mkL_len] at k1 g2
      have B1 : q + ((cntL Acc.cntE (xs.take j) : Nat) : Int) + 1 + ((cntL Aff.cntE xs[j].subs : Nat) : Int) ≤ 4611686018427387904 := by simp only [Acc.cntE] at hle; omega
      have B0 : 0 ≤ q + ((cntL Acc.cntE (xs.take j) : Nat) : Int) := by omega
      have HLE := Lib.hid hle; clear hle
      have R2_0 := Lib.hid g2; clear g2
      go_wp2_with fail
      go_region_held3 (fun w' => w'.cell? ⟨b, o + j * 2, none⟩ = some (.string (mtext (q + ((cntL Acc.cntE (xs.take j) : Nat) : Int))))) (first | exact k0 | exact (b1.cell (p := ⟨b, o + j * 2, none⟩) (hbl)).trans k0 | skip)
        (first | (go_at_call 58; refine (markText_c (k := q + ((cntL Acc.cntE (xs.take j) : Nat) : Int)) (by omega) (by omega)).mono ?_; rintro e w1 ⟨rfl, b1⟩; replace b1 := of_drew b1))
      have k0_1 := (b1.cell (p := ⟨b, o + j * 2, none⟩) (hbl)).trans k0; clear k0
      have k1_1 := (b1.cell (p := ⟨b, o + j * 2 + 1, none⟩) (hbl)).trans k1; clear k1
      have R2_1 := Lib.hid (R2_0.out.below b1); clear R2_0
      have hb1 := below_tr hb b1
      have hbl1 := Nat.lt_of_lt_of_le hbl b1.size; clear b1
      go_wp2_with fail
      refine (heldAffineS_c (q := q + ((cntL Acc.cntE (xs.take j) : Nat) : Int) + 1) R2_1.out (by omega) (by omega)).mono ?_
      rintro e w2 ⟨rfl, b2⟩
      have hb2 := below_tr hb1 b2
      have hbl2 := Nat.lt_of_lt_of_le hbl1 b2.size; clear b2
      go_wp2
      go_roundw
      case rel => exact ⟨j + 1, by omega, by go_num, int_eq (by rw [HC.out]; simp only [Acc.cntE]; omega), hb2⟩
      case measure => simp [intOf]; omega
    · have hjj : j = xs.length := by omega
      subst hjj
      go_wp2
      go_ret
      exact ⟨ret_int (by rw [List.take_length]), hb⟩

theorem eqAccessS_b {w : World} {xs : List Acc} {A B : Option Addr} {n m c d : Nat} {bs bs' : List Nat} (hA : Rep w (sls Acc.d xs) [.slice A n c] bs) (hB : Rep w (sls Acc.d xs) [.slice B m d] bs') : Calls Try.prog 22 #[.slice A n c, .slice B m d] w fun e w' => e = .returned (.bool true) ∧ Below w.heap.size w w' := eqAccessS_c hA hB
theorem markAccessS_n {w : World} {xs : List Acc} {A : Option Addr} {n c : Nat} {bs : List Nat} {q : Int} (h : Rep w (sls Acc.d xs) [.slice A n c] bs) (hnd : bs.Nodup) (h0 : 0 ≤ q) (h1 : q + ((cntL Acc.cntE xs : Nat) : Int) ≤ 4611686018427387904) : Calls Try.prog 24 #[.slice A n c, .int .i64 q] w fun e w' => e = .returned (.int .i64 (q + ((cntL Acc.cntE xs : Nat) : Int))) ∧ Rep w' (sls Acc.d (mkL Acc.mkE Acc.cntE q xs)) [.slice A n c] bs ∧ Touch bs w w' := markAccessS_c h hnd h0 h1
theorem heldAccessS_n {w : World} {xs : List Acc} {A : Option Addr} {n c : Nat} {bs : List Nat} {q : Int} (h : Rep w (sls Acc.d (mkL Acc.mkE Acc.cntE q xs)) [.slice A n c] bs) (h0 : 0 ≤ q) (h1 : q + ((cntL Acc.cntE xs : Nat) : Int) ≤ 4611686018427387904) : Calls Try.prog 25 #[.slice A n c, .int .i64 q] w fun e w' => e = .returned (.int .i64 (q + ((cntL Acc.cntE xs : Nat) : Int))) ∧ Below w.heap.size w w' := heldAccessS_c h h0 h1
def MadeAcc (w : World) (x : Acc) (e : Ending) (w' : World) : Prop := ∃ (A2 : Option Addr) (c2 : Nat) (bs : List Nat), e = .returned (.agg #[.string x.arr, .slice A2 x.subs.length c2]) ∧ Rep w' x.d [.string x.arr, .slice A2 x.subs.length c2] bs ∧ bs.Nodup ∧ (∀ b ∈ bs, w.heap.size ≤ b) ∧ Below w.heap.size w w'
theorem MadeAcc.of {w w' : World} {x : Acc} {e : Ending} (h : MadeT w x.d e w') : MadeAcc w x e w' := by
  obtain ⟨cs, bs, rfl, r, h1, h2, h3⟩ := h
  have r2 := r
  obtain ⟨A2, c2, d2, rfl, _⟩ := Rep.acc_iff.1 r2
  exact ⟨_, _, _, rfl, r, h1, h2, h3⟩
theorem toAccess_m {w : World} {x : Acc} {cs : List Value} {bs : List Nat} (h : Rep w x.d cs bs) (hn : szD x.d ≤ 1048576) : Calls Try.prog 45 #[.agg cs.toArray] w (MadeAcc w x) := (toAccess_c h (by omega)).mono fun _ _ h => MadeAcc.of h
theorem szAccess_t {w : World} {x : Acc} {cs : List Value} {bs : List Nat} {left : Int} (h : Rep w x.d cs bs) (h0 : 0 ≤ left) (h1 : left ≤ 1048576) : Calls Try.prog 42 #[.agg cs.toArray, .int .i64 left] w fun e w' => e = .returned (.int .i64 (szR left (szD x.d))) ∧ Below w.heap.size w w' := szAccess_c h h0 h1
end Go.Proofs.Ytadmmlflngkpiaa
