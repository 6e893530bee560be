/- The program's ParallelOrder. -/
import Derived.Test.YtgogjbnneoadkaaGreatZpParV
set_option linter.all false
set_option linter.unusedSimpArgs false
set_option linter.unusedVariables false
namespace Go.Proofs.YtgogjbnneoadkaaGreat
open Go.ChangeShapes Go.WideShapes Go.ChangeAt Go.RowKit Go.Deep

theorem Touch.cellT {w w' : World} {bs : List Nat} {g o : Nat} {v : Value} (t : Touch bs w w') (h : w.cell? ⟨g, o, none⟩ = some v) (hn : g ∉ bs) : w'.cell? ⟨g, o, none⟩ = some v := (t.cell (lt_of_cell h) hn).trans h
theorem Touch.own_ {bs gs : List Nat} {a b c : World} (h : Touch bs a b) (k : Touch gs b c) (hq : ∀ y ∈ gs, a.heap.size ≤ y) : Touch bs a c :=
  ⟨k.os.trans h.os, k.tape.trans h.tape, k.output.trans h.output, Nat.le_trans h.size k.size, fun x hx hn => (k.block x (Nat.lt_of_lt_of_le hx h.size) (fun hm => by have := hq x hm; omega)).trans (h.block x hx hn)⟩
theorem GrowA.formS {w : World} {B : Nat} {e : TypeId} {v : Value} {xs : List (List Int)} {S : List Nat} (h : GrowA w B e v xs S) (hp : 0 < xs.length) : ∃ g c, v = .slice (some ⟨g, 0, none⟩) xs.length c ∧ B ≤ g ∧ g < w.heap.size := by
  obtain ⟨es, cb, h1, _⟩ := h
  exact h1.form hp
theorem DeleteA_m {w : World} {B : Nat} {xs : List (List Int)} {S : List Nat} {g M cap k : Nat} (hM : 0 < M) (h : GrowA w B 39 (.slice (some ⟨g, 0, none⟩) M cap) xs S) (hk : k < xs.length) (hl : xs.length ≤ 1000000) (hS : ∀ y ∈ S, y ≠ g) :
    Calls Tryz.prog 68 #[.slice (some ⟨g, 0, none⟩) M cap, .int .i64 (k : Int), .int .i64 ((k : Int) + 1)] w fun e w' => e = .returned (.slice (some ⟨g, 0, none⟩) (M - 1) cap) ∧ GrowA w' B 39 (.slice (some ⟨g, 0, none⟩) (M - 1) cap) (xs.eraseIdx k) S ∧ Touch [g] w w' := by
  obtain ⟨q, rfl⟩ : ∃ q, M = q + 1 := ⟨M - 1, by omega⟩
  exact DeleteA_c h hk hl hS
theorem par1_e : Enters Tryz.prog 65 := fun args W => by go_simp
set_option maxRecDepth 100000 in
set_option maxHeartbeats 4000000 in
theorem par1_c {w : World} {g : List (List Int)} {ch : List Int} {A Ac : Option Addr} {n c nc cc gc gn n0 : Nat} {bs bc : List Nat} (h : Rep w (sls ints g) [.slice A n c] bs) (hg : g.length ≤ 120) (hgl : g.flatten.length ≤ 120) (hn0 : n0 ≤ 100000)
    (hch : Rep w (ints ch) [.slice Ac nc cc] bc) (hc : w.cell? ⟨gc, 0, none⟩ = some (.slice Ac nc cc)) (hn : w.cell? ⟨gn, 0, none⟩ = some (.int .i64 (n0 : Int))) (hf : w.frozen? ⟨gn, 0, none⟩ = false) (d1 : gn ∉ bs) (d2 : gn ∉ bc) (d3 : gc ≠ gn) :
    Calls Tryz.prog 65 #[.slice A n c, .pointer (some ⟨gc, 0, none⟩), .pointer (some ⟨gn, 0, none⟩)] w fun e w' => (∃ A n c bs, e = .returned (.slice A n c) ∧ Rep w' (ints (parA ch g.length n0 g)) [.slice A n c] bs) ∧ Touch [gn] w w' ∧ w'.cell? ⟨gn, 0, none⟩ = some (.int .i64 ((n0 + g.length : Nat) : Int)) ∧ w'.frozen? ⟨gn, 0, none⟩ = false := by
  obtain ⟨rfl, _, _⟩ := h.sls_len
  have HR := Lib.hid h
  have HC := Lib.hid hch; clear hch
  have lgc := lt_of_cell hc
  have lgn := lt_of_cell hn
  have HBS := Lib.hid (show ∀ y ∈ bs, y ≠ gn from fun y hy e => d1 (e ▸ hy))
  have HBL := Lib.hid (Rep.lt _ h); clear h
  have hP0 := parA_len ch g.length n0 g rfl
  have D2 := Lib.hid d2; clear d2
  have D1 := Lib.hid d1; clear d1
  obtain ⟨R, hR⟩ : ∃ R, R = parA ch g.length n0 g := ⟨_, rfl⟩
  have HRR := Lib.hid hR
  rw [← hR] at hP0
  rw [← hR]
  clear hR
  go_enter Tryz.func65, Tryz.ntmps65
  go_wp2_with fail
  refine (CloneA_c (HR.out.below bel) (by omega)).mono ?_
  rintro e w1 ⟨v1, rfl, hA1, b1⟩
  have b1' : Below w.heap.size w w1 := bel
  have HA1 := Lib.hid hA1; clear hA1 b1
  have hcell1 : w1.cell? ⟨gn, 0, none⟩ = some (.int .i64 (n0 : Int)) := (b1'.cell lgn).trans hn
  have hfr1 : w1.frozen? ⟨gn, 0, none⟩ = false := (b1'.frozen lgn).trans hf
  go_wp2
  go_loopw [5, 6] (fun u v wr => ∃ (j : Nat) (L : List (List Int)) (o : List Int), j + L.length = g.length ∧ o ++ parA ch L.length (n0 + j) L = R ∧ Grow wr w.heap.size 3 1 u (o.map D.int) ∧ GrowA wr w.heap.size 39 v L bs ∧ (∀ y, u.ownBlock = some y → v.ownBlock ≠ some y) ∧ wr.cell? ⟨gn, 0, none⟩ = some (.int .i64 ((n0 + j : Nat) : Int)) ∧ wr.frozen? ⟨gn, 0, none⟩ = false ∧ Touch [gn] w wr) (fun _ v _ => match v with | .slice _ m _ => m | _ => 0)
  case atStart => exact ⟨0, g, [], by omega, by rw [List.nil_append, HRR.out]; rfl, Grow.nil _ _ _ _, HA1.out, fun y hy => (by cases hy), hcell1, hfr1, Touch.of_below b1'⟩
  case round =>
    clear HA1 hcell1 hfr1 hn hf
    obtain ⟨j, L, o, hjL, ho, hG, hA, hap, hcn, hfn, ht⟩ := hrel
    have HG := Lib.hid hG; clear hG
    have HA := Lib.hid hA; clear hA
    have HO := Lib.hid ho; clear ho
    have HT := Lib.hid ht; clear ht
    have HAP := Lib.hid hap; clear hap
    have hzr := HT.out.size
    have hcc := HT.out.cellT hc (by simpa using d3)
    obtain ⟨Av, cv, hfv, hvc, _⟩ := HA.out.form
    by_cases hL0 : L.length = 0
    case pos =>
      have hLn := List.length_eq_zero_iff.1 hL0
      subst hLn
      have HE := Lib.hid (show Grow wr w.heap.size 3 1 u5 (R.map D.int) by rw [← HO.out]; simpa [parA] using HG.out)
      have hjg : j = g.length := by simpa using hjL
      have HCN := Lib.hid (show wr.cell? ⟨gn, 0, none⟩ = some (.int .i64 ((n0 + g.length : Nat) : Int)) by rw [← hjg]; exact hcn)
      subst hfv
      clear hcn hjg hjL hL0 HG HA
      obtain ⟨A9, c9, bs9, he, h1, _⟩ := HE.out.ints
      have H9 := Lib.hid h1; clear h1
      go_wp2
      go_ret
      rw [he]
      exact ⟨⟨A9, _, c9, bs9, rfl, H9.out⟩, HT.out, HCN.out, hfn⟩
    obtain ⟨k, hck, hk⟩ := choice_lt ch (n0 + j) (m := L.length) (by omega)
    have HST := Lib.hid (parA_step ch (n := n0 + j) hk hck)
    have hlo : o.length + (parA ch L.length (n0 + j) L).length = R.length := by rw [← HO.out, List.length_append]
    have hle : L[k].length ≤ (parA ch L.length (n0 + j) L).length := by rw [HST.out, List.length_append]; omega
    have HLE := Lib.hid (show (L.eraseIdx k).length = L.length - 1 by rw [List.length_eraseIdx, if_pos hk])
    obtain ⟨gb, cb, hvb, hgB, hgL⟩ := HA.out.formS (by omega)
    obtain ⟨A6, c6, bs6, hv6, r6, hb6⟩ := HA.out.rep
    obtain ⟨bt, ot, cst, lst, hAt, hblt, hrt, _, hlst, hct⟩ := r6.sls_at (s := 1) (fun _ => rfl) (k := k) hk
    subst hAt
    obtain ⟨At, ct, hcst⟩ := hrt.ints_form1
    subst hcst
    have kt := (hct 0 _ rfl).1; rw [Nat.add_zero, Nat.mul_one] at kt
    rw [hvb] at hv6
    simp only [Value.slice.injEq, Option.some.injEq, Addr.mk.injEq] at hv6
    obtain ⟨⟨rfl, rfl, _⟩, _, rfl⟩ := hv6
    rw [Nat.zero_add] at kt
    have HRK := Lib.hid hrt
    have HNL := Lib.hid (show gn ∉ lst from fun hm => by
      rcases hb6 gn (hlst gn hm) with h1 | ⟨h1, _⟩
      · exact D1.out h1
      · omega)
    subst hvb
    clear hfv hvc hct hrt hlst r6 hb6
    obtain ⟨M, hM⟩ : ∃ M, M = L.length := ⟨_, rfl⟩
    obtain ⟨x, hx⟩ : ∃ x, x = L[k] := ⟨_, rfl⟩
    obtain ⟨nj, hnj⟩ : ∃ nj, nj = n0 + j := ⟨_, rfl⟩
    have hnjl : nj ≤ 200000 := by omega
    have HX := Lib.hid (show (o ++ L[k]) ++ parA ch (L.eraseIdx k).length (nj + 1) (L.eraseIdx k) = R by rw [hnj, List.append_assoc, ← HST.out]; exact HO.out)
    have HCK := Lib.hid (show choiceF ch nj M = (k : Int) by rw [hnj, hM]; exact hck)
    have HKM := Lib.hid hM
    have HNJ := Lib.hid hnj
    have hM0 : 0 < M := by omega
    have hM1 : M ≤ 120 := by omega
    have hkM : k < M := by omega
    have hxo : o.length + x.length ≤ 120 := by rw [hx]; omega
    rw [← hx] at HRK kt HX
    rw [← hnj] at hcn
    rw [← hM] at HA
    have HCR := Lib.hid (Rep.keep _ HC.out (HT.out.keeps fun y hy => ⟨Rep.lt _ HC.out y hy, fun hm => D2.out (by rw [List.mem_singleton] at hm; rwa [← hm])⟩))
    have hgn : gb ≠ gn := by omega
    have hjL2 : j + M = g.length := by omega
    clear hck hx hnj hM hlo hle hL0 HST hjL hk
    rw [show (Value.slice (some ⟨gb, 0, none⟩) L.length cb) = Value.slice (some ⟨gb, 0, none⟩) M cb by rw [HKM.out]] at *
    go_wp2_with fail
    refine (choice_c HCR.out (by omega) hM0 (by omega)).mono ?_
    rintro e w' ⟨rfl, rfl⟩
    rw [HCK.out]
    have HX5 := Lib.hid (Rep.keep _ HRK.out ((Keeps.refl wr lst).setCell (p := ⟨gn, 0, none⟩) HNL.out (.int .i64 ((nj : Int) + 1))))
    have HG5 := Lib.hid (HG.out.set_low (p := ⟨gn, 0, none⟩) (by simpa using lgn) (.int .i64 ((nj : Int) + 1)))
    obtain ⟨Au, cu, hfu, _, _⟩ := HG.out.form
    rw [List.length_map] at hfu
    subst hfu
    go_wp2_with (
      at_builtin
      (
      refine wpList_append_more (w0 := wr.setCell ⟨gn, 0, none⟩ (.int .i64 ((nj : Int) + 1))) (B := w.heap.size) (xs := o.map D.int) (ys := x.map D.int) rfl (.tmp 20) (.tmp 24) _ rfl _ Tryz.underlying39 Tryz.infoInt rfl (by decide) rfl HG5.out (Below.refl _ _) rfl HX5.out ?hys ?hn ?hf ?hlen ?hba ?_
      case hys => intro y hy; obtain ⟨_, _, rfl⟩ := List.mem_map.1 hy; rfl
      case hn => rw [HX5.out.ints_tail]; simp
      case hf => rw [HX5.out.ints_tail]; simp
      case hlen => simp; omega
      case hba => simp [World.setCell]; omega
      intro v6 w6 hG6 hg6))
    have HG6 := Lib.hid (show Grow w6 w.heap.size 3 1 v6 ((o ++ x).map D.int) by rw [List.map_append]; exact hG6)
    have hnown : ∀ y, (Value.slice Au o.length cu).ownBlock = some y → w.heap.size ≤ y := fun y hy => (HG.out.own_ge y hy).1
    have hgnu : gn ∉ ownL (Value.slice Au o.length cu) := fun hm => by have := hnown gn (mem_ownL.1 hm); omega
    have cn6 : w6.cell? ⟨gn, 0, none⟩ = some (.int .i64 ((nj : Int) + 1)) := (hg6.touch.cell (o := 0) (show gn < (wr.setCell _ _).heap.size by simp [World.setCell]; omega) hgnu).trans (World.cell?_setCell_same _ _ _ hcn)
    have fn6 : w6.frozen? ⟨gn, 0, none⟩ = false := (hg6.touch.frozen (o := 0) (show gn < (wr.setCell _ _).heap.size by simp [World.setCell]; omega) hgnu).trans (by rw [World.frozen?_setCell]; exact hfn)
    have hz6 := hg6.touch.size
    have hz6b : wr.heap.size ≤ w6.heap.size := by simpa [World.setCell] using hz6
    have hheap : ∀ y, y < wr.heap.size → y ≠ gn → y ∉ ownL (Value.slice Au o.length cu) → w6.heap[y]? = wr.heap[y]? := fun y hy h1 h2 => (hg6.touch.block y (by simpa [World.setCell] using hy) h2).trans (Below.heap_setCell _ _ _ _ h1)
    have HA6 := Lib.hid (HA.out.keep hz6b (fun y hy => by
      have e : gb = y := by simpa [Value.ownBlock] using hy
      subst e
      exact hheap gb hgL hgn fun hm => HAP.out gb (mem_ownL.1 hm) rfl) (fun y hy hl => hheap y hl (HBS.out y hy) fun hm => by have h1 := hnown y (mem_ownL.1 hm); have h2 := HBL.out y hy; omega))
    have AP6 := Lib.hid (show v6.ownBlock ≠ some gb from fun e => by
      rcases hg6.own gb e with h1 | h1
      · exact HAP.out gb h1 rfl
      · have : wr.heap.size ≤ gb := by simpa [World.setCell] using h1
        omega)
    have T6 : Touch [gn] w w6 := (HT.out.setCell (by simp) _).own_ hg6.touch (fun y hy => hnown y (mem_ownL.1 hy))
    have HT6 := Lib.hid T6
    have hSB := Lib.hid (show ∀ y ∈ bs, y ≠ gb from fun y hy e => by have := HBL.out y hy; omega)
    have hkL := Lib.hid (show k < L.length by rw [← HKM.out]; exact hkM)
    have hLl := Lib.hid (show L.length ≤ 1000000 by rw [← HKM.out]; omega)
    clear hG6 hg6 hheap hz6 hgnu hnown T6 hcn hfn
    go_wp2_with fail
    refine (DeleteA_m hM0 HA6.out hkL.out hLl.out hSB.out).mono ?_
    rintro e w7 ⟨rfl, hA7, t7⟩
    have HA7 := Lib.hid hA7
    have HG7 := Lib.hid (HG6.out.tch t7 AP6.out)
    have cn7 : w7.cell? ⟨gn, 0, none⟩ = some (.int .i64 ((n0 + (j + 1) : Nat) : Int)) := by
      have h1 := t7.cellT cn6 (by simpa using Ne.symm hgn)
      rw [h1, HNJ.out]
      congr 2
    have fn7 : w7.frozen? ⟨gn, 0, none⟩ = false := (t7.frozen (o := 0) (show gn < w6.heap.size from lt_of_cell cn6) (by simpa using Ne.symm hgn)).trans fn6
    have T7 := Lib.hid (HT6.out.own_ t7 (by simpa using hgB))
    have CN7 := Lib.hid cn7
    have HXF := Lib.hid (show (o ++ x) ++ parA ch (L.eraseIdx k).length (n0 + (j + 1)) (L.eraseIdx k) = R by
      have h1 := HX.out
      rw [HNJ.out, Nat.add_assoc] at h1
      exact h1)
    have AP7 := Lib.hid (show ∀ y, v6.ownBlock = some y → (Value.slice (some ⟨gb, 0, none⟩) (M - 1) cb).ownBlock ≠ some y from fun y hy e => by
      have e2 : gb = y := by simpa [Value.ownBlock] using e
      rw [← e2] at hy
      exact AP6.out hy)
    clear hA7 t7 cn7 cn6 fn6
    go_wp2
    go_roundw
    case rel => exact ⟨j + 1, L.eraseIdx k, o ++ x, by rw [HLE.out, ← HKM.out]; omega, HXF.out, HG7.out, HA7.out, AP7.out, CN7.out, fn7, T7.out⟩
    case measure => simp; omega
theorem toI3_flatlen {G : List (List (List Nat))} (h : GrpsOk G) : cntG (toI3 G) G.length ≤ 120 ∧ (∀ j, cntG (toI3 G) j ≤ 120) ∧ ∀ j (hj : j < (toI3 G).length), (toI3 G)[j].flatten.length ≤ 120 := by
  have key : ∀ j, cntG (toI3 G) j ≤ 120 := fun j => by
    have h1 : (toI3 G).flatten.length = G.flatten.length := by
      unfold toI3
      rw [List.length_flatten, List.length_flatten, List.map_map]
      congr 1
      refine List.map_congr_left fun g _ => ?_
      simp
    have h2 := cntG_flat (α := Int) (toI3 G) j
    have h3 := h.len.1
    omega
  refine ⟨key _, key, fun j hj => ?_⟩
  have hj2 : j < G.length := by rwa [toI3_len] at hj
  have e : (toI3 G)[j] = G[j].map toI := by simp [toI3]
  rw [e, mapI_flat]
  exact (h.grp (List.getElem_mem hj2)).1
set_option maxRecDepth 100000 in
set_option maxHeartbeats 2000000 in
theorem implParallelOrder_c {w : World} {p : Pgm} {ch : List Int} {cs : List Value} {bs bs' : List Nat} {k m : Int} {A' : Option Addr} {n' c' : Nat} (h : Rep w p.d cs bs) (h' : Rep w (ints ch) [.slice A' n' c'] bs') :
    Calls Tryz.prog 21 #[.agg cs.toArray, .int .i64 k, .int .i64 m, .slice A' n' c'] w (MadeIB w (ParallelOrderF p k m ch)) := by
  have HP := Lib.hid h
  have HC := Lib.hid h'
  have HBL := Lib.hid (Rep.lt _ h'); clear h'
  obtain ⟨A1, c1, A2, c2, d1, d2, rfl, rfl, g1, g2⟩ := Rep.pgm_iff.1 h
  have Garrays := Lib.hid g1
  have Gparts := Lib.hid g2
  clear h g1 g2
  go_enter Tryz.func21, Tryz.ntmps21
  go_wp2_with fail
  refine (around_c (I := fun j W => W.cell? ⟨w.heap.size + 2, 0, none⟩ = some (.int .i64 ((cntG (toI3 (grpsF (instsF p) k.toNat m.toNat)) j : Nat) : Int)) ∧ W.frozen? ⟨w.heap.size + 2, 0, none⟩ = false ∧ W.cell? ⟨w.heap.size + 1, 0, none⟩ = some (.slice A' n' c') ∧ Rep W (ints ch) [.slice A' n' c'] bs')
    (N := [w.heap.size + 2]) (cap := #[.pointer (some ⟨w.heap.size + 1, 0, none⟩), .pointer (some ⟨w.heap.size + 2, 0, none⟩)])
    (F := fun j => parA ch ((toI3 (grpsF (instsF p) k.toNat m.toNat)).getD j []).length (cntG (toI3 (grpsF (instsF p) k.toNat m.toNat)) j) ((toI3 (grpsF (instsF p) k.toNat m.toNat)).getD j []))
    (HP.out.below bel) par1_e ⟨by go_simp; rfl, by go_simp, by go_simp, HC.out.below bel⟩ (fun j W W' hI hz1 hz2 hs => ?_) (by simp) (fun hv hl => ?_) (fun j hv hl hj => ?_)).mono ?_
  · obtain ⟨i1, i2, i3, i4⟩ := hI
    have hs1 := hs (w.heap.size + 2) (by simp)
    have hs2 := hs (w.heap.size + 1) (by simp)
    exact ⟨(World.cell?_of_block hs1).trans i1, (World.frozen?_of_block hs1).trans i2, (World.cell?_of_block hs2).trans i3, Rep.keep _ i4 ⟨hz2, fun y hy => hs y (by have := HBL.out y hy; simp; omega)⟩⟩
  · obtain ⟨q, r, hq, rfl, rfl, hr⟩ := loop_there hl
    rw [Int.toNat_natCast, Int.toNat_natCast]
    have hok := toI3_ok (grpsF_ok hv hq r)
    have hfl := toI3_flatlen (grpsF_ok hv hq r)
    intro j hj W A c bs hB hI hrg hbs
    obtain ⟨i1, i2, i3, i4⟩ := hI
    have eg : (toI3 (grpsF (instsF p) q r)).getD j [] = (toI3 (grpsF (instsF p) q r))[j] := by rw [List.getD_eq_getElem?_getD, List.getElem?_eq_getElem hj]; rfl
    have hB2 : w.heap.size + 3 ≤ W.heap.size := by simpa using hB
    refine (par1_c (gc := w.heap.size + 1) (gn := w.heap.size + 2) hrg (hok.2 j hj).1 (hfl.2.2 j hj) (Nat.le_trans (hfl.2.1 j) (by omega)) i4 i3 i1 i2 (fun hm => by have := hbs _ hm; simp at this; omega) (fun hm => by have := HBL.out _ hm; omega) (by omega)).mono ?_
    rintro e w' ⟨⟨A2', n2', c2', bs2', rfl, r1⟩, t1, k1, k2⟩
    refine ⟨⟨A2', n2', c2', bs2', rfl, ?_⟩, t1, ?_, k2, t1.cellT i3 (by simp), Rep.keep _ i4 (t1.keeps fun y hy => ⟨Rep.lt _ i4 y hy, fun hm => by have := HBL.out y hy; simp at hm; omega⟩)⟩
    · show Rep w' (ints (parA ch ((toI3 (grpsF (instsF p) q r)).getD j []).length _ ((toI3 (grpsF (instsF p) q r)).getD j []))) _ _
      rw [eg]; exact r1
    · rw [k1, cntG_succ hj]
  · exact Nat.le_trans (par_flat ch hv hl j hj) (by omega)
  · rw [par_ord]
    rintro e w1 ⟨⟨A1', n1', c1', bs1', rfl, h1, h2, h3⟩, h4⟩
    have b1 : Below w.heap.size w w1 := Below.trans (show Below w.heap.size w _ from bel) (h4.below (by simp; omega) (by simp))
    have R1 := Lib.hid h1; clear h1
    go_wp2
    go_ret2
    exact ⟨A1', n1', c1', bs1', rfl, R1.out, h2, fun y hy => by have := h3 y hy; simp at this; omega, b1⟩
end Go.Proofs.YtgogjbnneoadkaaGreat
