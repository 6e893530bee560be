/- Texts of this seat, joined: SubA, SubE, SubT, SubU. -/
import Derived.Test.YtadmmlflngkpiaaMaps1
import Derived.Test.YtadmmlflngkpiaaAdd1
import Derived.Deep.CutBlock
import Derived.Test.YtadmmlflngkpiaaProg1
/- A variable replaced in an access: l3SubstAccess of the reference. -/
set_option linter.all false
set_option linter.unusedSimpArgs false
set_option linter.unusedVariables false
namespace Go.Proofs.Ytadmmlflngkpiaa
open Go.ChangeShapes Go.WideShapes Go.ChangeAt Go.RowKit Go.Deep

theorem Touch.cellT {w w' : World} {bs : List Nat} {g o : Nat} {v : Value} (t : Touch bs w w') (h : w.cell? ⟨g, o, none⟩ = some v) (hn : g ∉ bs) : w'.cell? ⟨g, o, none⟩ = some v := (t.cell (lt_of_cell h) hn).trans h
set_option maxRecDepth 100000 in
set_option maxHeartbeats 8000000 in
theorem l3SubstAccess_c {w : World} {x : Acc} {a : Aff} {v : Int} {cs : List Value} {bs ba : List Nat} {Aa : Option Addr} {na ca : Nat} (h : Rep w x.d cs bs) (hl : x.subs.length ≤ 1000000) (ha : Rep w a.d [.slice Aa na ca, .int .i64 a.const] ba) (hok : affOk a = true) (h0 : 0 ≤ v) (h4 : v < 4) (hs : ∀ t ∈ x.subs, affOk t = true) :
    Calls Try.prog 86 #[.agg cs.toArray, .int .i64 v, .agg #[.slice Aa na ca, .int .i64 a.const]] w (MadeAcc w (mapAcc (fun t => substF t v.toNat a) x)) := by
  obtain ⟨F, hF⟩ : ∃ F : Aff → Aff, F = fun t => substF t v.toNat a := ⟨_, rfl⟩
  rw [← hF]
  have HF := Lib.hid hF; clear hF
  obtain ⟨A2, c2, d2, rfl, rfl, g1, g2⟩ := Rep.acc_iff.1 h
  have Garr := Lib.hid g1
  have Gsubs := Lib.hid g2
  clear h g1 g2
  have hn : x.subs.length ≤ 9223372036854775807 := by omega
  have HS := Lib.hid hs; clear hs
  have HAA := Lib.hid ha; clear ha
  have HOK := Lib.hid hok; clear hok
  have HV := Lib.hid (And.intro h0 h4); clear h0 h4
  have HLOW := Lib.hid (show ∀ b o q, A2 = some ⟨b, o, q⟩ → 0 < x.subs.length → b < w.heap.size from fun b o q e hlt => by
    obtain ⟨be, oe, _, _, h, hbl, _⟩ := Gsubs.out.sls_at Aff.d_size (k := 0) hlt
    rw [e] at h
    simp only [Option.some.injEq, Addr.mk.injEq] at h
    omega)
  go_enter Try.func86, Try.ntmps86
  go_wp2
  go_loopw [8] (fun i wr => ∃ (j : Nat) (u : Value), j ≤ x.subs.length ∧ i = .int .i64 j ∧ BoxW wr (w.heap.size + 3) (.string x.arr) u ∧ Grow wr (w.heap.size + 4) 47 2 u ((x.subs.take j).map fun t => (F t).d) ∧ BoxW wr (w.heap.size + 2) (.string ⟨#[]⟩) (.slice none 0 0) ∧ Box2 wr w.heap.size (.string x.arr) (.slice A2 x.subs.length c2) ∧ Box2 wr (w.heap.size + 1) (.slice Aa na ca) (.int .i64 a.const) ∧ w.heap.size + 4 ≤ wr.heap.size ∧ Below w.heap.size w wr) (fun i _ => x.subs.length - (intOf i).toNat)
  case atStart => exact ⟨0, .slice none 0 0, Nat.zero_le _, rfl, ⟨⟨by go_simp, by go_simp⟩, by go_simp, by go_simp⟩, by simpa using Grow.nil _ _ _ _, ⟨⟨by go_simp, by go_simp⟩, by go_simp, by go_simp⟩, ⟨by go_simp, by go_simp⟩, ⟨by go_simp, by go_simp⟩, by simp, bel⟩
  case round =>
    obtain ⟨j, u, hj, rfl, ⟨⟨k2a, k2b⟩, f2a, f2b⟩, hG, hR, hP, hQ, hz, hb⟩ := hrel
    have HR := Lib.hid hR; clear hR
    obtain ⟨Au, cu, hfu, _, _⟩ := hG.form
    rw [List.length_map, List.length_take] at hfu
    have HG := Lib.hid hG; clear hG
    by_cases hlt : j < x.subs.length
    · have HT := Lib.hid (show ((x.subs.take (j + 1)).map fun t => (F t).d) = ((x.subs.take j).map fun t => (F t).d) ++ [(F x.subs[j]).d] by rw [List.take_succ_eq_append_getElem hlt, List.map_append]; rfl)
      have HSJ := Lib.hid (HS.out _ (List.getElem_mem hlt))
      obtain ⟨be, oe, cse, le, rfl, hble, hre, _, _, hce⟩ := (Gsubs.out.below hb).sls_at Aff.d_size (k := j) hlt
      have Ge := Lib.hid hre
      obtain ⟨A1e, c1e, d1e, rfl, rfl, g1e, g2e⟩ := Rep.aff_iff2.1 hre
      have k0e := (hce 0 _ rfl).1; rw [Nat.add_zero] at k0e
      have k1e := (hce 1 _ rfl).1
      have Q1e := Lib.hid g1e
      have Q2e := Lib.hid g2e
      clear hce hre g1e g2e
      have hbe := HLOW.out _ _ _ rfl (by omega)
      have lt2 := lt_of_cell k2a
      have hmin : min j x.subs.length = j := by omega
      rw [hmin] at hfu
      subst hfu
      have HOW := Lib.hid HG.out.own_ge
      obtain ⟨t, ht⟩ : ∃ t, t = x.subs[j] := ⟨_, rfl⟩
      rw [← ht] at k0e k1e Ge HT HSJ
      have HP := Lib.hid hP
      have HQ := Lib.hid hQ
      obtain ⟨p0, p1⟩ := hP
      obtain ⟨q0, q1⟩ := hQ
      have lp := lt_of_cell p0
      have lq := lt_of_cell q0
      clear hmin ht
      go_wp2_with fail
      refine wp_region_noPanic ?_
      refine wp_regionT (S := fun w' => Box2 w' (w.heap.size + 3) (.string x.arr) (.slice Au j cu) ∧ Box2 w' w.heap.size (.string x.arr) (.slice (some ⟨be, oe, none⟩) x.subs.length c2) ∧ Box2 w' (w.heap.size + 1) (.slice Aa na ca) (.int .i64 a.const) ∧ (w'.cell? ⟨be, oe + j * 2, none⟩ = some (.slice A1e t.coefs.length c1e) ∧ w'.cell? ⟨be, oe + j * 2 + 1, none⟩ = some (.int .i64 t.const))) 13 (by kernel_rfl) (⟨⟨by go_simp, by go_simp⟩, ⟨by go_simp, by go_simp⟩, ⟨by go_simp, by go_simp⟩, by go_simp, by go_simp⟩) (fun hHeld => ?_)
      refine goU 0 (fun _ => hHeld) ?_
      refine goT 1 hHeld ?_
      refine goU 2 (fun _ => hHeld) ?_
      refine goT 3 hHeld ?_
      refine goU 4 (fun _ => hHeld) ?_
      refine goU 5 (fun _ => hHeld) ?_
      refine goT 6 hHeld ?_
      refine goU 7 (fun _ => hHeld) ?_
      refine goT 8 hHeld ?_
      refine readyT (rs := [9]) (by kernel_rfl) (by simp) (all1 ?_)
      refine opT (i := 9) rfl (wanted_none rfl) (fun K hK => ?_)
      go_simp
      (refine (l1Subst_c (Ge.out.below bel) (HAA.out.below (below_tr hb bel)) HSJ.out HOK.out HV.out.1 HV.out.2).mono ?_; rw [show substF t v.toNat a = F t from (congrFun HF.out t).symm]; rintro e w1 ⟨A1, n1, c1, k1, bs1, rfl, r1, nd1, hb1, b1⟩; have B1 : Below wr.heap.size wr w1 := bel; have O1 := Lib.hid (one_newN (N := w1.heap.size) r1 47 rfl); have N1 := Lib.hid (And.intro nd1 (show ∀ y ∈ bs1, wr.heap.size ≤ y from fun y hy => by have := hb1 y hy; simp at this; omega)); clear r1 nd1 hb1)
      go_wp2_with fail
      refine hK.out _ _ (⟨hHeld.1.to b1, hHeld.2.1.to b1, hHeld.2.2.1.to b1, cell_toC hHeld.2.2.2.1 b1, cell_toC hHeld.2.2.2.2 b1⟩) (fun hHeld => ?_)
      clear hK K
      try simp only [Act.put, List.setIfInBounds_toArray, List.set_cons_zero, List.set_cons_succ]
      refine readyT (rs := [10]) (by kernel_rfl) (by simp) (all1 ?_)
      refine opT (i := 10) rfl (wanted_none rfl) (fun K hK => ?_)
      (unfold Oper.wp; go_simp)
      refine hK.out _ _ (⟨hHeld.1.to ((Below.refl _ _).alloc (Nat.le_refl _) _), hHeld.2.1.to ((Below.refl _ _).alloc (Nat.le_refl _) _), hHeld.2.2.1.to ((Below.refl _ _).alloc (Nat.le_refl _) _), cell_alM hHeld.2.2.2.1, cell_alM hHeld.2.2.2.2⟩) (fun hHeld => ?_)
      clear hK K
      try simp only [Act.put, List.setIfInBounds_toArray, List.set_cons_zero, List.set_cons_succ]
      refine readyT (rs := [11]) (by kernel_rfl) (by simp) (all1 ?_)
      refine opT (i := 11) rfl (wanted_none rfl) (fun K hK => ?_)
      (refine wp_append_more (w0 := wr) (B := w.heap.size + 4) (xs := (x.subs.take j).map fun t => (F t).d) (ys := [(F t).d]) (.tmp 20) (.tmp 29) _ rfl _ Try.underlying44 Try.infoAff rfl (by decide) rfl HG.out ?hbw rfl O1.out ?hys ?hn ?hf ?hlen hz ?_; (case hbw => exact bel); (case hys => (intro y hy; simp only [List.mem_singleton] at hy; rw [hy]; rfl)); (case hn => exact N1.out.1); (case hf => exact N1.out.2); (case hlen => (simp; omega)); intro v2 w4 hG4 hg4; have B4 : Below (w.heap.size + 4) wr w4 := ((B1.alloc B1.size _).mono hz).trans (hg4.below (Nat.le_trans hz (Nat.le_trans B1.size (by simp))) (fun b hb => (HOW.out b hb).1)); have X2 : BoxW w4 (w.heap.size + 3) (.string x.arr) (.slice Au j cu) := BoxW.toB ⟨⟨k2a, k2b⟩, f2a, f2b⟩ (by omega) B4; have XR := Lib.hid (BoxW.toB HR.out (by omega) B4); have XP := Lib.hid (Box2.toB HP.out (by omega) B4); have XQ := Lib.hid (Box2.toB HQ.out (by omega) B4); have XZ := B4.size; obtain ⟨⟨k2d, k2e⟩, f2d, f2e⟩ := X2; obtain ⟨A4, c4, hf4, _, _⟩ := hG4.form; simp only [List.length_append, List.length_map, List.length_take, List.length_singleton] at hf4; rw [show min j x.subs.length + 1 = j + 1 by omega] at hf4; subst hf4; rw [← HT.out] at hG4; have HG4 := Lib.hid hG4; have HB4 := Lib.hid (hb.trans (B4.mono (by omega))))
      refine hK.out _ _ (⟨hg4.touch.box2 hHeld.1 (fun hm => by have := (HOW.out _ (mem_ownL.1 hm)).1; omega), hg4.touch.box2 hHeld.2.1 (fun hm => by have := (HOW.out _ (mem_ownL.1 hm)).1; omega), hg4.touch.box2 hHeld.2.2.1 (fun hm => by have := (HOW.out _ (mem_ownL.1 hm)).1; omega), hg4.touch.cellT hHeld.2.2.2.1 (fun hm => by have := (HOW.out _ (mem_ownL.1 hm)).1; omega), hg4.touch.cellT hHeld.2.2.2.2 (fun hm => by have := (HOW.out _ (mem_ownL.1 hm)).1; omega)⟩) (fun hHeld => ?_)
      clear hK K
      try simp only [Act.put, List.setIfInBounds_toArray, List.set_cons_zero, List.set_cons_succ]
      refine goU 12 (fun _ => hHeld) ?_
      refine readyT (rs := [13]) (by kernel_rfl) (by simp) (all1 ?_)
      refine opTT (i := 13) rfl (wanted_none rfl) (by kernel_rfl) (fun K hK => ?_)
      (unfold Oper.wp; go_simp)
      refine hK.out _ _ ?_
      clear hK K
      try simp only [Act.put, List.setIfInBounds_toArray, List.set_cons_zero, List.set_cons_succ]
      refine wpAnyT_done (by kernel_rfl) ?_ _
      refine NoPanic.normal ?_
      (go_wp2; go_roundw; (case rel => exact ⟨j + 1, _, by omega, by go_num, ⟨⟨by go_simp, by go_simp⟩, by go_simp, by go_simp⟩, HG4.out.set_low (p := ⟨w.heap.size + 3, 1, none⟩) (by simp) _, ⟨Box2.set XR.out.1 (by first | (simp; done) | (simp; omega)) _, by rw [World.frozen?_setCell]; exact XR.out.2.1, by rw [World.frozen?_setCell]; exact XR.out.2.2⟩, Box2.set XP.out (by first | (simp; done) | (simp; omega)) _, Box2.set XQ.out (by first | (simp; done) | (simp; omega)) _, by (simp [World.setCell]; omega), HB4.out.setCell (by (simp; omega)) _⟩); (case measure => (simp [intOf]; omega)))
    · have hjj : j = x.subs.length := by omega
      subst hjj
      have hmin : min x.subs.length x.subs.length = x.subs.length := by omega
      rw [hmin] at hfu
      subst hfu
      have hG := HG.out
      obtain ⟨A5, c5, bs5, he5, r5, nd5, hb5⟩ := hG.rep
      rw [List.length_map, List.length_take, Nat.min_self] at he5 r5
      simp only [Value.slice.injEq, true_and] at he5
      obtain ⟨rfl, rfl⟩ := he5
      rw [List.take_length] at r5
      have H5 := Lib.hid (And.intro r5 (And.intro nd5 hb5))
      clear hG r5 nd5 hb5
      obtain ⟨⟨m1, m2⟩, m3, m4⟩ := HR.out
      have lt1 := lt_of_cell m1
      have lt2 := lt_of_cell k2a
      obtain ⟨p0, p1⟩ := hP
      have lp := lt_of_cell p0
      go_wp2
      have hnb : w.heap.size + 2 ∉ bs5 := fun hm => by have := H5.out.2.2 _ hm; omega
      have hll : (x.subs.map F).length = x.subs.length := List.length_map _
      refine bodyPost_ret (v := .agg #[.string x.arr, .slice Au x.subs.length cu]) (by simp [results, Try.results86, go_sem, m1, m2]) rfl ⟨Au, cu, bs5, ?_, Rep.acc_iff.2 ⟨_, _, _, rfl, rfl, Garr.out, ?_⟩, H5.out.2.1, fun y hy => by have := H5.out.2.2 y hy; omega, (hb.setCell (by first | (simp; done) | (simp; omega)) _).setCell (by first | (simp; done) | (simp; omega)) _⟩
      · show _ = Ending.returned (.agg #[.string x.arr, .slice Au (x.subs.map F).length cu])
        rw [hll]
      · show Rep _ (sls Aff.d (x.subs.map F)) [.slice Au (x.subs.map F).length cu] bs5
        rw [hll]
        refine Rep.keep _ (w := wr) ?_ (((Keeps.refl _ _).setCell hnb _).setCell hnb _)
        have := H5.out.1
        unfold sls
        rw [List.map_map]
        exact this
end Go.Proofs.Ytadmmlflngkpiaa

/- A variable replaced in an expression: l3SubstExpr of the reference. -/
namespace Go.Proofs.Ytadmmlflngkpiaa
open Go.ChangeShapes Go.WideShapes Go.ChangeAt Go.RowKit Go.Deep

theorem four_rows (w : World) (l1 l2 l3 l4 : List Value) (t s : TypeId) {W : World} (hW : W = (((w.alloc (.cells l1.toArray t)).alloc (.cells l2.toArray s)).alloc (.cells l3.toArray t)).alloc (.cells l4.toArray t)) :
    Row W w.heap.size t l1 ∧ Row W (w.heap.size + 1) s l2 ∧ Row W (w.heap.size + 2) t l3 ∧ Row W (w.heap.size + 3) t l4 ∧ Below w.heap.size w W ∧ W.heap.size = w.heap.size + 4 := by
  subst hW
  have al : ∀ (v : World) (o : Obj), Below v.heap.size v (v.alloc o) := fun v o => (Below.refl _ _).alloc (Nat.le_refl _) _
  refine ⟨(((Row.new w l1 t).to (al _ _)).to (al _ _)).to (al _ _), ?_, ?_, ?_, below_tr (below_tr (below_tr (al _ _) (al _ _)) (al _ _)) (al _ _), by rw [size_al, size_al, size_al, size_al]⟩
  · have h := ((Row.new (w.alloc (.cells l1.toArray t)) l2 s).to (al _ (.cells l3.toArray t))).to (al _ (.cells l4.toArray t))
    rwa [size_al] at h
  · have h := (Row.new ((w.alloc (.cells l1.toArray t)).alloc (.cells l2.toArray s)) l3 t).to (al _ (.cells l4.toArray t))
    rwa [size_al, size_al] at h
  · have h := Row.new (((w.alloc (.cells l1.toArray t)).alloc (.cells l2.toArray s)).alloc (.cells l3.toArray t)) l4 t
    rwa [size_al, size_al, size_al] at h
theorem Row.box2 {w : World} {g : Nat} {t : TypeId} {a0 a1 : Value} (h : Row w g t [a0, a1]) : Box2 w g a0 a1 := ⟨h.cell 0, h.cell 1⟩
theorem two_newA {W N : Nat} {b1 b2 : List Nat} (n1 : b1.Nodup) (n2 : b2.Nodup) (h1 : ∀ y ∈ b1, W ≤ y) (l1 : ∀ y ∈ b1, y < N) (h2 : ∀ y ∈ b2, N ≤ y) (hN : W ≤ N) : (b1 ++ b2).Nodup ∧ ∀ y ∈ b1 ++ b2, W ≤ y := by
  refine ⟨List.nodup_append.2 ⟨n1, n2, fun a ha b hb e => by have := l1 a ha; have := h2 b hb; omega⟩, fun y hy => ?_⟩
  rcases List.mem_append.1 hy with hy | hy
  · exact h1 y hy
  · have := h2 y hy; omega
section
variable {w w' : World} {g1 o1 g2 g3 be q : Nat} {u0 x0 x1 x2 x3 x4 x5 x6 a0 a1 y0 y1 y2 y3 y4 y5 y6 : Value}
/-- the cells that the round reads -/
def Held (w : World) (g1 o1 g2 g3 be q : Nat) (u0 x0 x1 x2 x3 x4 x5 x6 a0 a1 y0 y1 y2 y3 y4 y5 y6 : Value) : Prop :=
  w.cell? ⟨g1, o1, none⟩ = some u0 ∧ Box7 w g2 x0 x1 x2 x3 x4 x5 x6 ∧ Box2 w g3 a0 a1 ∧ w.cell? ⟨be, q, none⟩ = some y0 ∧ w.cell? ⟨be, q + 1, none⟩ = some y1 ∧ w.cell? ⟨be, q + 2, none⟩ = some y2 ∧ w.cell? ⟨be, q + 3, none⟩ = some y3 ∧ w.cell? ⟨be, q + 4, none⟩ = some y4 ∧ w.cell? ⟨be, q + 5, none⟩ = some y5 ∧ w.cell? ⟨be, q + 6, none⟩ = some y6
theorem cells_to (h : Held w g1 o1 g2 g3 be q u0 x0 x1 x2 x3 x4 x5 x6 a0 a1 y0 y1 y2 y3 y4 y5 y6) (b : Below w.heap.size w w') : Held w' g1 o1 g2 g3 be q u0 x0 x1 x2 x3 x4 x5 x6 a0 a1 y0 y1 y2 y3 y4 y5 y6 := by
  obtain ⟨h1, h2, h3, h4, h5, h6, h7, h8, h9, h10⟩ := h
  exact ⟨cell_toC h1 b, h2.to b, h3.to b, cell_toC h4 b, cell_toC h5 b, cell_toC h6 b, cell_toC h7 b, cell_toC h8 b, cell_toC h9 b, cell_toC h10 b⟩
theorem cells_tT {bs : List Nat} (h : Held w g1 o1 g2 g3 be q u0 x0 x1 x2 x3 x4 x5 x6 a0 a1 y0 y1 y2 y3 y4 y5 y6) (t : Touch bs w w') (n1 : g1 ∉ bs) (n2 : g2 ∉ bs) (n3 : g3 ∉ bs) (n4 : be ∉ bs) : Held w' g1 o1 g2 g3 be q u0 x0 x1 x2 x3 x4 x5 x6 a0 a1 y0 y1 y2 y3 y4 y5 y6 := by
  obtain ⟨h1, h2, h3, h4, h5, h6, h7, h8, h9, h10⟩ := h
  exact ⟨t.cellT h1 n1, h2.touch t n2, t.box2 h3 n3, t.cellT h4 n4, t.cellT h5 n4, t.cellT h6 n4, t.cellT h7 n4, t.cellT h8 n4, t.cellT h9 n4, t.cellT h10 n4⟩
end
def SubX (a : Aff) (v : Int) (F : Aff → Aff) (x : Ex) : Prop := ∀ (w : World) (cs : List Value) (bs ba : List Nat) (Aa : Option Addr) (na ca : Nat), Rep w x.d cs bs → Rep w a.d [.slice Aa na ca, .int .i64 a.const] ba → exAll affOk x = true →
    Calls Try.prog 87 #[.agg cs.toArray, .int .i64 v, .agg #[.slice Aa na ca, .int .i64 a.const]] w (MadeEx w (mapEx F x))
set_option maxRecDepth 100000 in
set_option maxHeartbeats 16000000 in
theorem l3SubstExpr_r {a : Aff} {v : Int} {F : Aff → Aff} (hF : F = fun t => substF t v.toNat a) (hok : affOk a = true) (h0 : 0 ≤ v) (h4 : v < 4) {x : Ex} (hrec : ∀ y ∈ x.kids, SubX a v F y) : SubX a v F x := by
  intro w cs bs ba Aa na ca h haa ha
  have HREC := Lib.hid hrec; clear hrec
  have HAA := Lib.hid haa; clear haa
  have HF := Lib.hid hF; clear hF
  have HV := Lib.hid (And.intro hok (And.intro h0 h4)); clear hok h0 h4
  have hp := exAll_parts ha
  have hkl := hp.2.2.1
  have HPA := Lib.hid hp; clear hp ha
  have HEQ := Lib.hid (mapEx_eq F x)
  obtain ⟨A3, c3, A6, c6, A7, c7, d3, d6, d7, rfl, rfl, g1, g2, g3, g4, g5, g6, g7⟩ := Rep.ex_iff.1 h
  have Gkind := Lib.hid g1
  have Gnum := Lib.hid g2
  have Gindex := Lib.hid ((Rep.aff_iff2 (x := x.index)).2 ⟨_, _, _, rfl, rfl, g3, g4⟩)
  have Gread := Lib.hid ((Rep.acc_iff (x := x.read)).2 ⟨_, _, _, rfl, rfl, g5, g6⟩)
  have Gkids := Lib.hid g7
  clear h g1 g2 g3 g4 g5 g6 g7
  have hn : x.kids.length ≤ 9223372036854775807 := by omega
  have HLOW := Lib.hid (show ∀ b o q, A7 = some ⟨b, o, q⟩ → 0 < x.kids.length → b < w.heap.size from fun b o q e hlt => by
    obtain ⟨be, oe, _, _, h, hbl, _⟩ := Gkids.out.sls_at Ex.d_size (k := 0) hlt
    rw [e] at h
    simp only [Option.some.injEq, Addr.mk.injEq] at h
    omega)
  obtain ⟨W, hW⟩ : ∃ W, W = (((w.alloc (.cells #[.int .i64 x.kind, .int .i64 x.num, .slice A3 x.index.coefs.length c3, .int .i64 x.index.const, .string x.read.arr, .slice A6 x.read.subs.length c6, .slice A7 x.kids.length c7] 50)).alloc (.cells #[.slice Aa na ca, .int .i64 a.const] 47)).alloc (.cells #[.int .i64 0, .int .i64 0, .slice none 0 0, .int .i64 0, .string ⟨#[]⟩, .slice none 0 0, .slice none 0 0] 50)).alloc (.cells #[.int .i64 x.kind, .int .i64 x.num, .slice none 0 0, .int .i64 0, .string ⟨#[]⟩, .slice none 0 0, .slice none 0 0] 50) := ⟨_, rfl⟩
  obtain ⟨rp0, rq0, Z0, O0, B0, hWz⟩ := four_rows w _ _ _ _ _ _ hW
  have P0 : Box7 W w.heap.size (.int .i64 x.kind) (.int .i64 x.num) (.slice A3 x.index.coefs.length c3) (.int .i64 x.index.const) (.string x.read.arr) (.slice A6 x.read.subs.length c6) (.slice A7 x.kids.length c7) := rp0.box7
  have Q0 : Box2 W (w.heap.size + 1) (.slice Aa na ca) (.int .i64 a.const) := rq0.box2
  clear rp0 rq0
  have HW := Lib.hid hW; clear hW
  have HWZ := Lib.hid hWz
  have hWz2 : w.heap.size + 4 ≤ W.heap.size := by omega
  clear hWz
  have HZ0 := Lib.hid Z0; clear Z0
  have HKK := Lib.hid (And.intro Gkind.out Gnum.out)
  go_enter Try.func87, Try.ntmps87
  go_upto_if 16 with (fail)
  rw [← HW.out]
  go_cut [] (fun wc => ∃ (AI : Option Addr) (nI cI : Nat) (kI : Int) (dI : List Nat), Row wc (w.heap.size + 3) 50 [.int .i64 x.kind, .int .i64 x.num, .slice AI nI cI, .int .i64 kI, .string ⟨#[]⟩, .slice none 0 0, .slice none 0 0] ∧ Row wc (w.heap.size + 2) 50 [.int .i64 0, .int .i64 0, .slice none 0 0, .int .i64 0, .string ⟨#[]⟩, .slice none 0 0, .slice none 0 0] ∧ Rep wc (mapEx F x).index.d [.slice AI nI cI, .int .i64 kI] dI ∧ dI.Nodup ∧ (∀ y ∈ dI, w.heap.size + 4 ≤ y) ∧ Box7 wc w.heap.size (.int .i64 x.kind) (.int .i64 x.num) (.slice A3 x.index.coefs.length c3) (.int .i64 x.index.const) (.string x.read.arr) (.slice A6 x.read.subs.length c6) (.slice A7 x.kids.length c7) ∧ Box2 wc (w.heap.size + 1) (.slice Aa na ca) (.int .i64 a.const) ∧ w.heap.size + 4 ≤ wc.heap.size ∧ Below w.heap.size w wc)
  case first =>
    have OB := O0.box7
    have lo := lt_of_cell OB.1
    have lp := lt_of_cell P0.1
    have lq := lt_of_cell Q0.1
    have HO0 := Lib.hid O0; clear O0
    by_cases h2 : x.kind = 2
    case pos =>
      have q1 : (x.kind == 2) = true := ieq_t h2
      have HI := Lib.hid (HPA.out.1 h2)
      have HX := Lib.hid (show (mapEx F x).index = F x.index by rw [HEQ.out, if_pos h2])
      clear h2
      go_wp2_with fail
      refine (l1Subst_c (Gindex.out.below B0) (HAA.out.below B0) HI.out HV.out.1 HV.out.2.1 HV.out.2.2).mono ?_
      rw [show substF x.index v.toNat a = F x.index from (congrFun HF.out _).symm]
      rintro e w1 ⟨A1, n1, c1_, k1, bs1, rfl, r1, nd1, hb1, b1⟩
      have OB1 := OB.to b1
      have f12 := (b1.frozen (p := ⟨w.heap.size + 3, 2, none⟩) lo).trans (HO0.out.frozen 2)
      have f13 := (b1.frozen (p := ⟨w.heap.size + 3, 3, none⟩) lo).trans (HO0.out.frozen 3)
      have P1 := P0.to b1
      have Q1 := Q0.to b1
      have lp1 := lt_of_cell P1.1
      have lq1 := lt_of_cell Q1.1
      have lo1 := lt_of_cell OB1.1
      have HO1 := Lib.hid (((HO0.out.to b1).set 2 (.slice A1 n1 c1_)).set 3 (.int .i64 k1))
      have HZ1 := Lib.hid (((HZ0.out.to b1).far (p := ⟨w.heap.size + 3, 2, none⟩) (by simp) (.slice A1 n1 c1_)).far (p := ⟨w.heap.size + 3, 3, none⟩) (by simp) (.int .i64 k1))
      have hge := Lib.hid (show ∀ y ∈ bs1, w.heap.size + 4 ≤ y from fun y hy => Nat.le_trans hWz2 (hb1 y hy))
      have hno : w.heap.size + 3 ∉ bs1 := fun hm => by have := hge.out _ hm; omega
      have HIX := Lib.hid (Rep.keep _ r1 (((Keeps.refl w1 bs1).setCell (p := ⟨w.heap.size + 3, 2, none⟩) hno (.slice A1 n1 c1_)).setCell (p := ⟨w.heap.size + 3, 3, none⟩) hno (.int .i64 k1)))
      have PQ := Lib.hid (show Box7 ((w1.setCell ⟨w.heap.size+3,2,none⟩ (.slice A1 n1 c1_)).setCell ⟨w.heap.size+3,3,none⟩ (.int .i64 k1)) w.heap.size (.int .i64 x.kind) (.int .i64 x.num) (.slice A3 x.index.coefs.length c3) (.int .i64 x.index.const) (.string x.read.arr) (.slice A6 x.read.subs.length c6) (.slice A7 x.kids.length c7) by refine ⟨?_, ?_, ?_, ?_, ?_, ?_, ?_⟩ <;> go_simp)
      have QQ := Lib.hid (show Box2 ((w1.setCell ⟨w.heap.size+3,2,none⟩ (.slice A1 n1 c1_)).setCell ⟨w.heap.size+3,3,none⟩ (.int .i64 k1)) (w.heap.size + 1) (.slice Aa na ca) (.int .i64 a.const) by refine ⟨?_, ?_⟩ <;> go_simp)
      have hz1 := b1.size
      have ND := Lib.hid nd1
      clear r1 nd1 hb1 OB P0 Q0
      go_wp2
      go_meet
      case rel =>
        refine ⟨_, _, _, _, bs1, HO1.out, HZ1.out, ?_, ND.out, hge.out, PQ.out, QQ.out, by (simp [World.setCell]; omega), bel⟩
        rw [HX.out]; exact HIX.out
    case neg =>
      have q1 : (x.kind == 2) = false := ieq_f h2
      have HX := Lib.hid (show (mapEx F x).index = affZero by rw [HEQ.out, if_neg h2])
      have PQ := Lib.hid (And.intro P0 Q0)
      clear h2
      go_wp2
      go_meet
      case rel =>
        refine ⟨_, _, _, _, [], HO0.out, HZ0.out, ?_, by simp, by simp, PQ.out.1, PQ.out.2, hWz2, B0⟩
        rw [HX.out]; exact Rep.affZero
  case rest =>
    obtain ⟨AI, nI, cI, kI, dI, ho, hz, hi, hnd, hge, Pc, Qc, hsz, hbc⟩ := hcut
    rename World => wb
    clear P0 Q0 O0 HW HWZ HZ0 B0 hWz2 W
    have HO0 := Lib.hid ho
    have HZ0 := Lib.hid hz
    have HI0 := Lib.hid hi
    have HND0 := Lib.hid hnd
    have HGE0 := Lib.hid hge
    have HLI0 := Lib.hid (Rep.lt _ hi)
    have OB := ho.box7
    have lo := lt_of_cell OB.1
    have lp := lt_of_cell Pc.1
    have lq := lt_of_cell Qc.1
    clear ho hz hi hnd hge
    go_upto_if 25 with (fail)
    go_cut [] (fun wc => ∃ (sR : ByteArray) (AR : Option Addr) (nR cR : Nat) (dR : List Nat), Row wc (w.heap.size + 3) 50 [.int .i64 x.kind, .int .i64 x.num, .slice AI nI cI, .int .i64 kI, .string sR, .slice AR nR cR, .slice none 0 0] ∧ Row wc (w.heap.size + 2) 50 [.int .i64 0, .int .i64 0, .slice none 0 0, .int .i64 0, .string ⟨#[]⟩, .slice none 0 0, .slice none 0 0] ∧ Rep wc (mapEx F x).index.d [.slice AI nI cI, .int .i64 kI] dI ∧ Rep wc (mapEx F x).read.d [.string sR, .slice AR nR cR] dR ∧ (dI ++ dR).Nodup ∧ (∀ y ∈ dI ++ dR, w.heap.size + 4 ≤ y) ∧ Box7 wc w.heap.size (.int .i64 x.kind) (.int .i64 x.num) (.slice A3 x.index.coefs.length c3) (.int .i64 x.index.const) (.string x.read.arr) (.slice A6 x.read.subs.length c6) (.slice A7 x.kids.length c7) ∧ Box2 wc (w.heap.size + 1) (.slice Aa na ca) (.int .i64 a.const) ∧ w.heap.size + 4 ≤ wc.heap.size ∧ Below w.heap.size w wc)
    case first =>
      by_cases h3 : x.kind = 3
      case pos =>
        have q2 : (x.kind == 3) = true := ieq_t h3
        obtain ⟨hs, hl⟩ := HPA.out.2.1 h3
        have HS := Lib.hid hs; clear hs
        have HX := Lib.hid (show (mapEx F x).read = mapAcc F x.read by rw [HEQ.out, if_pos h3])
        clear h3
        go_wp2_with fail
        refine (l3SubstAccess_c (Gread.out.below hbc) hl (HAA.out.below hbc) HV.out.1 HV.out.2.1 HV.out.2.2 HS.out).mono ?_
        rw [← HF.out]
        rintro e w1 ⟨A1, c1_, bs1, rfl, r1, nd1, hb1, b1⟩
        have OB1 := OB.to b1
        have f12 := (b1.frozen (p := ⟨w.heap.size + 3, 4, none⟩) lo).trans (HO0.out.frozen 4)
        have f13 := (b1.frozen (p := ⟨w.heap.size + 3, 5, none⟩) lo).trans (HO0.out.frozen 5)
        have P1 := Pc.to b1
        have Q1 := Qc.to b1
        have lp1 := lt_of_cell P1.1
        have lq1 := lt_of_cell Q1.1
        have lo1 := lt_of_cell OB1.1
        have HO1 := Lib.hid (((HO0.out.to b1).set 4 (.string (mapAcc F x.read).arr)).set 5 (.slice A1 (mapAcc F x.read).subs.length c1_))
        have HZ1 := Lib.hid (((HZ0.out.to b1).far (p := ⟨w.heap.size + 3, 4, none⟩) (by simp) (.string (mapAcc F x.read).arr)).far (p := ⟨w.heap.size + 3, 5, none⟩) (by simp) (.slice A1 (mapAcc F x.read).subs.length c1_))
        have hge := Lib.hid (show ∀ y ∈ bs1, w.heap.size + 4 ≤ y from fun y hy => Nat.le_trans hsz (hb1 y hy))
        have hno : w.heap.size + 3 ∉ bs1 := fun hm => by have := hge.out _ hm; omega
        have hno2 : w.heap.size + 3 ∉ dI := fun hm => by have := HGE0.out _ hm; omega
        have HRX := Lib.hid (Rep.keep _ r1 (((Keeps.refl w1 bs1).setCell (p := ⟨w.heap.size + 3, 4, none⟩) hno (.string (mapAcc F x.read).arr)).setCell (p := ⟨w.heap.size + 3, 5, none⟩) hno (.slice A1 (mapAcc F x.read).subs.length c1_)))
        have HIX := Lib.hid (Rep.keep _ (HI0.out.below b1) (((Keeps.refl w1 dI).setCell (p := ⟨w.heap.size + 3, 4, none⟩) hno2 (.string (mapAcc F x.read).arr)).setCell (p := ⟨w.heap.size + 3, 5, none⟩) hno2 (.slice A1 (mapAcc F x.read).subs.length c1_)))
        have PQ := Lib.hid (show Box7 ((w1.setCell ⟨w.heap.size+3,4,none⟩ (.string (mapAcc F x.read).arr)).setCell ⟨w.heap.size+3,5,none⟩ (.slice A1 (mapAcc F x.read).subs.length c1_)) w.heap.size (.int .i64 x.kind) (.int .i64 x.num) (.slice A3 x.index.coefs.length c3) (.int .i64 x.index.const) (.string x.read.arr) (.slice A6 x.read.subs.length c6) (.slice A7 x.kids.length c7) by refine ⟨?_, ?_, ?_, ?_, ?_, ?_, ?_⟩ <;> go_simp)
        have QQ := Lib.hid (show Box2 ((w1.setCell ⟨w.heap.size+3,4,none⟩ (.string (mapAcc F x.read).arr)).setCell ⟨w.heap.size+3,5,none⟩ (.slice A1 (mapAcc F x.read).subs.length c1_)) (w.heap.size + 1) (.slice Aa na ca) (.int .i64 a.const) by refine ⟨?_, ?_⟩ <;> go_simp)
        have hz1 := b1.size
        have ND := Lib.hid (two_newA HND0.out nd1 HGE0.out HLI0.out hb1 (Nat.le_trans (Nat.le_refl _) hsz))
        clear r1 nd1 hb1 OB Pc Qc
        go_wp2
        go_meet
        case rel =>
          refine ⟨_, _, _, _, bs1, HO1.out, HZ1.out, HIX.out, ?_, ND.out.1, ND.out.2, PQ.out, QQ.out, by (simp [World.setCell]; omega), bel⟩
          rw [HX.out]; exact HRX.out
      case neg =>
        have q2 : (x.kind == 3) = false := ieq_f h3
        have HX := Lib.hid (show (mapEx F x).read = accZero by rw [HEQ.out, if_neg h3])
        have PQ := Lib.hid (And.intro Pc Qc)
        clear h3
        go_wp2
        go_meet
        case rel =>
          refine ⟨_, _, _, _, [], HO0.out, HZ0.out, HI0.out, ?_, by simpa using HND0.out, by simpa using HGE0.out, PQ.out.1, PQ.out.2, hsz, hbc⟩
          rw [HX.out]; exact Rep.accZero
    case rest =>
      obtain ⟨sR, AR, nR, cR, dR, ho, hz, hi, hr, hnd, hge, Pd, Qd, hsz2, hbd⟩ := hcut
      rename World => wc
      clear OB lo lp lq Pc Qc HO0 HZ0 HI0 HND0 HGE0 HLI0
      have HO := Lib.hid ho
      have HZ := Lib.hid hz
      have HI := Lib.hid hi
      have HR := Lib.hid hr
      have HND := Lib.hid hnd
      have HGE := Lib.hid hge
      have HPQ := Lib.hid (And.intro Pd Qd)
      clear ho hz hi hr hnd hge Pd Qd hbc hsz
      have HMX := Lib.hid (show mapEx F x = ⟨x.kind, x.num, (mapEx F x).index, (mapEx F x).read, x.kids.map (mapEx F)⟩ by rw [HEQ.out])
      obtain ⟨IX, hIX⟩ : ∃ IX, IX = (mapEx F x).index := ⟨_, rfl⟩
      obtain ⟨RX, hRX⟩ : ∃ RX, RX = (mapEx F x).read := ⟨_, rfl⟩
      rw [← hIX] at HI HMX
      rw [← hRX] at HR HMX
      clear hIX hRX HEQ
      have hgO : w.heap.size + 3 < wc.heap.size := by omega
      go_wp2
      go_loopw [8] (fun i wr => ∃ (j : Nat) (u : Value), j ≤ x.kids.length ∧ i = .int .i64 j ∧ Row wr (w.heap.size + 3) 50 [.int .i64 x.kind, .int .i64 x.num, .slice AI nI cI, .int .i64 kI, .string sR, .slice AR nR cR, u] ∧ Grow wr wc.heap.size 50 7 u ((x.kids.take j).map fun y => (mapEx F y).d) ∧ Touch [w.heap.size + 3] wc wr) (fun i _ => x.kids.length - (intOf i).toNat)
      case atStart => exact ⟨0, .slice none 0 0, Nat.zero_le _, rfl, HO.out, by simpa using Grow.nil _ _ _ _, Touch.refl _ _⟩
      case round =>
        obtain ⟨j, u, hj, rfl, hrow, hG, htc⟩ := hrel
        have HO2 := Lib.hid hrow; clear hrow
        have HTC := Lib.hid htc; clear htc
        have hbr : Below w.heap.size w wr := hbd.trans (HTC.out.below hbd.size (by simp))
        have hszr := HTC.out.size
        have PR := HPQ.out.1.touch HTC.out (by simp)
        have QR := HTC.out.box2 HPQ.out.2 (by simp)
        have HPR := Lib.hid PR
        have HQR := Lib.hid QR
        have lp := lt_of_cell PR.1
        have lq := lt_of_cell QR.1
        obtain ⟨p0, p1, p2, p3, p4, p5, p6⟩ := PR
        obtain ⟨q0, q1⟩ := QR
        obtain ⟨Au, cu, hfu, _, _⟩ := hG.form
        rw [List.length_map, List.length_take] at hfu
        have HG := Lib.hid hG; clear hG
        by_cases hlt : j < x.kids.length
        · have HT := Lib.hid (show ((x.kids.take (j + 1)).map fun y => (mapEx F y).d) = ((x.kids.take j).map fun y => (mapEx F y).d) ++ [(mapEx F x.kids[j]).d] by rw [List.take_succ_eq_append_getElem hlt, List.map_append]; rfl)
          have HRJ := Lib.hid (HREC.out _ (List.getElem_mem hlt))
          have HAJ := Lib.hid (HPA.out.2.2.2 _ (List.getElem_mem hlt))
          obtain ⟨be, oe, cse, le, rfl, hble, hre, _, _, hce⟩ := (Gkids.out.below hbr).sls_at Ex.d_size (k := j) hlt
          have Ge := Lib.hid hre
          obtain ⟨A3e, c3e, A6e, c6e, A7e, c7e, d3e, d6e, d7e, rfl, rfl, g1e, g2e, g3e, g4e, g5e, g6e, g7e⟩ := Rep.ex_iff.1 hre
          have k0e := (hce 0 _ rfl).1; rw [Nat.add_zero] at k0e
          have k1e := (hce 1 _ rfl).1
          have k2e := (hce 2 _ rfl).1
          have k3e := (hce 3 _ rfl).1
          have k4e := (hce 4 _ rfl).1
          have k5e := (hce 5 _ rfl).1
          have k6e := (hce 6 _ rfl).1
          have Q1e := Lib.hid g1e
          have Q2e := Lib.hid g2e
          have Q3e := Lib.hid g3e
          have Q4e := Lib.hid g4e
          have Q5e := Lib.hid g5e
          have Q6e := Lib.hid g6e
          have Q7e := Lib.hid g7e
          clear hce hre g1e g2e g3e g4e g5e g6e g7e
          have hbe := HLOW.out _ _ _ rfl (by omega)
          have OB := HO2.out.box7
          have lo := lt_of_cell OB.1
          obtain ⟨o0, o1, o2, o3, o4, o5, o6⟩ := OB
          have f6 := HO2.out.frozen 6
          have hmin : min j x.kids.length = j := by omega
          rw [hmin] at hfu
          subst hfu
          have HOW := Lib.hid HG.out.own_ge
          obtain ⟨y, hy⟩ : ∃ y, y = x.kids[j] := ⟨_, rfl⟩
          rw [← hy] at k0e k1e k2e k3e k4e k5e k6e Ge HT HRJ HAJ
          clear hmin hy
          go_wp2_with fail
          refine wp_region_noPanic ?_
          refine wp_regionT (S := fun w' => w'.cell? ⟨w.heap.size + 3, 6, none⟩ = some (.slice Au j cu) ∧ Box7 w' w.heap.size (.int .i64 x.kind) (.int .i64 x.num) (.slice A3 x.index.coefs.length c3) (.int .i64 x.index.const) (.string x.read.arr) (.slice A6 x.read.subs.length c6) (.slice (some ⟨be, oe, none⟩) x.kids.length c7) ∧ Box2 w' (w.heap.size + 1) (.slice Aa na ca) (.int .i64 a.const) ∧ (w'.cell? ⟨be, oe + j * 7, none⟩ = some (.int .i64 y.kind) ∧ w'.cell? ⟨be, oe + j * 7 + 1, none⟩ = some (.int .i64 y.num) ∧ w'.cell? ⟨be, oe + j * 7 + 2, none⟩ = some (.slice A3e y.index.coefs.length c3e) ∧ w'.cell? ⟨be, oe + j * 7 + 3, none⟩ = some (.int .i64 y.index.const) ∧ w'.cell? ⟨be, oe + j * 7 + 4, none⟩ = some (.string y.read.arr) ∧ w'.cell? ⟨be, oe + j * 7 + 5, none⟩ = some (.slice A6e y.read.subs.length c6e) ∧ w'.cell? ⟨be, oe + j * 7 + 6, none⟩ = some (.slice A7e y.kids.length c7e))) 13 (by kernel_rfl) (⟨by go_simp, ⟨by go_simp, by go_simp, by go_simp, by go_simp, by go_simp, by go_simp, by go_simp⟩, ⟨by go_simp, by go_simp⟩, by go_simp, by go_simp, by go_simp, by go_simp, by go_simp, by go_simp, by go_simp⟩) (fun hHeld => ?_)
          refine goU 0 (fun _ => hHeld) ?_
          refine goT 1 hHeld ?_
          refine goU 2 (fun _ => hHeld) ?_
          refine goT 3 hHeld ?_
          refine goU 4 (fun _ => hHeld) ?_
          refine goU 5 (fun _ => hHeld) ?_
          refine goT 6 hHeld ?_
          refine goU 7 (fun _ => hHeld) ?_
          refine goT 8 hHeld ?_
          refine readyT (rs := [9]) (by kernel_rfl) (by simp) (all1 ?_)
          refine opT (i := 9) rfl (wanted_none rfl) (fun K hK => ?_)
          go_simp
          (refine (HRJ.out _ _ _ _ _ _ _ (Ge.out.below bel) (HAA.out.below (below_tr hbr bel)) HAJ.out).mono ?_; rintro e w1 ⟨X3, z3, X6, z6, X7, z7, bs1, rfl, r1, nd1, hb1, b1⟩; have B1 : Below wr.heap.size wr w1 := bel; have O1 := Lib.hid (one_newN (N := w1.heap.size) r1 50 rfl); have N1 := Lib.hid (And.intro nd1 (show ∀ z ∈ bs1, wr.heap.size ≤ z from fun z hz => by have := hb1 z hz; simp at this; omega)); clear r1 nd1 hb1)
          go_wp2_with fail
          refine hK.out _ _ ((cells_to hHeld b1)) (fun hHeld => ?_)
          clear hK K
          try simp only [Act.put, List.setIfInBounds_toArray, List.set_cons_zero, List.set_cons_succ]
          refine readyT (rs := [10]) (by kernel_rfl) (by simp) (all1 ?_)
          refine opT (i := 10) rfl (wanted_none rfl) (fun K hK => ?_)
          (unfold Oper.wp; go_simp)
          refine hK.out _ _ ((cells_to hHeld ((Below.refl _ _).alloc (Nat.le_refl _) _))) (fun hHeld => ?_)
          clear hK K
          try simp only [Act.put, List.setIfInBounds_toArray, List.set_cons_zero, List.set_cons_succ]
          refine readyT (rs := [11]) (by kernel_rfl) (by simp) (all1 ?_)
          refine opT (i := 11) rfl (wanted_none rfl) (fun K hK => ?_)
          (refine wp_append_more (w0 := wr) (B := wc.heap.size) (xs := (x.kids.take j).map fun y => (mapEx F y).d) (ys := [(mapEx F y).d]) (.tmp 40) (.tmp 49) _ rfl _ Try.underlying48 Try.infoEx rfl (by decide) rfl HG.out ?hbw rfl O1.out ?hys ?hn ?hf ?hlen hszr ?_; (case hbw => exact bel); (case hys => (intro z hz; simp only [List.mem_singleton] at hz; rw [hz]; exact Ex.d_size _)); (case hn => exact N1.out.1); (case hf => exact N1.out.2); (case hlen => (simp; omega)); intro v2_ w4 hG4 hg4; have B4 : Below wc.heap.size wr w4 := ((B1.alloc B1.size _).mono hszr).trans (hg4.below (Nat.le_trans hszr (Nat.le_trans B1.size (by simp))) (fun b hb => (HOW.out b hb).1)); have XR := Lib.hid (HO2.out.of_block (B4.block _ hgO)); have XB := XR.out.box7; have XF := XR.out.frozen 6; have xlt := lt_of_cell XB.1; obtain ⟨A4, c4, hf4, _, _⟩ := hG4.form; simp only [List.length_append, List.length_map, List.length_take, List.length_singleton] at hf4; rw [show min j x.kids.length + 1 = j + 1 by omega] at hf4; subst hf4; rw [← HT.out] at hG4; have HG4 := Lib.hid hG4; have HT4 := Lib.hid (HTC.out.then B4))
          refine hK.out _ _ ((cells_tT hHeld hg4.touch (fun hm => by have := (HOW.out _ (mem_ownL.1 hm)).1; omega) (fun hm => by have := (HOW.out _ (mem_ownL.1 hm)).1; omega) (fun hm => by have := (HOW.out _ (mem_ownL.1 hm)).1; omega) (fun hm => by have := (HOW.out _ (mem_ownL.1 hm)).1; omega))) (fun hHeld => ?_)
          clear hK K
          try simp only [Act.put, List.setIfInBounds_toArray, List.set_cons_zero, List.set_cons_succ]
          refine goU 12 (fun _ => hHeld) ?_
          refine readyT (rs := [13]) (by kernel_rfl) (by simp) (all1 ?_)
          refine opTT (i := 13) rfl (wanted_none rfl) (by kernel_rfl) (fun K hK => ?_)
          (unfold Oper.wp; go_simp)
          refine hK.out _ _ ?_
          clear hK K
          try simp only [Act.put, List.setIfInBounds_toArray, List.set_cons_zero, List.set_cons_succ]
          refine wpAnyT_done (by kernel_rfl) ?_ _
          refine NoPanic.normal ?_
          (go_wp2; go_roundw; (case rel => exact ⟨j + 1, _, by omega, by go_num, XR.out.set 6 _, HG4.out.set_low (p := ⟨w.heap.size + 3, 6, none⟩) hgO _, HT4.out.setCell (by first | (simp; done) | (simp; omega)) _⟩); (case measure => (simp [intOf]; omega)))
        · have hjj : j = x.kids.length := by omega
          subst hjj
          rw [Nat.min_self] at hfu
          subst hfu
          obtain ⟨A5, c5, bs5, he5, r5, nd5, hb5⟩ := HG.out.rep
          rw [List.length_map, List.length_take, Nat.min_self] at he5 r5
          simp only [Value.slice.injEq, true_and] at he5
          obtain ⟨rfl, rfl⟩ := he5
          rw [List.take_length] at r5
          have HZr := Lib.hid (HZ.out.of_block (HTC.out.block (w.heap.size + 2) (by omega) (by simp)))
          obtain ⟨o0, o1, o2, o3, o4, o5, o6⟩ := HO2.out.box7
          obtain ⟨z0, z1, z2, z3, z4, z5, z6⟩ := HZr.out.box7
          have f0 := HZr.out.frozen 0
          have f1 := HZr.out.frozen 1
          have f2 := HZr.out.frozen 2
          have f3 := HZr.out.frozen 3
          have f4 := HZr.out.frozen 4
          have f5 := HZr.out.frozen 5
          have f6 := HZr.out.frozen 6
          have lz := lt_of_cell z0
          have lo := lt_of_cell o0
          have HIr := Lib.hid (Rep.keep _ HI.out (HTC.out.keeps fun z hz => ⟨Rep.lt _ HI.out z hz, by have := HGE.out z (List.mem_append_left _ hz); simp; omega⟩))
          have HRr := Lib.hid (Rep.keep _ HR.out (HTC.out.keeps fun z hz => ⟨Rep.lt _ HR.out z hz, by have := HGE.out z (List.mem_append_right _ hz); simp; omega⟩))
          have HLI := Lib.hid (And.intro (Rep.lt _ HI.out) (Rep.lt _ HR.out))
          have H5 := Lib.hid (And.intro r5 (And.intro nd5 hb5))
          clear r5 nd5 hb5
          go_wp2
          have hnb : ∀ bs : List Nat, (∀ z ∈ bs, w.heap.size + 4 ≤ z) → w.heap.size + 2 ∉ bs := fun bs h hm => by have := h _ hm; omega
          have RF := (((((((HZr.out.set 0 (.int .i64 x.kind)).set 1 (.int .i64 x.num)).set 2 (.slice AI nI cI)).set 3 (.int .i64 kI)).set 4 (.string sR)).set 5 (.slice AR nR cR)).set 6 (.slice Au x.kids.length cu))
          simp only [List.set_cons_zero, List.set_cons_succ] at RF
          have BF : Below w.heap.size w (((((((wr.setCell ⟨w.heap.size + 2, 0, none⟩ (.int .i64 x.kind)).setCell ⟨w.heap.size + 2, 1, none⟩ (.int .i64 x.num)).setCell ⟨w.heap.size + 2, 2, none⟩ (.slice AI nI cI)).setCell ⟨w.heap.size + 2, 3, none⟩ (.int .i64 kI)).setCell ⟨w.heap.size + 2, 4, none⟩ (.string sR)).setCell ⟨w.heap.size + 2, 5, none⟩ (.slice AR nR cR)).setCell ⟨w.heap.size + 2, 6, none⟩ (.slice Au x.kids.length cu)) := bel
          have KF : ∀ bs : List Nat, (∀ z ∈ bs, w.heap.size + 4 ≤ z) → Keeps wr (((((((wr.setCell ⟨w.heap.size + 2, 0, none⟩ (.int .i64 x.kind)).setCell ⟨w.heap.size + 2, 1, none⟩ (.int .i64 x.num)).setCell ⟨w.heap.size + 2, 2, none⟩ (.slice AI nI cI)).setCell ⟨w.heap.size + 2, 3, none⟩ (.int .i64 kI)).setCell ⟨w.heap.size + 2, 4, none⟩ (.string sR)).setCell ⟨w.heap.size + 2, 5, none⟩ (.slice AR nR cR)).setCell ⟨w.heap.size + 2, 6, none⟩ (.slice Au x.kids.length cu)) bs := fun bs h => by
            have hz5 := hnb bs h
            repeat (first | with_reducible exact Keeps.refl _ _ | refine Keeps.setCell ?_ hz5 _)
          refine bodyPost_ret (v := .agg #[.int .i64 x.kind, .int .i64 x.num, .slice AI nI cI, .int .i64 kI, .string sR, .slice AR nR cR, .slice Au x.kids.length cu]) ?_ rfl ?_
          · obtain ⟨y0, y1, y2, y3, y4, y5, y6⟩ := RF.box7
            obtain ⟨Wf, hWf⟩ : ∃ Wf, Wf = (((((((wr.setCell ⟨w.heap.size + 2, 0, none⟩ (.int .i64 x.kind)).setCell ⟨w.heap.size + 2, 1, none⟩ (.int .i64 x.num)).setCell ⟨w.heap.size + 2, 2, none⟩ (.slice AI nI cI)).setCell ⟨w.heap.size + 2, 3, none⟩ (.int .i64 kI)).setCell ⟨w.heap.size + 2, 4, none⟩ (.string sR)).setCell ⟨w.heap.size + 2, 5, none⟩ (.slice AR nR cR)).setCell ⟨w.heap.size + 2, 6, none⟩ (.slice Au x.kids.length cu)) := ⟨_, rfl⟩
            rw [← hWf] at y0 y1 y2 y3 y4 y5 y6 ⊢
            clear hWf
            simp [results, Try.results87, go_sem, y0, y1, y2, y3, y4, y5, y6]
          refine MadeEx.of ⟨[.int .i64 x.kind, .int .i64 x.num, .slice AI nI cI, .int .i64 kI, .string sR, .slice AR nR cR, .slice Au x.kids.length cu], dI ++ dR ++ bs5, rfl, ?_, ?_, ?_, ?_⟩
          · have hll : (x.kids.map (mapEx F)).length = x.kids.length := List.length_map _
            have := Ex.rep_of (w := wr) (A := Au) (c := cu) (d7 := bs5) HKK.out.1 HKK.out.2 HIr.out HRr.out (ks := x.kids.map (mapEx F)) (by
              rw [hll]
              have := H5.out.1
              unfold sls
              rw [List.map_map]
              exact this)
            rw [hll] at this
            rw [HMX.out]
            refine Rep.keep _ this (KF _ (fun z hz => by
              rcases List.mem_append.1 hz with hz | hz
              · exact HGE.out z hz
              · have := H5.out.2.2 z hz; omega))
          · refine List.nodup_append.2 ⟨HND.out, H5.out.2.1, fun a ha b hb e => ?_⟩
            subst e
            have h1 := H5.out.2.2 a hb
            rcases List.mem_append.1 ha with ha | ha
            · have := HLI.out.1 a ha; omega
            · have := HLI.out.2 a ha; omega
          · intro z hz
            rcases List.mem_append.1 hz with hz | hz
            · have := HGE.out z hz; omega
            · have := H5.out.2.2 z hz; omega
          · exact BF
theorem l3SubstExpr_c {a : Aff} {v : Int} {F : Aff → Aff} (hF : F = fun t => substF t v.toNat a) (hok : affOk a = true) (h0 : 0 ≤ v) (h4 : v < 4) (x : Ex) : SubX a v F x := Ex.ind (P := SubX a v F) (fun _ hx => l3SubstExpr_r hF hok h0 h4 hx) x
end Go.Proofs.Ytadmmlflngkpiaa

/- A variable replaced in a statement: SubstStmt of both sides. -/
namespace Go.Proofs.Ytadmmlflngkpiaa
open Go.ChangeShapes Go.WideShapes Go.ChangeAt Go.RowKit Go.Deep

def stmZero : Stm := ⟨accZero, ⟨0, 0, affZero, accZero, []⟩⟩
def SubstStmtF (x : Stm) (v : Int) (a : Aff) : Stm × Bool :=
  if StmtValidF x 4 && (affOk a && inB v 0 3) then (if StmtValidF (mapStm (fun t => substF t v.toNat a) x) 4 then (mapStm (fun t => substF t v.toNat a) x, true) else (stmZero, false)) else (stmZero, false)
theorem SubstStmtF_1 {x : Stm} {v : Int} {a : Aff} (h : StmtValidF x 4 = false) : SubstStmtF x v a = (stmZero, false) := by simp [SubstStmtF, h]
theorem SubstStmtF_2 {x : Stm} {v : Int} {a : Aff} (h : affOk a = false) : SubstStmtF x v a = (stmZero, false) := by simp [SubstStmtF, h]
theorem SubstStmtF_3 {x : Stm} {v : Int} {a : Aff} (h : inB v 0 3 = false) : SubstStmtF x v a = (stmZero, false) := by simp [SubstStmtF, h]
theorem SubstStmtF_4 {x : Stm} {v : Int} {a : Aff} {y : Stm} (hy : mapStm (fun t => substF t v.toNat a) x = y) (h : StmtValidF y 4 = false) : SubstStmtF x v a = (stmZero, false) := by subst hy; simp [SubstStmtF, h]
theorem SubstStmtF_5 {x : Stm} {v : Int} {a : Aff} {y : Stm} (h1 : StmtValidF x 4 = true) (h2 : affOk a = true) (h3 : inB v 0 3 = true) (hy : mapStm (fun t => substF t v.toNat a) x = y) (h : StmtValidF y 4 = true) : SubstStmtF x v a = (y, true) := by subst hy; simp [SubstStmtF, h1, h2, h3, h]
def MadeStmB (w : World) (x : Stm) (t : Bool) (e : Ending) (w' : World) : Prop := ∃ (A2 : Option Addr) (c2 : Nat) (A5 : Option Addr) (c5 : Nat) (A8 : Option Addr) (c8 : Nat) (A9 : Option Addr) (c9 : Nat) (bs : List Nat), e = .returned (.tuple #[.agg #[.string x.write.arr, .slice A2 x.write.subs.length c2, .int .i64 x.value.kind, .int .i64 x.value.num, .slice A5 x.value.index.coefs.length c5, .int .i64 x.value.index.const, .string x.value.read.arr, .slice A8 x.value.read.subs.length c8, .slice A9 x.value.kids.length c9], .bool t]) ∧ Rep w' x.d [.string x.write.arr, .slice A2 x.write.subs.length c2, .int .i64 x.value.kind, .int .i64 x.value.num, .slice A5 x.value.index.coefs.length c5, .int .i64 x.value.index.const, .string x.value.read.arr, .slice A8 x.value.read.subs.length c8, .slice A9 x.value.kids.length c9] bs ∧ bs.Nodup ∧ (∀ b ∈ bs, w.heap.size ≤ b) ∧ Below w.heap.size w w'
theorem Rep.stmZero {w : World} : Rep w stmZero.d [.string ⟨#[]⟩, .slice none 0 0, .int .i64 0, .int .i64 0, .slice none 0 0, .int .i64 0, .string ⟨#[]⟩, .slice none 0 0, .slice none 0 0] [] :=
  Stm.rep_of (x := Go.Proofs.Ytadmmlflngkpiaa.stmZero) Rep.accZero (Ex.rep_of (A := none) (c := 0) (d7 := []) ⟨by decide, by decide⟩ ⟨by decide, by decide⟩ Rep.affZero Rep.accZero (Rep.ints_nil (Nat.zero_le _) : Rep w (ints []) [.slice none 0 0] []))
theorem MadeStmB.zero {w w' : World} (h : Below w.heap.size w w') : MadeStmB w stmZero false (.returned (.tuple #[.agg #[.string ⟨#[]⟩, .slice none 0 0, .int .i64 0, .int .i64 0, .slice none 0 0, .int .i64 0, .string ⟨#[]⟩, .slice none 0 0, .slice none 0 0], .bool false])) w' :=
  ⟨none, 0, none, 0, none, 0, none, 0, [], rfl, Rep.stmZero, by simp, by simp, h⟩
theorem store9 {W Wf : World} {g : Nat} {z0 z1 z2 z3 z4 z5 z6 z7 z8 v0 v1 v2 v3 v4 v5 v6 v7 v8 : Value} (h : Box9 W g z0 z1 z2 z3 z4 z5 z6 z7 z8)
    (hW : Wf = ((((((((W.setCell ⟨g, 0, none⟩ v0).setCell ⟨g, 1, none⟩ v1).setCell ⟨g, 2, none⟩ v2).setCell ⟨g, 3, none⟩ v3).setCell ⟨g, 4, none⟩ v4).setCell ⟨g, 5, none⟩ v5).setCell ⟨g, 6, none⟩ v6).setCell ⟨g, 7, none⟩ v7).setCell ⟨g, 8, none⟩ v8) :
    Box9 Wf g v0 v1 v2 v3 v4 v5 v6 v7 v8 ∧ (∀ bs : List Nat, g ∉ bs → Keeps W Wf bs) ∧ (∀ (w0 : World) (N : Nat), Below N w0 W → N ≤ g → Below N w0 Wf) := by
  obtain ⟨h0, h1, h2, h3, h4, h5, h6, h7, h8⟩ := h
  refine ⟨?_, fun bs hb => ?_, fun w0 N hb hN => ?_⟩
  · subst hW
    refine ⟨?_, ?_, ?_, ?_, ?_, ?_, ?_, ?_, ?_⟩ <;> go_simp
  · subst hW
    repeat (first | with_reducible exact Keeps.refl _ _ | refine Keeps.setCell ?_ hb _)
  · subst hW
    exact ((((((((hb.setCell hN _).setCell hN _).setCell hN _).setCell hN _).setCell hN _).setCell hN _).setCell hN _).setCell hN _).setCell hN _
theorem substCl_e : Enters Try.prog 64 := fun args W => by go_simp
set_option maxRecDepth 100000 in
set_option maxHeartbeats 4000000 in
theorem substCl_c {w : World} {gv ga : Nat} {v : Int} {a : Aff} {Aa : Option Addr} {na ca : Nat} {ba : List Nat} (hv : w.cell? ⟨gv, 0, none⟩ = some (.int .i64 v)) (hA : Box2 w ga (.slice Aa na ca) (.int .i64 a.const)) (ha : Rep w a.d [.slice Aa na ca, .int .i64 a.const] ba) (hok : affOk a = true) (h0 : 0 ≤ v) (h4 : v < 4) (t : Aff) (ht : affOk t = true) :
    Changes w 64 #[.pointer (some ⟨gv, 0, none⟩), .pointer (some ⟨ga, 0, none⟩)] (fun t => substF t v.toNat a) t := by
  intro cs bs W hW h
  obtain ⟨A, n, c, rfl, h1, h2⟩ := Rep.aff_iff.1 h
  show Calls Try.prog 64 #[.agg #[.slice A n c, .int .i64 t.const], .pointer (some ⟨gv, 0, none⟩), .pointer (some ⟨ga, 0, none⟩)] W (MadeAff W (substF t v.toNat a))
  have HAA := Lib.hid (ha.below hW); clear ha
  have HT := Lib.hid h; clear h h1 h2
  have HOK := Lib.hid (And.intro hok (And.intro h0 (And.intro h4 ht))); clear hok h0 h4 ht
  have e0 := cell_toC hv hW
  have eA := hA.to hW
  obtain ⟨e1, e2⟩ := eA
  have l0 := lt_of_cell e0
  have l1 := lt_of_cell e1
  clear hv hA hW
  go_enter Try.func64, Try.ntmps64
  go_wp2_with fail
  refine (subst_c (HT.out.below bel) (HAA.out.below bel) HOK.out.2.2.2 HOK.out.1 HOK.out.2.1 HOK.out.2.2.1).mono ?_
  rintro e w1 ⟨A1, n1, c1, k1, bs1, rfl, r1, nd1, hb1, b1⟩
  have hR : BoxW w1 (W.heap.size + 1) (.slice none 0 0) (.int .i64 0) := by
    refine ⟨⟨?_, ?_⟩, ?_, ?_⟩
    · rw [b1.cell (by simp)]; go_simp
    · rw [b1.cell (by simp)]; go_simp
    · rw [b1.frozen (by simp)]; go_simp
    · rw [b1.frozen (by simp)]; go_simp
  obtain ⟨⟨m1, m2⟩, m3, m4⟩ := hR
  have lt1 := lt_of_cell m1
  have hge : ∀ y ∈ bs1, W.heap.size + 2 ≤ y := fun y hy => by have := hb1 y hy; simp at this; omega
  have H1 := Lib.hid (And.intro r1 (And.intro nd1 hge)); clear r1 nd1 hge hb1
  have S1 : Below W.heap.size W w1 := bel
  go_wp2
  have hn2 : W.heap.size + 1 ∉ bs1 := fun hm => by have := H1.out.2.2 _ hm; omega
  refine bodyPost_ret (v := .agg #[.slice A1 n1 c1, .int .i64 k1]) (by simp [results, Try.results64, go_sem, m1, m2]) rfl ⟨_, _, _, _, bs1, rfl, Rep.keep _ H1.out.1 (((Keeps.refl _ _).setCell hn2 _).setCell hn2 _), H1.out.2.1, fun x hx => by have := H1.out.2.2 x hx; omega, (S1.setCell (by simp; try omega) _).setCell (by simp; try omega) _⟩
end Go.Proofs.Ytadmmlflngkpiaa

/- A variable replaced in a statement: l3Subst, SubstStmt of both sides. -/
namespace Go.Proofs.Ytadmmlflngkpiaa
open Go.ChangeShapes Go.WideShapes Go.ChangeAt Go.RowKit Go.Deep

theorem Row.new3 (w : World) (l1 l2 l3 : List Value) (t s u : TypeId) : Row (((w.alloc (.cells l1.toArray t)).alloc (.cells l2.toArray s)).alloc (.cells l3.toArray u)) (w.heap.size + 2) u l3 := by
  have h := Row.new ((w.alloc (.cells l1.toArray t)).alloc (.cells l2.toArray s)) l3 u
  rwa [size_al, size_al] at h
set_option maxRecDepth 100000 in
set_option maxHeartbeats 8000000 in
theorem l3Subst_c {w : World} {x : Stm} {a : Aff} {v : Int} {cs : List Value} {bs ba : List Nat} {Aa : Option Addr} {na ca : Nat} {F : Aff → Aff} (hF : F = fun t => substF t v.toNat a) (h : Rep w x.d cs bs) (haa : Rep w a.d [.slice Aa na ca, .int .i64 a.const] ba) (hok : affOk a = true) (h0 : 0 ≤ v) (h4 : v < 4) (ha : ∀ t ∈ x.write.subs, affOk t = true) (hl : x.write.subs.length ≤ 1000000) (hx : exAll affOk x.value = true) :
    Calls Try.prog 61 #[.agg cs.toArray, .int .i64 v, .agg #[.slice Aa na ca, .int .i64 a.const]] w (MadeStm w (mapStm F x)) := by
  have HA := Lib.hid ha; clear ha
  have HX := Lib.hid hx; clear hx
  have HAA := Lib.hid haa; clear haa
  have HF := Lib.hid hF; clear hF
  have HV := Lib.hid (And.intro hok (And.intro h0 h4)); clear hok h0 h4
  obtain ⟨A2, c2, A5, c5, A8, c8, A9, c9, d2, d5, d8, d9, rfl, rfl, g1, g2, g3, g4, g5, g6, g7, g8, g9⟩ := Rep.stm_iff.1 h
  have Gwrite := Lib.hid ((Rep.acc_iff (x := x.write)).2 ⟨_, _, _, rfl, rfl, g1, g2⟩)
  have Gvalue := Lib.hid ((Rep.ex_iff (x := x.value)).2 ⟨_, _, _, _, _, _, _, _, _, rfl, rfl, g3, g4, g5, g6, g7, g8, g9⟩)
  clear h g1 g2 g3 g4 g5 g6 g7 g8 g9
  have b0 : Below w.heap.size w (((w.alloc (.cells #[.string x.write.arr, .slice A2 x.write.subs.length c2, .int .i64 x.value.kind, .int .i64 x.value.num, .slice A5 x.value.index.coefs.length c5, .int .i64 x.value.index.const, .string x.value.read.arr, .slice A8 x.value.read.subs.length c8, .slice A9 x.value.kids.length c9] 52)).alloc (.cells #[.slice Aa na ca, .int .i64 a.const] 47)).alloc (.cells #[.string ⟨#[]⟩, .slice none 0 0, .int .i64 0, .int .i64 0, .slice none 0 0, .int .i64 0, .string ⟨#[]⟩, .slice none 0 0, .slice none 0 0] 52)) := bel
  have HZ0 := Lib.hid (Row.new3 w [.string x.write.arr, .slice A2 x.write.subs.length c2, .int .i64 x.value.kind, .int .i64 x.value.num, .slice A5 x.value.index.coefs.length c5, .int .i64 x.value.index.const, .string x.value.read.arr, .slice A8 x.value.read.subs.length c8, .slice A9 x.value.kids.length c9] [.slice Aa na ca, .int .i64 a.const] [.string ⟨#[]⟩, .slice none 0 0, .int .i64 0, .int .i64 0, .slice none 0 0, .int .i64 0, .string ⟨#[]⟩, .slice none 0 0, .slice none 0 0] 52 47 52)
  go_enter Try.func61, Try.ntmps61
  go_wp2_with fail
  refine wp_region_noPanic ?_
  refine wp_regionT (S := fun w' => Box9 w' w.heap.size (.string x.write.arr) (.slice A2 x.write.subs.length c2) (.int .i64 x.value.kind) (.int .i64 x.value.num) (.slice A5 x.value.index.coefs.length c5) (.int .i64 x.value.index.const) (.string x.value.read.arr) (.slice A8 x.value.read.subs.length c8) (.slice A9 x.value.kids.length c9) ∧ Box2 w' (w.heap.size + 1) (.slice Aa na ca) (.int .i64 a.const)) 11 (by kernel_rfl) (⟨⟨by go_simp, by go_simp, by go_simp, by go_simp, by go_simp, by go_simp, by go_simp, by go_simp, by go_simp⟩, by go_simp, by go_simp⟩) (fun hHeld => ?_)
  refine goU 0 (fun _ => hHeld) ?_
  refine goT 1 hHeld ?_
  refine goU 2 (fun _ => hHeld) ?_
  refine goT 3 hHeld ?_
  refine goU 5 (fun _ => hHeld) ?_
  refine goT 6 hHeld ?_
  refine goU 7 (fun _ => hHeld) ?_
  refine goT 8 hHeld ?_
  refine readyT (rs := [4]) (by kernel_rfl) (by simp) (all1 ?_)
  refine opT (i := 4) rfl (wanted_none rfl) (fun K hK => ?_)
  go_simp
  (refine (l3SubstAccess_c (Gwrite.out.below bel) hl (HAA.out.below bel) HV.out.1 HV.out.2.1 HV.out.2.2 HA.out).mono ?_; rw [← HF.out]; rintro e w3 ⟨Y1, y1, bs1, rfl, r1, nd1, hb1, b1⟩; have B1 : Below w.heap.size w w3 := bel; have R1 := Lib.hid r1; have L1 := Lib.hid (Rep.lt _ r1); have M1 := Lib.hid hb1; clear r1 hb1)
  go_wp2_with fail
  refine hK.out _ _ (⟨hHeld.1.to b1, hHeld.2.to b1⟩) (fun hHeld => ?_)
  clear hK K
  try simp only [Act.put, List.setIfInBounds_toArray, List.set_cons_zero, List.set_cons_succ]
  refine readyT (rs := [9]) (by kernel_rfl) (by simp) (all1 ?_)
  refine opT (i := 9) rfl (wanted_none rfl) (fun K hK => ?_)
  go_simp
  (refine (l3SubstExpr_c HF.out HV.out.1 HV.out.2.1 HV.out.2.2 x.value _ _ _ _ _ _ _ (Gvalue.out.below bel) (HAA.out.below bel) HX.out).mono ?_; rintro e w7 ⟨X3, z3, X6, z6, X7, z7, bs2, rfl, r2, nd2, hb2, b2⟩; have B2 : Below w.heap.size w w7 := bel; have R2 := Lib.hid r2; have L2 := Lib.hid (Rep.lt _ r2); have M2 := Lib.hid hb2; clear r2 hb2; have HZ := Lib.hid ((HZ0.out.of_block (b1.block (w.heap.size + 2) (by simp))).to b2); obtain ⟨q0, q1, q2, q3, q4, q5, q6, q7, q8⟩ := HZ.out.box9; have f0 := HZ.out.frozen 0; have f1 := HZ.out.frozen 1; have f2 := HZ.out.frozen 2; have f3 := HZ.out.frozen 3; have f4 := HZ.out.frozen 4; have f5 := HZ.out.frozen 5; have f6 := HZ.out.frozen 6; have f7 := HZ.out.frozen 7; have f8 := HZ.out.frozen 8; have lz := lt_of_cell q0)
  go_wp2_with fail
  refine hK.out _ _ (⟨hHeld.1.to b2, hHeld.2.to b2⟩) (fun hHeld => ?_)
  clear hK K
  try simp only [Act.put, List.setIfInBounds_toArray, List.set_cons_zero, List.set_cons_succ]
  refine goU 10 (fun _ => hHeld) ?_
  refine readyT (rs := [11]) (by kernel_rfl) (by simp) (all1 ?_)
  refine opTT (i := 11) rfl (wanted_none rfl) (by kernel_rfl) (fun K hK => ?_)
  (unfold Oper.wp; go_simp)
  refine hK.out _ _ ?_
  clear hK K
  try simp only [Act.put, List.setIfInBounds_toArray, List.set_cons_zero, List.set_cons_succ]
  refine wpAnyT_done (by kernel_rfl) ?_ _
  refine NoPanic.normal ?_
  (skip)
  go_wp2
  have ND := two_new nd1 nd2 (W := w.heap.size + 3) (N := w3.heap.size) (fun y hy => by have := M1.out y hy; simp at this; omega) L1.out M2.out (by have := b1.size; simp at this; omega)
  have hnb : w.heap.size + 2 ∉ bs1 ++ bs2 := fun hm => by have := ND.2.2.1 _ hm; omega
  obtain ⟨Wf, hWf⟩ : ∃ Wf, Wf = (((((((((w7.setCell ⟨w.heap.size + 2, 0, none⟩ (.string (mapAcc F x.write).arr)).setCell ⟨w.heap.size + 2, 1, none⟩ (.slice Y1 (mapAcc F x.write).subs.length y1)).setCell ⟨w.heap.size + 2, 2, none⟩ (.int .i64 (mapEx F x.value).kind)).setCell ⟨w.heap.size + 2, 3, none⟩ (.int .i64 (mapEx F x.value).num)).setCell ⟨w.heap.size + 2, 4, none⟩ (.slice X3 (mapEx F x.value).index.coefs.length z3)).setCell ⟨w.heap.size + 2, 5, none⟩ (.int .i64 (mapEx F x.value).index.const)).setCell ⟨w.heap.size + 2, 6, none⟩ (.string (mapEx F x.value).read.arr)).setCell ⟨w.heap.size + 2, 7, none⟩ (.slice X6 (mapEx F x.value).read.subs.length z6)).setCell ⟨w.heap.size + 2, 8, none⟩ (.slice X7 (mapEx F x.value).kids.length z7)) := ⟨_, rfl⟩
  rw [← hWf]
  obtain ⟨⟨p0, p1, p2, p3, p4, p5, p6, p7, p8⟩, KF, BF⟩ := store9 HZ.out.box9 hWf
  clear hWf
  refine bodyPost_ret (v := .agg #[.string (mapAcc F x.write).arr, .slice Y1 (mapAcc F x.write).subs.length y1, .int .i64 (mapEx F x.value).kind, .int .i64 (mapEx F x.value).num, .slice X3 (mapEx F x.value).index.coefs.length z3, .int .i64 (mapEx F x.value).index.const, .string (mapEx F x.value).read.arr, .slice X6 (mapEx F x.value).read.subs.length z6, .slice X7 (mapEx F x.value).kids.length z7]) ?_ rfl ?_
  · simp [results, Try.results61, go_sem, p0, p1, p2, p3, p4, p5, p6, p7, p8]
  refine MadeStm.of ⟨_, bs1 ++ bs2, rfl, Rep.keep _ (Stm.rep_of (x := mapStm F x) (R1.out.below b2) R2.out) (KF _ hnb), ND.1, fun y hy => by have := ND.2.2.1 y hy; omega, BF _ _ B2 (by omega)⟩
set_option maxRecDepth 100000 in
set_option maxHeartbeats 8000000 in
theorem implSubstStmt_k {w : World} {x : Stm} {a : Aff} {v : Int} {cs : List Value} {bs ba : List Nat} {Aa : Option Addr} {na ca : Nat} (h : Rep w x.d cs bs) (haa : Rep w a.d [.slice Aa na ca, .int .i64 a.const] ba) :
    Calls Try.prog 29 #[.agg cs.toArray, .int .i64 v, .agg #[.slice Aa na ca, .int .i64 a.const]] w (MadeStmB w (SubstStmtF x v a).1 (SubstStmtF x v a).2) := by
  have HH := Lib.hid h
  have HAA := Lib.hid haa; clear haa
  obtain ⟨y, hy⟩ : ∃ y, mapStm (fun t => substF t v.toNat a) x = y := ⟨_, rfl⟩
  have HY := Lib.hid hy; clear hy
  obtain ⟨A2, c2, A5, c5, A8, c8, A9, c9, d2, d5, d8, d9, rfl, rfl, g1, g2, g3, g4, g5, g6, g7, g8, g9⟩ := Rep.stm_iff.1 h
  have Gwrite := Lib.hid ((Rep.acc_iff (x := x.write)).2 ⟨_, _, _, rfl, rfl, g1, g2⟩)
  have Gvalue := Lib.hid ((Rep.ex_iff (x := x.value)).2 ⟨_, _, _, _, _, _, _, _, _, rfl, rfl, g3, g4, g5, g6, g7, g8, g9⟩)
  clear h g1 g2 g3 g4 g5 g6 g7 g8 g9
  go_enter Try.func29, Try.ntmps29
  go_wp2_with fail
  refine (isStmt_c (HH.out.below bel)).mono ?_
  rintro e w1 ⟨rfl, b1⟩
  have P1 : Box9 w1 w.heap.size (.string x.write.arr) (.slice A2 x.write.subs.length c2) (.int .i64 x.value.kind) (.int .i64 x.value.num) (.slice A5 x.value.index.coefs.length c5) (.int .i64 x.value.index.const) (.string x.value.read.arr) (.slice A8 x.value.read.subs.length c8) (.slice A9 x.value.kids.length c9) := by
    refine ⟨?_, ?_, ?_, ?_, ?_, ?_, ?_, ?_, ?_⟩ <;> (rw [b1.cell (by simp [World.setCell]; try omega)]; go_simp)
  have V1 : Box1 w1 (w.heap.size + 1) (.int .i64 v) := by
    show w1.cell? _ = _; rw [b1.cell (by simp [World.setCell]; try omega)]; go_simp
  have Q1 : Box2 w1 (w.heap.size + 2) (.slice Aa na ca) (.int .i64 a.const) := by
    refine ⟨?_, ?_⟩ <;> (rw [b1.cell (by simp [World.setCell]; try omega)]; go_simp)
  have FR1 : w1.frozen? ⟨(w.heap.size + 3), 0, none⟩ = false ∧ w1.frozen? ⟨(w.heap.size + 3), 1, none⟩ = false ∧ w1.frozen? ⟨(w.heap.size + 3), 2, none⟩ = false ∧ w1.frozen? ⟨(w.heap.size + 3), 3, none⟩ = false ∧ w1.frozen? ⟨(w.heap.size + 3), 4, none⟩ = false ∧ w1.frozen? ⟨(w.heap.size + 3), 5, none⟩ = false ∧ w1.frozen? ⟨(w.heap.size + 3), 6, none⟩ = false ∧ w1.frozen? ⟨(w.heap.size + 3), 7, none⟩ = false ∧ w1.frozen? ⟨(w.heap.size + 3), 8, none⟩ = false := by
    refine ⟨?_, ?_, ?_, ?_, ?_, ?_, ?_, ?_, ?_⟩ <;> (rw [b1.frozen (by simp [World.setCell]; try omega)]; go_simp)
  have R1 : Box9 w1 (w.heap.size + 3) (.string ⟨#[]⟩) (.slice none 0 0) (.int .i64 0) (.int .i64 0) (.slice none 0 0) (.int .i64 0) (.string ⟨#[]⟩) (.slice none 0 0) (.slice none 0 0) := by
    refine ⟨?_, ?_, ?_, ?_, ?_, ?_, ?_, ?_, ?_⟩ <;> (rw [b1.cell (by simp [World.setCell]; try omega)]; go_simp)
  have S1 : Below w.heap.size w w1 := bel
  clear b1
  cases hv : StmtValidF x 4 with
  | false =>
    have HE := Lib.hid (SubstStmtF_1 (v := v) (a := a) hv); clear hv
    go_wp2
    obtain ⟨Wf, hWf⟩ : ∃ Wf, Wf = ((((((((w1.setCell ⟨w.heap.size + 3, 0, none⟩ (.string ⟨#[]⟩)).setCell ⟨w.heap.size + 3, 1, none⟩ (.slice none 0 0)).setCell ⟨w.heap.size + 3, 2, none⟩ (.int .i64 0)).setCell ⟨w.heap.size + 3, 3, none⟩ (.int .i64 0)).setCell ⟨w.heap.size + 3, 4, none⟩ (.slice none 0 0)).setCell ⟨w.heap.size + 3, 5, none⟩ (.int .i64 0)).setCell ⟨w.heap.size + 3, 6, none⟩ (.string ⟨#[]⟩)).setCell ⟨w.heap.size + 3, 7, none⟩ (.slice none 0 0)).setCell ⟨w.heap.size + 3, 8, none⟩ (.slice none 0 0) := ⟨_, rfl⟩
    rw [← hWf]
    obtain ⟨⟨p0, p1, p2, p3, p4, p5, p6, p7, p8⟩, KF, BF⟩ := store9 R1 hWf
    clear hWf
    refine bodyPost_ret (v := .tuple #[.agg #[.string ⟨#[]⟩, .slice none 0 0, .int .i64 0, .int .i64 0, .slice none 0 0, .int .i64 0, .string ⟨#[]⟩, .slice none 0 0, .slice none 0 0], .bool false]) ?_ rfl ?_
    · simp [results, Try.results29, go_sem, p0, p1, p2, p3, p4, p5, p6, p7, p8]
    rw [HE.out]
    exact MadeStmB.zero (BF _ _ S1 (by omega))
  | true =>
  have HV := Lib.hid hv; clear hv
  go_wp2_with fail
  refine (implAffineValid_c (HAA.out.below bel)).mono ?_
  rintro e w2 ⟨rfl, b2⟩
  have s2 : Below w1.heap.size w1 w2 := bel
  have P2 := P1.to s2; clear P1
  have V2 := V1.to s2; clear V1
  have Q2 := Q1.to s2; clear Q1
  have FR2 : w2.frozen? ⟨(w.heap.size + 3), 0, none⟩ = false ∧ w2.frozen? ⟨(w.heap.size + 3), 1, none⟩ = false ∧ w2.frozen? ⟨(w.heap.size + 3), 2, none⟩ = false ∧ w2.frozen? ⟨(w.heap.size + 3), 3, none⟩ = false ∧ w2.frozen? ⟨(w.heap.size + 3), 4, none⟩ = false ∧ w2.frozen? ⟨(w.heap.size + 3), 5, none⟩ = false ∧ w2.frozen? ⟨(w.heap.size + 3), 6, none⟩ = false ∧ w2.frozen? ⟨(w.heap.size + 3), 7, none⟩ = false ∧ w2.frozen? ⟨(w.heap.size + 3), 8, none⟩ = false := ⟨(s2.frozen (p := ⟨(w.heap.size + 3), 0, none⟩) (lt_of_cell R1.1)).trans FR1.1, (s2.frozen (p := ⟨(w.heap.size + 3), 1, none⟩) (lt_of_cell R1.1)).trans FR1.2.1, (s2.frozen (p := ⟨(w.heap.size + 3), 2, none⟩) (lt_of_cell R1.1)).trans FR1.2.2.1, (s2.frozen (p := ⟨(w.heap.size + 3), 3, none⟩) (lt_of_cell R1.1)).trans FR1.2.2.2.1, (s2.frozen (p := ⟨(w.heap.size + 3), 4, none⟩) (lt_of_cell R1.1)).trans FR1.2.2.2.2.1, (s2.frozen (p := ⟨(w.heap.size + 3), 5, none⟩) (lt_of_cell R1.1)).trans FR1.2.2.2.2.2.1, (s2.frozen (p := ⟨(w.heap.size + 3), 6, none⟩) (lt_of_cell R1.1)).trans FR1.2.2.2.2.2.2.1, (s2.frozen (p := ⟨(w.heap.size + 3), 7, none⟩) (lt_of_cell R1.1)).trans FR1.2.2.2.2.2.2.2.1, (s2.frozen (p := ⟨(w.heap.size + 3), 8, none⟩) (lt_of_cell R1.1)).trans FR1.2.2.2.2.2.2.2.2⟩; clear FR1
  have R2 := R1.to s2; clear R1
  have S2 : Below w.heap.size w w2 := below_tr S1 s2
  clear s2
  clear b2
  cases hv : affOk a with
  | false =>
    have HE := Lib.hid (SubstStmtF_2 (x := x) (v := v) hv); clear hv
    go_wp2
    obtain ⟨Wf, hWf⟩ : ∃ Wf, Wf = ((((((((w2.setCell ⟨w.heap.size + 3, 0, none⟩ (.string ⟨#[]⟩)).setCell ⟨w.heap.size + 3, 1, none⟩ (.slice none 0 0)).setCell ⟨w.heap.size + 3, 2, none⟩ (.int .i64 0)).setCell ⟨w.heap.size + 3, 3, none⟩ (.int .i64 0)).setCell ⟨w.heap.size + 3, 4, none⟩ (.slice none 0 0)).setCell ⟨w.heap.size + 3, 5, none⟩ (.int .i64 0)).setCell ⟨w.heap.size + 3, 6, none⟩ (.string ⟨#[]⟩)).setCell ⟨w.heap.size + 3, 7, none⟩ (.slice none 0 0)).setCell ⟨w.heap.size + 3, 8, none⟩ (.slice none 0 0) := ⟨_, rfl⟩
    rw [← hWf]
    obtain ⟨⟨p0, p1, p2, p3, p4, p5, p6, p7, p8⟩, KF, BF⟩ := store9 R2 hWf
    clear hWf
    refine bodyPost_ret (v := .tuple #[.agg #[.string ⟨#[]⟩, .slice none 0 0, .int .i64 0, .int .i64 0, .slice none 0 0, .int .i64 0, .string ⟨#[]⟩, .slice none 0 0, .slice none 0 0], .bool false]) ?_ rfl ?_
    · simp [results, Try.results29, go_sem, p0, p1, p2, p3, p4, p5, p6, p7, p8]
    rw [HE.out]
    exact MadeStmB.zero (BF _ _ S2 (by omega))
  | true =>
  have HOK := Lib.hid hv; clear hv
  cases hv : inB v 0 3 with
  | false =>
    have HE := Lib.hid (SubstStmtF_3 (x := x) (a := a) hv)
    have HX := Lib.hid (show isVarB v = false from hv); clear hv
    go_wp2_with fail
    refine (isVar_c _ _).mono ?_
    rintro e w9 ⟨rfl, rfl⟩
    rw [HX.out]
    go_wp2
    obtain ⟨Wf, hWf⟩ : ∃ Wf, Wf = ((((((((w2.setCell ⟨w.heap.size + 3, 0, none⟩ (.string ⟨#[]⟩)).setCell ⟨w.heap.size + 3, 1, none⟩ (.slice none 0 0)).setCell ⟨w.heap.size + 3, 2, none⟩ (.int .i64 0)).setCell ⟨w.heap.size + 3, 3, none⟩ (.int .i64 0)).setCell ⟨w.heap.size + 3, 4, none⟩ (.slice none 0 0)).setCell ⟨w.heap.size + 3, 5, none⟩ (.int .i64 0)).setCell ⟨w.heap.size + 3, 6, none⟩ (.string ⟨#[]⟩)).setCell ⟨w.heap.size + 3, 7, none⟩ (.slice none 0 0)).setCell ⟨w.heap.size + 3, 8, none⟩ (.slice none 0 0) := ⟨_, rfl⟩
    rw [← hWf]
    obtain ⟨⟨p0, p1, p2, p3, p4, p5, p6, p7, p8⟩, KF, BF⟩ := store9 R2 hWf
    clear hWf
    refine bodyPost_ret (v := .tuple #[.agg #[.string ⟨#[]⟩, .slice none 0 0, .int .i64 0, .int .i64 0, .slice none 0 0, .int .i64 0, .string ⟨#[]⟩, .slice none 0 0, .slice none 0 0], .bool false]) ?_ rfl ?_
    · simp [results, Try.results29, go_sem, p0, p1, p2, p3, p4, p5, p6, p7, p8]
    rw [HE.out]
    exact MadeStmB.zero (BF _ _ S2 (by omega))
  | true =>
  have HIN := Lib.hid hv
  have HX := Lib.hid (show isVarB v = true from hv)
  have HX0 := Lib.hid (show 0 ≤ v ∧ v < 4 by have := inB_iff.1 hv; omega); clear hv
  have HS := Lib.hid (stm_ok HV.out)
  go_wp2_with fail
  refine (isVar_c _ _).mono ?_
  rintro e w9 ⟨rfl, rfl⟩
  rw [HX.out]
  have HZ2 := Lib.hid (show w.heap.size + 4 ≤ w2.heap.size from lt_of_cell R2.1)
  go_wp2_with fail
  refine (stmtMap_c (p := affOk) (F := fun t => substF t v.toNat a) (HH.out.below bel) substCl_e (fun t ht => substCl_c V2 Q2 (HAA.out.below bel) HOK.out HX0.out.1 HX0.out.2 t ht) HS.out.1 HS.out.2.1 HS.out.2.2).mono ?_
  rintro e w3 ⟨Y2, y2, Y5, y5, Y8, y8, Y9, y9, bs1, he, r1, nd1, hb1, b3⟩
  have s3 : Below w2.heap.size w2 w3 := bel
  have P3 := P2.to s3; clear P2
  have V3 := V2.to s3; clear V2
  have Q3 := Q2.to s3; clear Q2
  have FR3 : w3.frozen? ⟨(w.heap.size + 3), 0, none⟩ = false ∧ w3.frozen? ⟨(w.heap.size + 3), 1, none⟩ = false ∧ w3.frozen? ⟨(w.heap.size + 3), 2, none⟩ = false ∧ w3.frozen? ⟨(w.heap.size + 3), 3, none⟩ = false ∧ w3.frozen? ⟨(w.heap.size + 3), 4, none⟩ = false ∧ w3.frozen? ⟨(w.heap.size + 3), 5, none⟩ = false ∧ w3.frozen? ⟨(w.heap.size + 3), 6, none⟩ = false ∧ w3.frozen? ⟨(w.heap.size + 3), 7, none⟩ = false ∧ w3.frozen? ⟨(w.heap.size + 3), 8, none⟩ = false := ⟨(s3.frozen (p := ⟨(w.heap.size + 3), 0, none⟩) (lt_of_cell R2.1)).trans FR2.1, (s3.frozen (p := ⟨(w.heap.size + 3), 1, none⟩) (lt_of_cell R2.1)).trans FR2.2.1, (s3.frozen (p := ⟨(w.heap.size + 3), 2, none⟩) (lt_of_cell R2.1)).trans FR2.2.2.1, (s3.frozen (p := ⟨(w.heap.size + 3), 3, none⟩) (lt_of_cell R2.1)).trans FR2.2.2.2.1, (s3.frozen (p := ⟨(w.heap.size + 3), 4, none⟩) (lt_of_cell R2.1)).trans FR2.2.2.2.2.1, (s3.frozen (p := ⟨(w.heap.size + 3), 5, none⟩) (lt_of_cell R2.1)).trans FR2.2.2.2.2.2.1, (s3.frozen (p := ⟨(w.heap.size + 3), 6, none⟩) (lt_of_cell R2.1)).trans FR2.2.2.2.2.2.2.1, (s3.frozen (p := ⟨(w.heap.size + 3), 7, none⟩) (lt_of_cell R2.1)).trans FR2.2.2.2.2.2.2.2.1, (s3.frozen (p := ⟨(w.heap.size + 3), 8, none⟩) (lt_of_cell R2.1)).trans FR2.2.2.2.2.2.2.2.2⟩; clear FR2
  have R3 := R2.to s3; clear R2
  have S3 : Below w.heap.size w w3 := below_tr S2 s3
  clear s3
  clear b3
  rw [HY.out] at he r1
  subst he
  have R1 := Lib.hid r1
  have HB1 := Lib.hid (And.intro nd1 (show ∀ z ∈ bs1, w.heap.size + 4 ≤ z from fun z hz => Nat.le_trans HZ2.out (hb1 z hz)))
  clear r1 nd1 hb1
  go_wp2_with fail
  refine (isStmt_c (R1.out.below bel)).mono ?_
  rintro e w4 ⟨rfl, b4⟩
  have T4 : Box9 w4 w3.heap.size (.string y.write.arr) (.slice Y2 y.write.subs.length y2) (.int .i64 y.value.kind) (.int .i64 y.value.num) (.slice Y5 y.value.index.coefs.length y5) (.int .i64 y.value.index.const) (.string y.value.read.arr) (.slice Y8 y.value.read.subs.length y8) (.slice Y9 y.value.kids.length y9) := by
    refine ⟨?_, ?_, ?_, ?_, ?_, ?_, ?_, ?_, ?_⟩ <;> (rw [b4.cell (by simp [World.setCell]; try omega)]; go_simp)
  have s4 : Below w3.heap.size w3 w4 := bel
  have P4 := P3.to s4; clear P3
  have V4 := V3.to s4; clear V3
  have Q4 := Q3.to s4; clear Q3
  have FR4 : w4.frozen? ⟨(w.heap.size + 3), 0, none⟩ = false ∧ w4.frozen? ⟨(w.heap.size + 3), 1, none⟩ = false ∧ w4.frozen? ⟨(w.heap.size + 3), 2, none⟩ = false ∧ w4.frozen? ⟨(w.heap.size + 3), 3, none⟩ = false ∧ w4.frozen? ⟨(w.heap.size + 3), 4, none⟩ = false ∧ w4.frozen? ⟨(w.heap.size + 3), 5, none⟩ = false ∧ w4.frozen? ⟨(w.heap.size + 3), 6, none⟩ = false ∧ w4.frozen? ⟨(w.heap.size + 3), 7, none⟩ = false ∧ w4.frozen? ⟨(w.heap.size + 3), 8, none⟩ = false := ⟨(s4.frozen (p := ⟨(w.heap.size + 3), 0, none⟩) (lt_of_cell R3.1)).trans FR3.1, (s4.frozen (p := ⟨(w.heap.size + 3), 1, none⟩) (lt_of_cell R3.1)).trans FR3.2.1, (s4.frozen (p := ⟨(w.heap.size + 3), 2, none⟩) (lt_of_cell R3.1)).trans FR3.2.2.1, (s4.frozen (p := ⟨(w.heap.size + 3), 3, none⟩) (lt_of_cell R3.1)).trans FR3.2.2.2.1, (s4.frozen (p := ⟨(w.heap.size + 3), 4, none⟩) (lt_of_cell R3.1)).trans FR3.2.2.2.2.1, (s4.frozen (p := ⟨(w.heap.size + 3), 5, none⟩) (lt_of_cell R3.1)).trans FR3.2.2.2.2.2.1, (s4.frozen (p := ⟨(w.heap.size + 3), 6, none⟩) (lt_of_cell R3.1)).trans FR3.2.2.2.2.2.2.1, (s4.frozen (p := ⟨(w.heap.size + 3), 7, none⟩) (lt_of_cell R3.1)).trans FR3.2.2.2.2.2.2.2.1, (s4.frozen (p := ⟨(w.heap.size + 3), 8, none⟩) (lt_of_cell R3.1)).trans FR3.2.2.2.2.2.2.2.2⟩; clear FR3
  have R4 := R3.to s4; clear R3
  have S4 : Below w.heap.size w w4 := below_tr S3 s4
  clear s4
  have R4' := Lib.hid (R1.out.below (below_tr ((Below.refl _ _).alloc (Nat.le_refl _) _) b4)); clear b4
  cases hv : StmtValidF y 4 with
  | false =>
    have HE := Lib.hid (SubstStmtF_4 HY.out hv); clear hv
    go_wp2
    obtain ⟨Wf, hWf⟩ : ∃ Wf, Wf = ((((((((w4.setCell ⟨w.heap.size + 3, 0, none⟩ (.string ⟨#[]⟩)).setCell ⟨w.heap.size + 3, 1, none⟩ (.slice none 0 0)).setCell ⟨w.heap.size + 3, 2, none⟩ (.int .i64 0)).setCell ⟨w.heap.size + 3, 3, none⟩ (.int .i64 0)).setCell ⟨w.heap.size + 3, 4, none⟩ (.slice none 0 0)).setCell ⟨w.heap.size + 3, 5, none⟩ (.int .i64 0)).setCell ⟨w.heap.size + 3, 6, none⟩ (.string ⟨#[]⟩)).setCell ⟨w.heap.size + 3, 7, none⟩ (.slice none 0 0)).setCell ⟨w.heap.size + 3, 8, none⟩ (.slice none 0 0) := ⟨_, rfl⟩
    rw [← hWf]
    obtain ⟨⟨p0, p1, p2, p3, p4, p5, p6, p7, p8⟩, KF, BF⟩ := store9 R4 hWf
    clear hWf
    refine bodyPost_ret (v := .tuple #[.agg #[.string ⟨#[]⟩, .slice none 0 0, .int .i64 0, .int .i64 0, .slice none 0 0, .int .i64 0, .string ⟨#[]⟩, .slice none 0 0, .slice none 0 0], .bool false]) ?_ rfl ?_
    · simp [results, Try.results29, go_sem, p0, p1, p2, p3, p4, p5, p6, p7, p8]
    rw [HE.out]
    exact MadeStmB.zero (BF _ _ S4 (by omega))
  | true =>
    have HE := Lib.hid (SubstStmtF_5 HV.out HOK.out HIN.out HY.out hv); clear hv
    go_wp2
    obtain ⟨Wf, hWf⟩ : ∃ Wf, Wf = ((((((((w4.setCell ⟨w.heap.size + 3, 0, none⟩ (.string y.write.arr)).setCell ⟨w.heap.size + 3, 1, none⟩ (.slice Y2 y.write.subs.length y2)).setCell ⟨w.heap.size + 3, 2, none⟩ (.int .i64 y.value.kind)).setCell ⟨w.heap.size + 3, 3, none⟩ (.int .i64 y.value.num)).setCell ⟨w.heap.size + 3, 4, none⟩ (.slice Y5 y.value.index.coefs.length y5)).setCell ⟨w.heap.size + 3, 5, none⟩ (.int .i64 y.value.index.const)).setCell ⟨w.heap.size + 3, 6, none⟩ (.string y.value.read.arr)).setCell ⟨w.heap.size + 3, 7, none⟩ (.slice Y8 y.value.read.subs.length y8)).setCell ⟨w.heap.size + 3, 8, none⟩ (.slice Y9 y.value.kids.length y9) := ⟨_, rfl⟩
    rw [← hWf]
    obtain ⟨⟨p0, p1, p2, p3, p4, p5, p6, p7, p8⟩, KF, BF⟩ := store9 R4 hWf
    clear hWf
    refine bodyPost_ret (v := .tuple #[.agg #[.string y.write.arr, .slice Y2 y.write.subs.length y2, .int .i64 y.value.kind, .int .i64 y.value.num, .slice Y5 y.value.index.coefs.length y5, .int .i64 y.value.index.const, .string y.value.read.arr, .slice Y8 y.value.read.subs.length y8, .slice Y9 y.value.kids.length y9], .bool true]) ?_ rfl ?_
    · simp [results, Try.results29, go_sem, p0, p1, p2, p3, p4, p5, p6, p7, p8]
    rw [HE.out]
    exact ⟨Y2, y2, Y5, y5, Y8, y8, Y9, y9, bs1, rfl, Rep.keep _ R4'.out (KF _ (fun hm => by have := HB1.out.2 _ hm; omega)), HB1.out.1, fun z hz => by have := HB1.out.2 z hz; omega, BF _ _ S4 (by omega)⟩
set_option maxRecDepth 100000 in
set_option maxHeartbeats 8000000 in
theorem specSubstStmt_k {w : World} {x : Stm} {a : Aff} {v : Int} {cs : List Value} {bs ba : List Nat} {Aa : Option Addr} {na ca : Nat} (h : Rep w x.d cs bs) (haa : Rep w a.d [.slice Aa na ca, .int .i64 a.const] ba) :
    Calls Try.prog 27 #[.agg cs.toArray, .int .i64 v, .agg #[.slice Aa na ca, .int .i64 a.const]] w (MadeStmB w (SubstStmtF x v a).1 (SubstStmtF x v a).2) := by
  have HH := Lib.hid h
  have HAA := Lib.hid haa; clear haa
  obtain ⟨y, hy⟩ : ∃ y, mapStm (fun t => substF t v.toNat a) x = y := ⟨_, rfl⟩
  have HY := Lib.hid hy; clear hy
  obtain ⟨A2, c2, A5, c5, A8, c8, A9, c9, d2, d5, d8, d9, rfl, rfl, g1, g2, g3, g4, g5, g6, g7, g8, g9⟩ := Rep.stm_iff.1 h
  have Gwrite := Lib.hid ((Rep.acc_iff (x := x.write)).2 ⟨_, _, _, rfl, rfl, g1, g2⟩)
  have Gvalue := Lib.hid ((Rep.ex_iff (x := x.value)).2 ⟨_, _, _, _, _, _, _, _, _, rfl, rfl, g3, g4, g5, g6, g7, g8, g9⟩)
  clear h g1 g2 g3 g4 g5 g6 g7 g8 g9
  go_enter Try.func27, Try.ntmps27
  go_wp2_with fail
  refine (specStmtValid_c (HH.out.below bel)).mono ?_
  rintro e w1 ⟨rfl, b1⟩
  have P1 : Box9 w1 w.heap.size (.string x.write.arr) (.slice A2 x.write.subs.length c2) (.int .i64 x.value.kind) (.int .i64 x.value.num) (.slice A5 x.value.index.coefs.length c5) (.int .i64 x.value.index.const) (.string x.value.read.arr) (.slice A8 x.value.read.subs.length c8) (.slice A9 x.value.kids.length c9) := by
    refine ⟨?_, ?_, ?_, ?_, ?_, ?_, ?_, ?_, ?_⟩ <;> (rw [b1.cell (by simp [World.setCell]; try omega)]; go_simp)
  have Q1 : Box2 w1 (w.heap.size + 1) (.slice Aa na ca) (.int .i64 a.const) := by
    refine ⟨?_, ?_⟩ <;> (rw [b1.cell (by simp [World.setCell]; try omega)]; go_simp)
  have FR1 : w1.frozen? ⟨(w.heap.size + 2), 0, none⟩ = false ∧ w1.frozen? ⟨(w.heap.size + 2), 1, none⟩ = false ∧ w1.frozen? ⟨(w.heap.size + 2), 2, none⟩ = false ∧ w1.frozen? ⟨(w.heap.size + 2), 3, none⟩ = false ∧ w1.frozen? ⟨(w.heap.size + 2), 4, none⟩ = false ∧ w1.frozen? ⟨(w.heap.size + 2), 5, none⟩ = false ∧ w1.frozen? ⟨(w.heap.size + 2), 6, none⟩ = false ∧ w1.frozen? ⟨(w.heap.size + 2), 7, none⟩ = false ∧ w1.frozen? ⟨(w.heap.size + 2), 8, none⟩ = false := by
    refine ⟨?_, ?_, ?_, ?_, ?_, ?_, ?_, ?_, ?_⟩ <;> (rw [b1.frozen (by simp [World.setCell]; try omega)]; go_simp)
  have R1 : Box9 w1 (w.heap.size + 2) (.string ⟨#[]⟩) (.slice none 0 0) (.int .i64 0) (.int .i64 0) (.slice none 0 0) (.int .i64 0) (.string ⟨#[]⟩) (.slice none 0 0) (.slice none 0 0) := by
    refine ⟨?_, ?_, ?_, ?_, ?_, ?_, ?_, ?_, ?_⟩ <;> (rw [b1.cell (by simp [World.setCell]; try omega)]; go_simp)
  have S1 : Below w.heap.size w w1 := bel
  clear b1
  cases hv : StmtValidF x 4 with
  | false =>
    have HE := Lib.hid (SubstStmtF_1 (v := v) (a := a) hv); clear hv
    go_wp2
    obtain ⟨Wf, hWf⟩ : ∃ Wf, Wf = ((((((((w1.setCell ⟨w.heap.size + 2, 0, none⟩ (.string ⟨#[]⟩)).setCell ⟨w.heap.size + 2, 1, none⟩ (.slice none 0 0)).setCell ⟨w.heap.size + 2, 2, none⟩ (.int .i64 0)).setCell ⟨w.heap.size + 2, 3, none⟩ (.int .i64 0)).setCell ⟨w.heap.size + 2, 4, none⟩ (.slice none 0 0)).setCell ⟨w.heap.size + 2, 5, none⟩ (.int .i64 0)).setCell ⟨w.heap.size + 2, 6, none⟩ (.string ⟨#[]⟩)).setCell ⟨w.heap.size + 2, 7, none⟩ (.slice none 0 0)).setCell ⟨w.heap.size + 2, 8, none⟩ (.slice none 0 0) := ⟨_, rfl⟩
    rw [← hWf]
    obtain ⟨⟨p0, p1, p2, p3, p4, p5, p6, p7, p8⟩, KF, BF⟩ := store9 R1 hWf
    clear hWf
    refine bodyPost_ret (v := .tuple #[.agg #[.string ⟨#[]⟩, .slice none 0 0, .int .i64 0, .int .i64 0, .slice none 0 0, .int .i64 0, .string ⟨#[]⟩, .slice none 0 0, .slice none 0 0], .bool false]) ?_ rfl ?_
    · simp [results, Try.results27, go_sem, p0, p1, p2, p3, p4, p5, p6, p7, p8]
    rw [HE.out]
    exact MadeStmB.zero (BF _ _ S1 (by omega))
  | true =>
  have HV := Lib.hid hv; clear hv
  go_wp2_with fail
  refine (specAffineValid_c (HAA.out.below bel)).mono ?_
  rintro e w2 ⟨rfl, b2⟩
  have s2 : Below w1.heap.size w1 w2 := bel
  have P2 := P1.to s2; clear P1
  have Q2 := Q1.to s2; clear Q1
  have FR2 : w2.frozen? ⟨(w.heap.size + 2), 0, none⟩ = false ∧ w2.frozen? ⟨(w.heap.size + 2), 1, none⟩ = false ∧ w2.frozen? ⟨(w.heap.size + 2), 2, none⟩ = false ∧ w2.frozen? ⟨(w.heap.size + 2), 3, none⟩ = false ∧ w2.frozen? ⟨(w.heap.size + 2), 4, none⟩ = false ∧ w2.frozen? ⟨(w.heap.size + 2), 5, none⟩ = false ∧ w2.frozen? ⟨(w.heap.size + 2), 6, none⟩ = false ∧ w2.frozen? ⟨(w.heap.size + 2), 7, none⟩ = false ∧ w2.frozen? ⟨(w.heap.size + 2), 8, none⟩ = false := ⟨(s2.frozen (p := ⟨(w.heap.size + 2), 0, none⟩) (lt_of_cell R1.1)).trans FR1.1, (s2.frozen (p := ⟨(w.heap.size + 2), 1, none⟩) (lt_of_cell R1.1)).trans FR1.2.1, (s2.frozen (p := ⟨(w.heap.size + 2), 2, none⟩) (lt_of_cell R1.1)).trans FR1.2.2.1, (s2.frozen (p := ⟨(w.heap.size + 2), 3, none⟩) (lt_of_cell R1.1)).trans FR1.2.2.2.1, (s2.frozen (p := ⟨(w.heap.size + 2), 4, none⟩) (lt_of_cell R1.1)).trans FR1.2.2.2.2.1, (s2.frozen (p := ⟨(w.heap.size + 2), 5, none⟩) (lt_of_cell R1.1)).trans FR1.2.2.2.2.2.1, (s2.frozen (p := ⟨(w.heap.size + 2), 6, none⟩) (lt_of_cell R1.1)).trans FR1.2.2.2.2.2.2.1, (s2.frozen (p := ⟨(w.heap.size + 2), 7, none⟩) (lt_of_cell R1.1)).trans FR1.2.2.2.2.2.2.2.1, (s2.frozen (p := ⟨(w.heap.size + 2), 8, none⟩) (lt_of_cell R1.1)).trans FR1.2.2.2.2.2.2.2.2⟩; clear FR1
  have R2 := R1.to s2; clear R1
  have S2 : Below w.heap.size w w2 := below_tr S1 s2
  clear s2
  clear b2
  cases hv : affOk a with
  | false =>
    have HE := Lib.hid (SubstStmtF_2 (x := x) (v := v) hv); clear hv
    go_wp2
    obtain ⟨Wf, hWf⟩ : ∃ Wf, Wf = ((((((((w2.setCell ⟨w.heap.size + 2, 0, none⟩ (.string ⟨#[]⟩)).setCell ⟨w.heap.size + 2, 1, none⟩ (.slice none 0 0)).setCell ⟨w.heap.size + 2, 2, none⟩ (.int .i64 0)).setCell ⟨w.heap.size + 2, 3, none⟩ (.int .i64 0)).setCell ⟨w.heap.size + 2, 4, none⟩ (.slice none 0 0)).setCell ⟨w.heap.size + 2, 5, none⟩ (.int .i64 0)).setCell ⟨w.heap.size + 2, 6, none⟩ (.string ⟨#[]⟩)).setCell ⟨w.heap.size + 2, 7, none⟩ (.slice none 0 0)).setCell ⟨w.heap.size + 2, 8, none⟩ (.slice none 0 0) := ⟨_, rfl⟩
    rw [← hWf]
    obtain ⟨⟨p0, p1, p2, p3, p4, p5, p6, p7, p8⟩, KF, BF⟩ := store9 R2 hWf
    clear hWf
    refine bodyPost_ret (v := .tuple #[.agg #[.string ⟨#[]⟩, .slice none 0 0, .int .i64 0, .int .i64 0, .slice none 0 0, .int .i64 0, .string ⟨#[]⟩, .slice none 0 0, .slice none 0 0], .bool false]) ?_ rfl ?_
    · simp [results, Try.results27, go_sem, p0, p1, p2, p3, p4, p5, p6, p7, p8]
    rw [HE.out]
    exact MadeStmB.zero (BF _ _ S2 (by omega))
  | true =>
  have HOK := Lib.hid hv; clear hv
  by_cases hv0 : v < 0
  case pos =>
    have HE := Lib.hid (SubstStmtF_3 (x := x) (v := v) (a := a) (by cases e : inB v 0 3 with | false => rfl | true => have := inB_iff.1 e; omega))
    go_wp2
    obtain ⟨Wf, hWf⟩ : ∃ Wf, Wf = ((((((((w2.setCell ⟨w.heap.size + 2, 0, none⟩ (.string ⟨#[]⟩)).setCell ⟨w.heap.size + 2, 1, none⟩ (.slice none 0 0)).setCell ⟨w.heap.size + 2, 2, none⟩ (.int .i64 0)).setCell ⟨w.heap.size + 2, 3, none⟩ (.int .i64 0)).setCell ⟨w.heap.size + 2, 4, none⟩ (.slice none 0 0)).setCell ⟨w.heap.size + 2, 5, none⟩ (.int .i64 0)).setCell ⟨w.heap.size + 2, 6, none⟩ (.string ⟨#[]⟩)).setCell ⟨w.heap.size + 2, 7, none⟩ (.slice none 0 0)).setCell ⟨w.heap.size + 2, 8, none⟩ (.slice none 0 0) := ⟨_, rfl⟩
    rw [← hWf]
    obtain ⟨⟨p0, p1, p2, p3, p4, p5, p6, p7, p8⟩, KF, BF⟩ := store9 R2 hWf
    clear hWf
    refine bodyPost_ret (v := .tuple #[.agg #[.string ⟨#[]⟩, .slice none 0 0, .int .i64 0, .int .i64 0, .slice none 0 0, .int .i64 0, .string ⟨#[]⟩, .slice none 0 0, .slice none 0 0], .bool false]) ?_ rfl ?_
    · simp [results, Try.results27, go_sem, p0, p1, p2, p3, p4, p5, p6, p7, p8]
    rw [HE.out]
    exact MadeStmB.zero (BF _ _ S2 (by omega))
  by_cases hv4 : 4 ≤ v
  case pos =>
    have HE := Lib.hid (SubstStmtF_3 (x := x) (v := v) (a := a) (by cases e : inB v 0 3 with | false => rfl | true => have := inB_iff.1 e; omega))
    go_wp2
    obtain ⟨Wf, hWf⟩ : ∃ Wf, Wf = ((((((((w2.setCell ⟨w.heap.size + 2, 0, none⟩ (.string ⟨#[]⟩)).setCell ⟨w.heap.size + 2, 1, none⟩ (.slice none 0 0)).setCell ⟨w.heap.size + 2, 2, none⟩ (.int .i64 0)).setCell ⟨w.heap.size + 2, 3, none⟩ (.int .i64 0)).setCell ⟨w.heap.size + 2, 4, none⟩ (.slice none 0 0)).setCell ⟨w.heap.size + 2, 5, none⟩ (.int .i64 0)).setCell ⟨w.heap.size + 2, 6, none⟩ (.string ⟨#[]⟩)).setCell ⟨w.heap.size + 2, 7, none⟩ (.slice none 0 0)).setCell ⟨w.heap.size + 2, 8, none⟩ (.slice none 0 0) := ⟨_, rfl⟩
    rw [← hWf]
    obtain ⟨⟨p0, p1, p2, p3, p4, p5, p6, p7, p8⟩, KF, BF⟩ := store9 R2 hWf
    clear hWf
    refine bodyPost_ret (v := .tuple #[.agg #[.string ⟨#[]⟩, .slice none 0 0, .int .i64 0, .int .i64 0, .slice none 0 0, .int .i64 0, .string ⟨#[]⟩, .slice none 0 0, .slice none 0 0], .bool false]) ?_ rfl ?_
    · simp [results, Try.results27, go_sem, p0, p1, p2, p3, p4, p5, p6, p7, p8]
    rw [HE.out]
    exact MadeStmB.zero (BF _ _ S2 (by omega))
  have HIN := Lib.hid (show inB v 0 3 = true from inB_iff.2 (by omega))
  have HX0 := Lib.hid (show 0 ≤ v ∧ v < 4 by omega)
  have HS := Lib.hid (stm_ok HV.out)
  have HZ2 := Lib.hid (show w.heap.size + 3 ≤ w2.heap.size from lt_of_cell R2.1)
  go_wp2_with fail
  refine (l3Subst_c (F := fun t => substF t v.toNat a) rfl (HH.out.below bel) (HAA.out.below bel) HOK.out HX0.out.1 HX0.out.2 HS.out.1 HS.out.2.1 HS.out.2.2).mono ?_
  rintro e w3 ⟨Y2, y2, Y5, y5, Y8, y8, Y9, y9, bs1, he, r1, nd1, hb1, b3⟩
  have s3 : Below w2.heap.size w2 w3 := bel
  have P3 := P2.to s3; clear P2
  have Q3 := Q2.to s3; clear Q2
  have FR3 : w3.frozen? ⟨(w.heap.size + 2), 0, none⟩ = false ∧ w3.frozen? ⟨(w.heap.size + 2), 1, none⟩ = false ∧ w3.frozen? ⟨(w.heap.size + 2), 2, none⟩ = false ∧ w3.frozen? ⟨(w.heap.size + 2), 3, none⟩ = false ∧ w3.frozen? ⟨(w.heap.size + 2), 4, none⟩ = false ∧ w3.frozen? ⟨(w.heap.size + 2), 5, none⟩ = false ∧ w3.frozen? ⟨(w.heap.size + 2), 6, none⟩ = false ∧ w3.frozen? ⟨(w.heap.size + 2), 7, none⟩ = false ∧ w3.frozen? ⟨(w.heap.size + 2), 8, none⟩ = false := ⟨(s3.frozen (p := ⟨(w.heap.size + 2), 0, none⟩) (lt_of_cell R2.1)).trans FR2.1, (s3.frozen (p := ⟨(w.heap.size + 2), 1, none⟩) (lt_of_cell R2.1)).trans FR2.2.1, (s3.frozen (p := ⟨(w.heap.size + 2), 2, none⟩) (lt_of_cell R2.1)).trans FR2.2.2.1, (s3.frozen (p := ⟨(w.heap.size + 2), 3, none⟩) (lt_of_cell R2.1)).trans FR2.2.2.2.1, (s3.frozen (p := ⟨(w.heap.size + 2), 4, none⟩) (lt_of_cell R2.1)).trans FR2.2.2.2.2.1, (s3.frozen (p := ⟨(w.heap.size + 2), 5, none⟩) (lt_of_cell R2.1)).trans FR2.2.2.2.2.2.1, (s3.frozen (p := ⟨(w.heap.size + 2), 6, none⟩) (lt_of_cell R2.1)).trans FR2.2.2.2.2.2.2.1, (s3.frozen (p := ⟨(w.heap.size + 2), 7, none⟩) (lt_of_cell R2.1)).trans FR2.2.2.2.2.2.2.2.1, (s3.frozen (p := ⟨(w.heap.size + 2), 8, none⟩) (lt_of_cell R2.1)).trans FR2.2.2.2.2.2.2.2.2⟩; clear FR2
  have R3 := R2.to s3; clear R2
  have S3 : Below w.heap.size w w3 := below_tr S2 s3
  clear s3
  clear b3
  rw [HY.out] at he r1
  subst he
  have R1 := Lib.hid r1
  have HB1 := Lib.hid (And.intro nd1 (show ∀ z ∈ bs1, w.heap.size + 3 ≤ z from fun z hz => Nat.le_trans HZ2.out (hb1 z hz)))
  clear r1 nd1 hb1
  go_wp2_with fail
  refine (specStmtValid_c (R1.out.below bel)).mono ?_
  rintro e w4 ⟨rfl, b4⟩
  have T4 : Box9 w4 w3.heap.size (.string y.write.arr) (.slice Y2 y.write.subs.length y2) (.int .i64 y.value.kind) (.int .i64 y.value.num) (.slice Y5 y.value.index.coefs.length y5) (.int .i64 y.value.index.const) (.string y.value.read.arr) (.slice Y8 y.value.read.subs.length y8) (.slice Y9 y.value.kids.length y9) := by
    refine ⟨?_, ?_, ?_, ?_, ?_, ?_, ?_, ?_, ?_⟩ <;> (rw [b4.cell (by simp [World.setCell]; try omega)]; go_simp)
  have s4 : Below w3.heap.size w3 w4 := bel
  have P4 := P3.to s4; clear P3
  have Q4 := Q3.to s4; clear Q3
  have FR4 : w4.frozen? ⟨(w.heap.size + 2), 0, none⟩ = false ∧ w4.frozen? ⟨(w.heap.size + 2), 1, none⟩ = false ∧ w4.frozen? ⟨(w.heap.size + 2), 2, none⟩ = false ∧ w4.frozen? ⟨(w.heap.size + 2), 3, none⟩ = false ∧ w4.frozen? ⟨(w.heap.size + 2), 4, none⟩ = false ∧ w4.frozen? ⟨(w.heap.size + 2), 5, none⟩ = false ∧ w4.frozen? ⟨(w.heap.size + 2), 6, none⟩ = false ∧ w4.frozen? ⟨(w.heap.size + 2), 7, none⟩ = false ∧ w4.frozen? ⟨(w.heap.size + 2), 8, none⟩ = false := ⟨(s4.frozen (p := ⟨(w.heap.size + 2), 0, none⟩) (lt_of_cell R3.1)).trans FR3.1, (s4.frozen (p := ⟨(w.heap.size + 2), 1, none⟩) (lt_of_cell R3.1)).trans FR3.2.1, (s4.frozen (p := ⟨(w.heap.size + 2), 2, none⟩) (lt_of_cell R3.1)).trans FR3.2.2.1, (s4.frozen (p := ⟨(w.heap.size + 2), 3, none⟩) (lt_of_cell R3.1)).trans FR3.2.2.2.1, (s4.frozen (p := ⟨(w.heap.size + 2), 4, none⟩) (lt_of_cell R3.1)).trans FR3.2.2.2.2.1, (s4.frozen (p := ⟨(w.heap.size + 2), 5, none⟩) (lt_of_cell R3.1)).trans FR3.2.2.2.2.2.1, (s4.frozen (p := ⟨(w.heap.size + 2), 6, none⟩) (lt_of_cell R3.1)).trans FR3.2.2.2.2.2.2.1, (s4.frozen (p := ⟨(w.heap.size + 2), 7, none⟩) (lt_of_cell R3.1)).trans FR3.2.2.2.2.2.2.2.1, (s4.frozen (p := ⟨(w.heap.size + 2), 8, none⟩) (lt_of_cell R3.1)).trans FR3.2.2.2.2.2.2.2.2⟩; clear FR3
  have R4 := R3.to s4; clear R3
  have S4 : Below w.heap.size w w4 := below_tr S3 s4
  clear s4
  have R4' := Lib.hid (R1.out.below (below_tr ((Below.refl _ _).alloc (Nat.le_refl _) _) b4)); clear b4
  cases hv : StmtValidF y 4 with
  | false =>
    have HE := Lib.hid (SubstStmtF_4 HY.out hv); clear hv
    go_wp2
    obtain ⟨Wf, hWf⟩ : ∃ Wf, Wf = ((((((((w4.setCell ⟨w.heap.size + 2, 0, none⟩ (.string ⟨#[]⟩)).setCell ⟨w.heap.size + 2, 1, none⟩ (.slice none 0 0)).setCell ⟨w.heap.size + 2, 2, none⟩ (.int .i64 0)).setCell ⟨w.heap.size + 2, 3, none⟩ (.int .i64 0)).setCell ⟨w.heap.size + 2, 4, none⟩ (.slice none 0 0)).setCell ⟨w.heap.size + 2, 5, none⟩ (.int .i64 0)).setCell ⟨w.heap.size + 2, 6, none⟩ (.string ⟨#[]⟩)).setCell ⟨w.heap.size + 2, 7, none⟩ (.slice none 0 0)).setCell ⟨w.heap.size + 2, 8, none⟩ (.slice none 0 0) := ⟨_, rfl⟩
    rw [← hWf]
    obtain ⟨⟨p0, p1, p2, p3, p4, p5, p6, p7, p8⟩, KF, BF⟩ := store9 R4 hWf
    clear hWf
    refine bodyPost_ret (v := .tuple #[.agg #[.string ⟨#[]⟩, .slice none 0 0, .int .i64 0, .int .i64 0, .slice none 0 0, .int .i64 0, .string ⟨#[]⟩, .slice none 0 0, .slice none 0 0], .bool false]) ?_ rfl ?_
    · simp [results, Try.results27, go_sem, p0, p1, p2, p3, p4, p5, p6, p7, p8]
    rw [HE.out]
    exact MadeStmB.zero (BF _ _ S4 (by omega))
  | true =>
    have HE := Lib.hid (SubstStmtF_5 HV.out HOK.out HIN.out HY.out hv); clear hv
    go_wp2
    obtain ⟨Wf, hWf⟩ : ∃ Wf, Wf = ((((((((w4.setCell ⟨w.heap.size + 2, 0, none⟩ (.string y.write.arr)).setCell ⟨w.heap.size + 2, 1, none⟩ (.slice Y2 y.write.subs.length y2)).setCell ⟨w.heap.size + 2, 2, none⟩ (.int .i64 y.value.kind)).setCell ⟨w.heap.size + 2, 3, none⟩ (.int .i64 y.value.num)).setCell ⟨w.heap.size + 2, 4, none⟩ (.slice Y5 y.value.index.coefs.length y5)).setCell ⟨w.heap.size + 2, 5, none⟩ (.int .i64 y.value.index.const)).setCell ⟨w.heap.size + 2, 6, none⟩ (.string y.value.read.arr)).setCell ⟨w.heap.size + 2, 7, none⟩ (.slice Y8 y.value.read.subs.length y8)).setCell ⟨w.heap.size + 2, 8, none⟩ (.slice Y9 y.value.kids.length y9) := ⟨_, rfl⟩
    rw [← hWf]
    obtain ⟨⟨p0, p1, p2, p3, p4, p5, p6, p7, p8⟩, KF, BF⟩ := store9 R4 hWf
    clear hWf
    refine bodyPost_ret (v := .tuple #[.agg #[.string y.write.arr, .slice Y2 y.write.subs.length y2, .int .i64 y.value.kind, .int .i64 y.value.num, .slice Y5 y.value.index.coefs.length y5, .int .i64 y.value.index.const, .string y.value.read.arr, .slice Y8 y.value.read.subs.length y8, .slice Y9 y.value.kids.length y9], .bool true]) ?_ rfl ?_
    · simp [results, Try.results27, go_sem, p0, p1, p2, p3, p4, p5, p6, p7, p8]
    rw [HE.out]
    exact ⟨Y2, y2, Y5, y5, Y8, y8, Y9, y9, bs1, rfl, Rep.keep _ R4'.out (KF _ (fun hm => by have := HB1.out.2 _ hm; omega)), HB1.out.1, fun z hz => by have := HB1.out.2 z hz; omega, BF _ _ S4 (by omega)⟩
theorem implSubstStmt_c {w : World} {x : Stm} {a : Aff} {v : Int} {cs : List Value} {bs ba : List Nat} {Aa : Option Addr} {na ca : Nat} {k : Int} (h : Rep w x.d cs bs) (haa : Rep w a.d [.slice Aa na ca, .int .i64 k] ba) :
    Calls Try.prog 29 #[.agg cs.toArray, .int .i64 v, .agg #[.slice Aa na ca, .int .i64 k]] w (MadeStmB w (SubstStmtF x v a).1 (SubstStmtF x v a).2) := by
  have hk : k = a.const := haa.aff.1
  subst hk
  exact implSubstStmt_k h haa
theorem specSubstStmt_c {w : World} {x : Stm} {a : Aff} {v : Int} {cs : List Value} {bs ba : List Nat} {Aa : Option Addr} {na ca : Nat} {k : Int} (h : Rep w x.d cs bs) (haa : Rep w a.d [.slice Aa na ca, .int .i64 k] ba) :
    Calls Try.prog 27 #[.agg cs.toArray, .int .i64 v, .agg #[.slice Aa na ca, .int .i64 k]] w (MadeStmB w (SubstStmtF x v a).1 (SubstStmtF x v a).2) := by
  have hk : k = a.const := haa.aff.1
  subst hk
  exact specSubstStmt_k h haa
theorem cntL_le_mul {α : Type} {cnt : α → Nat} {k : Nat} : ∀ (xs : List α), (∀ x ∈ xs, cnt x ≤ k) → cntL cnt xs ≤ xs.length * k
  | [], _ => by simp [cntL]
  | x :: xs, h => by
    have h1 := h x List.mem_cons_self
    have h2 := cntL_le_mul xs fun y hy => h y (List.mem_cons_of_mem _ hy)
    rw [cntL, List.length_cons, Nat.add_mul]; omega
theorem subs_cnt {xs : List Aff} {d : Int} (h : sideOk xs d = true) : cntL Aff.cntE xs ≤ 10 := by
  have h1 := sideOk_iff h
  have h2 := cntL_le_mul (cnt := Aff.cntE) (k := 5) xs (fun t ht => by have := (affOk_iff.1 (h1.2.2 t ht).1).1; unfold Aff.cntE; omega)
  have := h1.2.1
  omega
theorem own_cnt {x : Ex} {d : Int} (h : ownF x d = true) : x.index.coefs.length ≤ 4 ∧ cntL Aff.cntE x.read.subs ≤ 10 := by
  have zA : ∀ {a : Aff}, noAff a = true → a.coefs.length = 0 := fun {a} h => by rw [noAff_zero h]; rfl
  have zC : ∀ {a : Acc}, noAcc a = true → cntL Aff.cntE a.subs = 0 := fun {a} h => by rw [noAcc_zero h]; rfl
  unfold ownF at h
  by_cases e2 : x.kind = 2
  · rw [if_pos e2] at h
    simp only [Bool.and_eq_true] at h
    have h1 := zC h.2.1
    have h2 := (affOk_iff.1 h.2.2.1).1
    omega
  · rw [if_neg e2] at h
    by_cases e3 : x.kind = 3
    · rw [if_pos e3] at h
      simp only [Bool.and_eq_true, accOk] at h
      have h1 := zA h.2.1
      have h2 := subs_cnt h.2.2.2
      omega
    · rw [if_neg e3] at h
      by_cases e1 : x.kind = 1
      · rw [if_pos e1] at h
        simp only [Bool.and_eq_true] at h
        have h1 := zA h.2.1; have h2 := zC h.2.2; omega
      · rw [if_neg e1] at h
        simp only [Bool.and_eq_true] at h
        have h1 := zA h.2.1; have h2 := zC h.2.2; omega
theorem ex_cnt_le (x : Ex) : ∀ (L : Nat) (d : Int), exShape x d L = true → x.cntE + 64 ≤ 64 * 2 ^ L :=
  Ex.ind (P := fun x => ∀ (L : Nat) (d : Int), exShape x d L = true → x.cntE + 64 ≤ 64 * 2 ^ L) (fun x hx L d h => by
    rw [exShape_eq] at h
    simp only [Bool.and_eq_true, decide_eq_true_iff, List.all_eq_true] at h
    obtain ⟨hL, hk, ho, hkids⟩ := h
    have hkn : x.kids.length ≤ 2 := by
      have : kidsN x.kind ≤ 2 := by unfold kidsN; split <;> (try split) <;> omega
      omega
    obtain ⟨M, rfl⟩ : ∃ M, L = M + 1 := ⟨L - 1, by omega⟩
    simp only [Nat.add_sub_cancel] at hkids
    have h1 := cntL_le_mul (cnt := Ex.cntE) (k := 64 * 2 ^ M - 64) x.kids (fun y hy => by have := hx y hy M d (hkids y hy); omega)
    have h2 : x.kids.length * (64 * 2 ^ M - 64) ≤ 2 * (64 * 2 ^ M - 64) := Nat.mul_le_mul_right _ hkn
    have h3 := own_cnt ho
    have h4 : 1 ≤ 2 ^ M := Nat.one_le_two_pow
    rw [Ex.cntE_eq, Nat.pow_succ]
    omega) x
theorem stm_cnt {x : Stm} {d : Int} (h : StmtValidF x d = true) : x.cntM ≤ 5000 := by
  obtain ⟨h1, h2, h3⟩ := stmtValid_parts h
  simp only [accOk, Bool.and_eq_true] at h1
  have h4 := subs_cnt h1.2
  have h5 := ex_cnt_le x.value 5 d h2
  rw [Ex.cntE_eq] at h5
  unfold Stm.cntM Acc.cntM Ex.cntM Acc.cntM
  omega
theorem SubstStmtF_len (x : Stm) (v : Int) (a : Aff) : (SubstStmtF x v a).1.cntM ≤ 1000000 := by
  have hz : stmZero.cntM ≤ 1000000 := by decide
  unfold SubstStmtF
  split
  · split
    · rename_i h; exact Nat.le_trans (stm_cnt h) (by decide)
    · exact hz
  · exact hz
end Go.Proofs.Ytadmmlflngkpiaa
