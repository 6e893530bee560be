/- The program's own copies: ownPart. -/
import Derived.Test.YtgogjbnneoadkaaGreatZtRoom
set_option linter.all false
set_option maxHeartbeats 8000000
set_option maxRecDepth 100000
namespace Go.Proofs.YtgogjbnneoadkaaGreat
open Go.ChangeShapes Go.WideShapes Go.ChangeAt Go.RowKit Go.Deep
def PrtSm (x : Prt) : Prop := x.nest.length ≤ 1000000 ∧ (∀ l ∈ x.nest, LpSm l) ∧ x.body.length ≤ 1000000 ∧ ∀ s ∈ x.body, ∃ d, StmtValidF s d = true
theorem ownPart_c {x : Prt} {w : World} {cs : List Value} {bs : List Nat} (h : Rep w x.d cs bs) (hs : PrtSm x) :
  Calls Tryz.prog 39 #[.agg cs.toArray] w (MadeP w x) := by
 obtain ⟨A1, c1, A2, c2, d1, d2, rfl, rfl, g1, g2⟩ := Rep.prt_iff.1 h
 have HN := Lib.hid g1
 have HB := Lib.hid g2
 have HS := Lib.hid hs
 have hbl : x.body.length ≤ 1000000 := hs.2.2.1
 have hn2 : x.body.length ≤ 9223372036854775807 := by omega
 clear g1 g2 h hs
 go_enter Tryz.func39, Tryz.ntmps39
 go_wp2_with fail
 refine (ownNest_c (HN.out.below bel) HS.out.1 HS.out.2.1).mono ?_
 rintro e w1 ⟨A1q, n1, c1q, bs1, rfl, r1, nd1, hb1, b1⟩
 obtain ⟨hn1, _, _⟩ := r1.sls_len
 subst hn1
 have X0 : BoxW w1 w.heap.size (.slice A1 x.nest.length c1) (.slice A2 x.body.length c2) := BoxW.to ⟨⟨by go_simp, by go_simp⟩, by go_simp, by go_simp⟩ b1
 have X1 : BoxW w1 (w.heap.size + 1) (.slice none 0 0) (.slice none 0 0) := BoxW.to ⟨⟨by go_simp, by go_simp⟩, by go_simp, by go_simp⟩ b1
 have S1 : Below w.heap.size w w1 := bel
 have Z1 : w.heap.size + 2 ≤ w1.heap.size := by have := b1.size; simp at this; omega
 have hge : ∀ y ∈ bs1, w.heap.size + 2 ≤ y := fun y hy => by have := hb1 y hy; simp at this; omega
 have L1 := Lib.hid (Rep.lt _ r1)
 have R1 := Lib.hid r1
 have N1 := Lib.hid (And.intro nd1 hge)
 clear r1 nd1 hb1 hge b1
 obtain ⟨⟨p0, p1⟩, _, _⟩ := X0
 have lt0 := lt_of_cell p0
 have HX1 := Lib.hid X1; clear X1
 go_wp2
 go_loopw [13] (fun i wr => ∃ (j : Nat) (u : Value), j ≤ x.body.length ∧ i = .int .i64 j ∧ BoxW wr w1.heap.size (.slice A1q x.nest.length c1q) u ∧ Grow wr (w1.heap.size + 1) 102 9 u ((x.body.take j).map Stm.d) ∧ BoxW wr (w.heap.size + 1) (.slice none 0 0) (.slice none 0 0) ∧ w1.heap.size + 1 ≤ wr.heap.size ∧ Below w1.heap.size w1 wr) (fun i _ => x.body.length - (intOf i).toNat)
 case atStart => exact ⟨0, .slice none 0 0, Nat.zero_le _, rfl, ⟨⟨by go_simp, by go_simp⟩, by go_simp, by go_simp⟩, by simpa using Grow.nil _ _ _ _, BoxW.to HX1.out bel, by simp, bel⟩
 case round =>
  obtain ⟨j, u, hj, rfl, ⟨⟨k2a, k2b⟩, f2a, f2b⟩, hG, hR, hz, hb⟩ := hrel
  have hbw : Below w.heap.size w wr := below_tr S1 hb
  have HR := Lib.hid hR; clear hR
  obtain ⟨Au, cu, hfu, _, _⟩ := hG.form
  rw [List.length_map, List.length_take] at hfu
  have HG := Lib.hid hG; clear hG
  clear p0 p1
  by_cases hlt : j < x.body.length
  ·have HT := Lib.hid (show (x.body.take (j + 1)).map Stm.d = (x.body.take j).map Stm.d ++ [x.body[j].d] by rw [List.take_succ_eq_append_getElem hlt, List.map_append]; rfl)
   have HV := Lib.hid (HS.out.2.2.2 _ (List.getElem_mem hlt))
   obtain ⟨be, oe, cse, le, rfl, hble, hre, _, _, hce⟩ := (HB.out.below hbw).sls_at Stm.d_size (k := j) hlt
   have Ge := Lib.hid hre
   obtain ⟨A2e, c2e, A5e, c5e, A8e, c8e, A9e, c9e, d2e, d5e, d8e, d9e, rfl, rfl, g1e, g2e, g3e, g4e, g5e, g6e, g7e, g8e, g9e⟩ := Rep.stm_iff.1 hre
   have k0e := (hce 0 _ rfl).1; rw [Nat.add_zero] at k0e
   have k1e := (hce 1 _ rfl).1
   have k2e := (hce 2 _ rfl).1
   have k3e := (hce 3 _ rfl).1
   have k4e := (hce 4 _ rfl).1
   have k5e := (hce 5 _ rfl).1
   have k6e := (hce 6 _ rfl).1
   have k7e := (hce 7 _ rfl).1
   have k8e := (hce 8 _ rfl).1
   have Q1e := Lib.hid g1e
   have Q2e := Lib.hid g2e
   have Q3e := Lib.hid g3e
   have Q4e := Lib.hid g4e
   have Q5e := Lib.hid g5e
   have Q6e := Lib.hid g6e
   have Q7e := Lib.hid g7e
   have Q8e := Lib.hid g8e
   have Q9e := Lib.hid g9e
   clear hce hre g1e g2e g3e g4e g5e g6e g7e g8e g9e
   have lt2 := lt_of_cell k2a
   have hmin : min j x.body.length = j := by omega
   rw [hmin] at hfu
   subst hfu
   have HOW := Lib.hid HG.out.own_ge
   obtain ⟨a, ha⟩ : ∃ a, a = x.body[j] := ⟨_, rfl⟩
   rw [← ha] at k0e k1e k2e k3e k4e k5e k6e k7e k8e Ge HT HV
   clear hmin ha
   go_wp2_with fail
   refine wp_region_noPanic ?_
   refine wp_regionT (S := fun w' => Box2 w' w1.heap.size (.slice A1q x.nest.length c1q) (.slice Au j cu) ∧ Box9 w' wr.heap.size (.string a.write.arr) (.slice A2e a.write.subs.length c2e) (.int .i64 a.value.kind) (.int .i64 a.value.num) (.slice A5e a.value.index.coefs.length c5e) (.int .i64 a.value.index.const) (.string a.value.read.arr) (.slice A8e a.value.read.subs.length c8e) (.slice A9e a.value.kids.length c9e)) 7 (by kernel_rfl) (⟨⟨by go_simp, by go_simp⟩, by go_simp, by go_simp, by go_simp, by go_simp, by go_simp, by go_simp, by go_simp, by go_simp, by go_simp⟩) (fun hHeld => ?_)
   refine goU 0 (fun _ => hHeld) ?_
   refine goT 1 hHeld ?_
   refine goT 2 hHeld ?_
   refine readyT (rs := [3]) (by kernel_rfl) (by simp) (all1 ?_)
   refine opT (i := 3) rfl (wanted_none rfl) (fun K hK => ?_)
   go_simp
   (refine (ownStmt_c (Ge.out.below bel) HV.out.choose_spec).mono ?_; rintro e w2 ⟨Y2, y2, Y5, y5, Y8, y8, Y9, y9, bs2, rfl, r2, nd2, hb2, b2⟩; have B2 : Below wr.heap.size wr w2 := bel; have O1 := Lib.hid (one_newN (N := w2.heap.size) r2 102 rfl); have N2 := Lib.hid (And.intro nd2 (show ∀ y ∈ bs2, wr.heap.size ≤ y from fun y hy => by have := hb2 y hy; simp at this; omega)); clear r2 nd2 hb2)
   go_wp2_with fail
   refine hK.out _ _ (⟨hHeld.1.to b2, hHeld.2.to b2⟩) (fun hHeld => ?_)
   clear hK K
   try simp only [Act.put, aq0, aq1, aq2]
   refine readyT (rs := [4]) (by kernel_rfl) (by simp) (all1 ?_)
   refine opT (i := 4) rfl (wanted_none rfl) (fun K hK => ?_)
   (unfold Oper.wp; go_simp)
   refine hK.out _ _ (⟨hHeld.1.to ((Below.refl _ _).alloc (Nat.le_refl _) _), hHeld.2.to ((Below.refl _ _).alloc (Nat.le_refl _) _)⟩) (fun hHeld => ?_)
   clear hK K
   try simp only [Act.put, aq0, aq1, aq2]
   refine readyT (rs := [5]) (by kernel_rfl) (by simp) (all1 ?_)
   refine opT (i := 5) rfl (wanted_none rfl) (fun K hK => ?_)
   (refine wp_append_more (w0 := wr) (B := w1.heap.size + 1) (xs := (x.body.take j).map Stm.d) (ys := [a.d]) (.tmp 18) (.tmp 21) _ rfl _ Tryz.underlying52 Tryz.infoStmt rfl (by decide) rfl HG.out ?hbw rfl O1.out ?hys ?hn ?hf ?hlen hz ?_; (case hbw => exact bel); (case hys => (intro y hy; simp only [List.mem_singleton] at hy; rw [hy]; exact Stm.d_size a)); (case hn => exact N2.out.1); (case hf => exact N2.out.2); (case hlen => (simp; omega)); intro v2 w4 hG4 hg4; have B4 : Below (w1.heap.size + 1) wr w4 := ((B2.alloc B2.size _).mono hz).trans (hg4.below (Nat.le_trans hz (Nat.le_trans B2.size (by simp))) (fun b hb => (HOW.out b hb).1)); have X2 : BoxW w4 w1.heap.size (.slice A1q x.nest.length c1q) (.slice Au j cu) := BoxW.toB ⟨⟨k2a, k2b⟩, f2a, f2b⟩ (by omega) B4; have XR := Lib.hid (BoxW.toB HR.out (by omega) B4); have XZ := B4.size; obtain ⟨⟨k2d, k2e⟩, f2d, f2e⟩ := X2; obtain ⟨A4, c4, hf4, _, _⟩ := hG4.form; simp only [List.length_append, List.length_map, List.length_take, List.length_singleton] at hf4; rw [show min j x.body.length + 1 = j + 1 by omega] at hf4; subst hf4; rw [← HT.out] at hG4; have HG4 := Lib.hid hG4; have HB4 := Lib.hid (hb.trans (B4.mono (by omega))))
   refine hK.out _ _ (⟨hg4.touch.box2 hHeld.1 (fun hm => by have := (HOW.out _ (mem_ownL.1 hm)).1; omega), hHeld.2.touch hg4.touch (fun hm => by have := (HOW.out _ (mem_ownL.1 hm)).2; omega)⟩) (fun hHeld => ?_)
   clear hK K
   try simp only [Act.put, aq0, aq1, aq2]
   refine goU 6 (fun _ => hHeld) ?_
   refine readyT (rs := [7]) (by kernel_rfl) (by simp) (all1 ?_)
   refine opTT (i := 7) rfl (wanted_none rfl) (by kernel_rfl) (fun K hK => ?_)
   (unfold Oper.wp; go_simp)
   refine hK.out _ _ ?_
   clear hK K
   try simp only [Act.put, aq0, aq1, aq2]
   refine wpAnyT_done (by kernel_rfl) ?_ _
   refine NoPanic.normal ?_
   (go_wp2; go_roundw; (case rel => exact ⟨j + 1, _, by omega, by go_num, ⟨⟨by go_simp, by go_simp⟩, by go_simp, by go_simp⟩, HG4.out.set_low (p := ⟨w1.heap.size, 1, none⟩) (by simp) _, ⟨Box2.set XR.out.1 (by first | (simp; done) | (simp; omega)) _, by rw [World.frozen?_setCell]; exact XR.out.2.1, by rw [World.frozen?_setCell]; exact XR.out.2.2⟩, by (simp [World.setCell]; omega), HB4.out.setCell (by simp) _⟩); (case measure => (simp [intOf]; omega)))
  ·have hjj : j = x.body.length := by omega
   subst hjj
   have hmin : min x.body.length x.body.length = x.body.length := by omega
   rw [hmin] at hfu
   subst hfu
   have hG := HG.out
   obtain ⟨A5, c5, bs5, he5, r5, nd5, hb5⟩ := hG.rep
   have hRo : Roomy wr 102 9 Au x.body.length cu bs5 := by
    obtain ⟨esq, cbq, hq, _⟩ := HG.out
    rw [List.length_map, List.length_take, Nat.min_self] at hq
    refine Roomy.of_own hq fun g hp hA => ?_
    subst hA
    simp only [Value.slice.injEq] at he5
    obtain ⟨hA5, _, _⟩ := he5
    obtain ⟨A', c', es', cb', he', _, _, _, h0⟩ := r5
    simp only [List.cons.injEq, Value.slice.injEq, ← hA5] at he'
    rcases h0 with ⟨hx, _⟩ | ⟨b', o', e', hbs, _⟩
    ·have := congrArg List.length hx
     rw [List.length_map, List.length_take] at this
     simp only [List.length_nil] at this
     omega
    ·rw [← he'.1.1] at e'
     simp only [Option.some.injEq, Addr.mk.injEq] at e'
     rw [hbs, e'.1]
     exact List.mem_cons_self
   rw [List.length_map, List.length_take, Nat.min_self] at he5 r5
   simp only [Value.slice.injEq, true_and] at he5
   obtain ⟨rfl, rfl⟩ := he5
   rw [List.take_length] at r5
   have H5 := Lib.hid (And.intro r5 (And.intro nd5 hb5))
   have HRo := Lib.hid hRo
   clear hG r5 nd5 hb5 hRo
   obtain ⟨⟨m1, m2⟩, m3, m4⟩ := HR.out
   have lt1 := lt_of_cell m1
   have lt2 := lt_of_cell k2a
   go_wp2
   have RN := R1.out.below hb
   have hge : ∀ y ∈ bs1 ++ bs5, w.heap.size + 2 ≤ y := fun y hy => by
    rcases List.mem_append.1 hy with h1 | h1
    ·exact N1.out.2 y h1
    ·have := H5.out.2.2 y h1; omega
   have hnb : w.heap.size + 1 ∉ bs1 ++ bs5 := fun hm => by have := hge _ hm; omega
   have K2 : Keeps wr ((wr.setCell ⟨w.heap.size + 1, 0, none⟩ (.slice A1q x.nest.length c1q)).setCell ⟨w.heap.size + 1, 1, none⟩ (.slice Au x.body.length cu)) (bs1 ++ bs5) := ((Keeps.refl _ _).setCell hnb _).setCell hnb _
   exact bodyPost_ret (v := .agg #[.slice A1q x.nest.length c1q, .slice Au x.body.length cu]) (by simp [results, Tryz.results39, go_sem, m1, m2]) rfl ⟨A1q, c1q, Au, cu, bs1 ++ bs5, rfl, ⟨_, _, _, _, rfl, Rep.keep _ (Rep.prt_iff.2 ⟨_, _, _, _, _, _, rfl, rfl, RN, H5.out.1⟩) K2, by
    have hr := HRo.out.keep K2.right
    rcases hr with hr | ⟨g, cur, q1, q2, q3, q4, q5, q6⟩
    ·exact .inl hr
    ·exact .inr ⟨g, cur, q1, q2, q3, q4, q5, List.mem_append_right _ q6⟩⟩, List.nodup_append.2 ⟨N1.out.1, H5.out.2.1, fun y h1 z h2 e => by subst e; have q1 := L1.out y h1; have q2 := H5.out.2.2 y h2; omega⟩, fun y hy => by have := hge y hy; omega, (hbw.setCell (by simp) _).setCell (by simp) _⟩
end Go.Proofs.YtgogjbnneoadkaaGreat
