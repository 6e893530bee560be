/- BoxNest of both sides. -/
import Derived.Test.YtgogjbnneoadkaaGreatZdRowS
import Derived.Test.YtgogjbnneoadkaaGreatZdCellsS
import Derived.Test.YtgogjbnneoadkaaGreatZdScanI
import Derived.Test.YtgogjbnneoadkaaGreatZdCopyE
import Derived.Test.YtgogjbnneoadkaaGreatZdBasic
import Derived.Test.YtgogjbnneoadkaaGreatZdTyLoop
import Derived.Test.YtgogjbnneoadkaaGreatZdActs
set_option linter.all false
set_option maxHeartbeats 8000000
set_option maxRecDepth 100000
namespace Go.Proofs.YtgogjbnneoadkaaGreat
open Go.ChangeShapes Go.WideShapes Go.ChangeAt Go.RowKit Go.Deep
theorem Stm.rep_of {w : World} {x : Stm} {c1 c2 : List Value} {b1 b2 : List Nat} (h1 : Rep w x.write.d c1 b1) (h2 : Rep w x.value.d c2 b2) : Rep w x.d (c1 ++ c2) (b1 ++ b2) := by
 unfold Stm.d
 simp only [Rep, Reps]
 exact ⟨c1, c2, b1, b2, rfl, rfl, h1, c2, [], b2, [], by simp, by simp, h2, rfl, rfl⟩
theorem two_new {W N : Nat} {b1 b2 : List Nat} (n1 : b1.Nodup) (n2 : b2.Nodup) (h1 : ∀ y ∈ b1, W ≤ y) (l1 : ∀ y ∈ b1, y < N) (h2 : ∀ y ∈ b2, N ≤ y) (hN : W ≤ N) : (b1 ++ b2).Nodup ∧ (b2 ++ b1).Nodup ∧ (∀ y ∈ b1 ++ b2, W ≤ y) ∧ ∀ y ∈ b2 ++ b1, W ≤ y := by
 have hd : ∀ a ∈ b1, ∀ b ∈ b2, a ≠ b := fun a ha b hb e => by have := l1 a ha; have := h2 b hb; omega
 refine ⟨List.nodup_append.2 ⟨n1, n2, hd⟩, List.nodup_append.2 ⟨n2, n1, fun a ha b hb e => hd b hb a ha e.symm⟩, fun y hy => ?_, fun y hy => ?_⟩
 ·rcases List.mem_append.1 hy with hy | hy
  ·exact h1 y hy
  ·have := h2 y hy; omega
 ·rcases List.mem_append.1 hy with hy | hy
  ·have := h2 y hy; omega
  ·exact h1 y hy
theorem Row.box9 {w : World} {g : Nat} {t : TypeId} {a0 a1 a2 a3 a4 a5 a6 a7 a8 : Value} (h : Row w g t [a0, a1, a2, a3, a4, a5, a6, a7, a8]) : Box9 w g a0 a1 a2 a3 a4 a5 a6 a7 a8 :=
 ⟨h.cell 0, h.cell 1, h.cell 2, h.cell 3, h.cell 4, h.cell 5, h.cell 6, h.cell 7, h.cell 8⟩
theorem Row.new2 (w : World) (l1 l2 : List Value) (t : TypeId) : Row ((w.alloc (.cells l1.toArray t)).alloc (.cells l2.toArray t)) (w.heap.size + 1) t l2 := by
 have h := Row.new (w.alloc (.cells l1.toArray t)) l2 t
 rwa [size_al] at h
theorem stmtMap_c {w : World} {x : Stm} {cs : List Value} {bs : List Nat} {g : FuncId} {cap : Array Value} {F : Aff → Aff} {p : Aff → Bool} (h : Rep w x.d cs bs) (hg : Enters Tryz.prog g) (hc : ∀ t, p t = true → Changes w g cap F t) (ha : ∀ t ∈ x.write.subs, p t = true) (hl : x.write.subs.length ≤ 1000000) (hx : exAll p x.value = true) :
  Calls Tryz.prog 125 #[.agg cs.toArray, .func (.func g) #[] cap] w (MadeStm w (mapStm F x)) := by
 have HC := Lib.hid hc; clear hc
 have HA := Lib.hid ha; clear ha
 have HX := Lib.hid hx; clear hx
 have HG := Lib.hid hg; clear hg
 obtain ⟨A2, c2, A5, c5, A8, c8, A9, c9, d2, d5, d8, d9, rfl, rfl, g1, g2, g3, g4, g5, g6, g7, g8, g9⟩ := Rep.stm_iff.1 h
 have Gwrite := Lib.hid ((Rep.acc_iff (x := x.write)).2 ⟨_, _, _, rfl, rfl, g1, g2⟩)
 have Gvalue := Lib.hid ((Rep.ex_iff (x := x.value)).2 ⟨_, _, _, _, _, _, _, _, _, rfl, rfl, g3, g4, g5, g6, g7, g8, g9⟩)
 clear h g1 g2 g3 g4 g5 g6 g7 g8 g9
 have b0 : Below w.heap.size w ((w.alloc (.cells #[.string x.write.arr, .slice A2 x.write.subs.length c2, .int .i64 x.value.kind, .int .i64 x.value.num, .slice A5 x.value.index.coefs.length c5, .int .i64 x.value.index.const, .string x.value.read.arr, .slice A8 x.value.read.subs.length c8, .slice A9 x.value.kids.length c9] 102)).alloc (.cells #[.string ⟨#[]⟩, .slice none 0 0, .int .i64 0, .int .i64 0, .slice none 0 0, .int .i64 0, .string ⟨#[]⟩, .slice none 0 0, .slice none 0 0] 102)) := bel
 have HZ0 := Lib.hid (Row.new2 w [.string x.write.arr, .slice A2 x.write.subs.length c2, .int .i64 x.value.kind, .int .i64 x.value.num, .slice A5 x.value.index.coefs.length c5, .int .i64 x.value.index.const, .string x.value.read.arr, .slice A8 x.value.read.subs.length c8, .slice A9 x.value.kids.length c9] [.string ⟨#[]⟩, .slice none 0 0, .int .i64 0, .int .i64 0, .slice none 0 0, .int .i64 0, .string ⟨#[]⟩, .slice none 0 0, .slice none 0 0] 102)
 go_enter Tryz.func125, Tryz.ntmps125
 go_wp2_with fail
 refine wp_region_noPanic ?_
 refine wp_regionT (S := fun w' => Box9 w' w.heap.size (.string x.write.arr) (.slice A2 x.write.subs.length c2) (.int .i64 x.value.kind) (.int .i64 x.value.num) (.slice A5 x.value.index.coefs.length c5) (.int .i64 x.value.index.const) (.string x.value.read.arr) (.slice A8 x.value.read.subs.length c8) (.slice A9 x.value.kids.length c9)) 9 (by kernel_rfl) (⟨by go_simp, by go_simp, by go_simp, by go_simp, by go_simp, by go_simp, by go_simp, by go_simp, by go_simp⟩) (fun hHeld => ?_)
 refine goU 0 (fun _ => hHeld) ?_
 refine goT 1 hHeld ?_
 refine goU 2 (fun _ => hHeld) ?_
 refine goU 4 (fun _ => hHeld) ?_
 refine goT 5 hHeld ?_
 refine goU 6 (fun _ => hHeld) ?_
 refine readyT (rs := [3]) (by kernel_rfl) (by simp) (all1 ?_)
 refine opT (i := 3) rfl (wanted_none rfl) (fun K hK => ?_)
 go_simp
 (refine (accessMap_c (Gwrite.out.below bel) hl HG.out (fun t ht => (HC.out t (HA.out t ht)).below bel)).mono ?_; rintro e w3 ⟨Y1, y1, bs1, rfl, r1, nd1, hb1, b1⟩; have B1 : Below w.heap.size w w3 := bel; have R1 := Lib.hid r1; have L1 := Lib.hid (Rep.lt _ r1); have M1 := Lib.hid hb1; clear r1 hb1)
 go_wp2_with fail
 refine hK.out _ _ (hHeld.to b1) (fun hHeld => ?_)
 clear hK K
 try simp only [Act.put, aq0, aq1, aq2]
 refine readyT (rs := [7]) (by kernel_rfl) (by simp) (all1 ?_)
 refine opT (i := 7) rfl (wanted_none rfl) (fun K hK => ?_)
 go_simp
 (refine (exprMap_c HG.out x.value _ _ _ (Gvalue.out.below bel) (fun t ht => (HC.out t ht).below bel) HX.out).mono ?_; rintro e w7 ⟨X3, z3, X6, z6, X7, z7, bs2, rfl, r2, nd2, hb2, b2⟩; have B2 : Below w.heap.size w w7 := bel; have R2 := Lib.hid r2; have L2 := Lib.hid (Rep.lt _ r2); have M2 := Lib.hid hb2; clear r2 hb2; have HZ := Lib.hid ((HZ0.out.of_block (b1.block (w.heap.size + 1) (by simp))).to b2); obtain ⟨q0, q1, q2, q3, q4, q5, q6, q7, q8⟩ := HZ.out.box9; have f0 := HZ.out.frozen 0; have f1 := HZ.out.frozen 1; have f2 := HZ.out.frozen 2; have f3 := HZ.out.frozen 3; have f4 := HZ.out.frozen 4; have f5 := HZ.out.frozen 5; have f6 := HZ.out.frozen 6; have f7 := HZ.out.frozen 7; have f8 := HZ.out.frozen 8; have lz := lt_of_cell q0)
 go_wp2_with fail
 refine hK.out _ _ (hHeld.to b2) (fun hHeld => ?_)
 clear hK K
 try simp only [Act.put, aq0, aq1, aq2]
 refine goU 8 (fun _ => hHeld) ?_
 refine readyT (rs := [9]) (by kernel_rfl) (by simp) (all1 ?_)
 refine opTT (i := 9) rfl (wanted_none rfl) (by kernel_rfl) (fun K hK => ?_)
 (unfold Oper.wp; go_simp)
 refine hK.out _ _ ?_
 clear hK K
 try simp only [Act.put, aq0, aq1, aq2]
 refine wpAnyT_done (by kernel_rfl) ?_ _
 refine NoPanic.normal ?_
 (skip)
 go_wp2
 have RF := (((((((((HZ.out.set 0 (.string (mapAcc F x.write).arr)).set 1 (.slice Y1 (mapAcc F x.write).subs.length y1)).set 2 (.int .i64 (mapEx F x.value).kind)).set 3 (.int .i64 (mapEx F x.value).num)).set 4 (.slice X3 (mapEx F x.value).index.coefs.length z3)).set 5 (.int .i64 (mapEx F x.value).index.const)).set 6 (.string (mapEx F x.value).read.arr)).set 7 (.slice X6 (mapEx F x.value).read.subs.length z6)).set 8 (.slice X7 (mapEx F x.value).kids.length z7))
 simp only [List.set_cons_zero, List.set_cons_succ] at RF
 have ND := two_new nd1 nd2 (W := w.heap.size + 2) (N := w3.heap.size) (fun y hy => by have := M1.out y hy; simp at this; omega) L1.out M2.out (by have := b1.size; simp at this; omega)
 have BF : Below w.heap.size w (((((((((w7.setCell ⟨w.heap.size + 1, 0, none⟩ (.string (mapAcc F x.write).arr)).setCell ⟨w.heap.size + 1, 1, none⟩ (.slice Y1 (mapAcc F x.write).subs.length y1)).setCell ⟨w.heap.size + 1, 2, none⟩ (.int .i64 (mapEx F x.value).kind)).setCell ⟨w.heap.size + 1, 3, none⟩ (.int .i64 (mapEx F x.value).num)).setCell ⟨w.heap.size + 1, 4, none⟩ (.slice X3 (mapEx F x.value).index.coefs.length z3)).setCell ⟨w.heap.size + 1, 5, none⟩ (.int .i64 (mapEx F x.value).index.const)).setCell ⟨w.heap.size + 1, 6, none⟩ (.string (mapEx F x.value).read.arr)).setCell ⟨w.heap.size + 1, 7, none⟩ (.slice X6 (mapEx F x.value).read.subs.length z6)).setCell ⟨w.heap.size + 1, 8, none⟩ (.slice X7 (mapEx F x.value).kids.length z7)) := bel
 have hnb : w.heap.size + 1 ∉ bs1 ++ bs2 := fun hm => by have := ND.2.2.1 _ hm; omega
 have KF : Keeps w7 (((((((((w7.setCell ⟨w.heap.size + 1, 0, none⟩ (.string (mapAcc F x.write).arr)).setCell ⟨w.heap.size + 1, 1, none⟩ (.slice Y1 (mapAcc F x.write).subs.length y1)).setCell ⟨w.heap.size + 1, 2, none⟩ (.int .i64 (mapEx F x.value).kind)).setCell ⟨w.heap.size + 1, 3, none⟩ (.int .i64 (mapEx F x.value).num)).setCell ⟨w.heap.size + 1, 4, none⟩ (.slice X3 (mapEx F x.value).index.coefs.length z3)).setCell ⟨w.heap.size + 1, 5, none⟩ (.int .i64 (mapEx F x.value).index.const)).setCell ⟨w.heap.size + 1, 6, none⟩ (.string (mapEx F x.value).read.arr)).setCell ⟨w.heap.size + 1, 7, none⟩ (.slice X6 (mapEx F x.value).read.subs.length z6)).setCell ⟨w.heap.size + 1, 8, none⟩ (.slice X7 (mapEx F x.value).kids.length z7)) (bs1 ++ bs2) := by
  repeat (first | with_reducible exact Keeps.refl _ _ | refine Keeps.setCell ?_ hnb _)
 refine bodyPost_ret (v := .agg #[.string (mapAcc F x.write).arr, .slice Y1 (mapAcc F x.write).subs.length y1, .int .i64 (mapEx F x.value).kind, .int .i64 (mapEx F x.value).num, .slice X3 (mapEx F x.value).index.coefs.length z3, .int .i64 (mapEx F x.value).index.const, .string (mapEx F x.value).read.arr, .slice X6 (mapEx F x.value).read.subs.length z6, .slice X7 (mapEx F x.value).kids.length z7]) ?_ rfl ?_
 ·obtain ⟨p0, p1, p2, p3, p4, p5, p6, p7, p8⟩ := RF.box9
  obtain ⟨Wf, hWf⟩ : ∃ Wf, Wf = (((((((((w7.setCell ⟨w.heap.size + 1, 0, none⟩ (.string (mapAcc F x.write).arr)).setCell ⟨w.heap.size + 1, 1, none⟩ (.slice Y1 (mapAcc F x.write).subs.length y1)).setCell ⟨w.heap.size + 1, 2, none⟩ (.int .i64 (mapEx F x.value).kind)).setCell ⟨w.heap.size + 1, 3, none⟩ (.int .i64 (mapEx F x.value).num)).setCell ⟨w.heap.size + 1, 4, none⟩ (.slice X3 (mapEx F x.value).index.coefs.length z3)).setCell ⟨w.heap.size + 1, 5, none⟩ (.int .i64 (mapEx F x.value).index.const)).setCell ⟨w.heap.size + 1, 6, none⟩ (.string (mapEx F x.value).read.arr)).setCell ⟨w.heap.size + 1, 7, none⟩ (.slice X6 (mapEx F x.value).read.subs.length z6)).setCell ⟨w.heap.size + 1, 8, none⟩ (.slice X7 (mapEx F x.value).kids.length z7)) := ⟨_, rfl⟩
  rw [← hWf] at p0 p1 p2 p3 p4 p5 p6 p7 p8 ⊢
  clear hWf
  simp [results, Tryz.results125, go_sem, p0, p1, p2, p3, p4, p5, p6, p7, p8]
 refine MadeStm.of ⟨_, bs1 ++ bs2, rfl, Rep.keep _ (Stm.rep_of (x := mapStm F x) (R1.out.below b2) R2.out) KF, ND.1, fun y hy => by have := ND.2.2.1 y hy; omega, BF⟩
theorem ownAffine_e : Enters Tryz.prog 126 := fun args W => by go_simp
theorem ownAffine_ch (w : World) (a : Aff) (ha : affOk a = true) : Changes w 126 #[] id a := by
 intro cs bs W hW h
 obtain ⟨A, n, c, rfl, h1, h2⟩ := Rep.aff_iff.1 h
 have hn := h1.ints_len.1
 have h4 := (affOk_iff.1 ha).1
 show Calls Tryz.prog 126 #[.agg #[.slice A n c, .int .i64 a.const]] W (MadeAff W a)
 exact ownAffine_c h (by omega)
theorem stm_ok {x : Stm} {d : Int} (hv : StmtValidF x d = true) : (∀ t ∈ x.write.subs, affOk t = true) ∧ x.write.subs.length ≤ 1000000 ∧ exAll affOk x.value = true := by
 obtain ⟨h1, h2, h3⟩ := stmtValid_parts hv
 refine ⟨(accOk_subs h1).2, ?_, (shape_all x.value 5 d h2).1⟩
 simp only [accOk, Bool.and_eq_true] at h1
 have := (sideOk_iff h1.2).2.1
 omega
theorem ownStmt_c {w : World} {x : Stm} {cs : List Value} {bs : List Nat} {d : Int} (h : Rep w x.d cs bs) (hv : StmtValidF x d = true) : Calls Tryz.prog 84 #[.agg cs.toArray] w (MadeStm w x) := by
 have HO := Lib.hid (stm_ok hv)
 have HID := Lib.hid (mapStm_id hv)
 have HH := Lib.hid h
 obtain ⟨A2, c2, A5, c5, A8, c8, A9, c9, d2, d5, d8, d9, rfl, rfl, g1, g2, g3, g4, g5, g6, g7, g8, g9⟩ := Rep.stm_iff.1 h
 have Gwrite := Lib.hid ((Rep.acc_iff (x := x.write)).2 ⟨_, _, _, rfl, rfl, g1, g2⟩)
 have Gvalue := Lib.hid ((Rep.ex_iff (x := x.value)).2 ⟨_, _, _, _, _, _, _, _, _, rfl, rfl, g3, g4, g5, g6, g7, g8, g9⟩)
 clear h g1 g2 g3 g4 g5 g6 g7 g8 g9
 clear hv
 have HZ0 := Lib.hid (Row.new2 w [.string x.write.arr, .slice A2 x.write.subs.length c2, .int .i64 x.value.kind, .int .i64 x.value.num, .slice A5 x.value.index.coefs.length c5, .int .i64 x.value.index.const, .string x.value.read.arr, .slice A8 x.value.read.subs.length c8, .slice A9 x.value.kids.length c9] [.string ⟨#[]⟩, .slice none 0 0, .int .i64 0, .int .i64 0, .slice none 0 0, .int .i64 0, .string ⟨#[]⟩, .slice none 0 0, .slice none 0 0] 102)
 go_enter Tryz.func84, Tryz.ntmps84
 go_wp2_with fail
 refine (stmtMap_c (F := id) (p := affOk) (HH.out.below bel) ownAffine_e (fun t ht => ownAffine_ch _ t ht) HO.out.1 HO.out.2.1 HO.out.2.2).mono ?_
 rw [HID.out]
 rintro e w1 ⟨Y2, y2, Y5, y5, Y8, y8, Y9, y9, bs1, rfl, r1, nd1, hb1, b1⟩
 have HZ := Lib.hid (HZ0.out.of_block (b1.block (w.heap.size + 1) (by simp)))
 obtain ⟨q0, q1, q2, q3, q4, q5, q6, q7, q8⟩ := HZ.out.box9
 have f0 := HZ.out.frozen 0; have f1 := HZ.out.frozen 1; have f2 := HZ.out.frozen 2; have f3 := HZ.out.frozen 3; have f4 := HZ.out.frozen 4; have f5 := HZ.out.frozen 5; have f6 := HZ.out.frozen 6; have f7 := HZ.out.frozen 7; have f8 := HZ.out.frozen 8
 have lz := lt_of_cell q0
 have R1 := Lib.hid r1; clear r1
 have hge : ∀ y ∈ bs1, w.heap.size + 2 ≤ y := fun y hy => by have := hb1 y hy; simp at this; omega
 have HGE := Lib.hid hge; clear hge hb1
 go_wp2
 have hnb : w.heap.size + 1 ∉ bs1 := fun hm => by have := HGE.out _ hm; omega
 have RF := (((((((((HZ.out.set 0 (.string x.write.arr)).set 1 (.slice Y2 x.write.subs.length y2)).set 2 (.int .i64 x.value.kind)).set 3 (.int .i64 x.value.num)).set 4 (.slice Y5 x.value.index.coefs.length y5)).set 5 (.int .i64 x.value.index.const)).set 6 (.string x.value.read.arr)).set 7 (.slice Y8 x.value.read.subs.length y8)).set 8 (.slice Y9 x.value.kids.length y9))
 simp only [List.set_cons_zero, List.set_cons_succ] at RF
 have BF : Below w.heap.size w (((((((((w1.setCell ⟨w.heap.size + 1, 0, none⟩ (.string x.write.arr)).setCell ⟨w.heap.size + 1, 1, none⟩ (.slice Y2 x.write.subs.length y2)).setCell ⟨w.heap.size + 1, 2, none⟩ (.int .i64 x.value.kind)).setCell ⟨w.heap.size + 1, 3, none⟩ (.int .i64 x.value.num)).setCell ⟨w.heap.size + 1, 4, none⟩ (.slice Y5 x.value.index.coefs.length y5)).setCell ⟨w.heap.size + 1, 5, none⟩ (.int .i64 x.value.index.const)).setCell ⟨w.heap.size + 1, 6, none⟩ (.string x.value.read.arr)).setCell ⟨w.heap.size + 1, 7, none⟩ (.slice Y8 x.value.read.subs.length y8)).setCell ⟨w.heap.size + 1, 8, none⟩ (.slice Y9 x.value.kids.length y9)) := bel
 have KF : Keeps w1 (((((((((w1.setCell ⟨w.heap.size + 1, 0, none⟩ (.string x.write.arr)).setCell ⟨w.heap.size + 1, 1, none⟩ (.slice Y2 x.write.subs.length y2)).setCell ⟨w.heap.size + 1, 2, none⟩ (.int .i64 x.value.kind)).setCell ⟨w.heap.size + 1, 3, none⟩ (.int .i64 x.value.num)).setCell ⟨w.heap.size + 1, 4, none⟩ (.slice Y5 x.value.index.coefs.length y5)).setCell ⟨w.heap.size + 1, 5, none⟩ (.int .i64 x.value.index.const)).setCell ⟨w.heap.size + 1, 6, none⟩ (.string x.value.read.arr)).setCell ⟨w.heap.size + 1, 7, none⟩ (.slice Y8 x.value.read.subs.length y8)).setCell ⟨w.heap.size + 1, 8, none⟩ (.slice Y9 x.value.kids.length y9)) bs1 := by
  repeat (first | with_reducible exact Keeps.refl _ _ | refine Keeps.setCell ?_ hnb _)
 refine bodyPost_ret (v := .agg #[.string x.write.arr, .slice Y2 x.write.subs.length y2, .int .i64 x.value.kind, .int .i64 x.value.num, .slice Y5 x.value.index.coefs.length y5, .int .i64 x.value.index.const, .string x.value.read.arr, .slice Y8 x.value.read.subs.length y8, .slice Y9 x.value.kids.length y9]) ?_ rfl ?_
 ·obtain ⟨p0, p1, p2, p3, p4, p5, p6, p7, p8⟩ := RF.box9
  obtain ⟨Wf, hWf⟩ : ∃ Wf, Wf = (((((((((w1.setCell ⟨w.heap.size + 1, 0, none⟩ (.string x.write.arr)).setCell ⟨w.heap.size + 1, 1, none⟩ (.slice Y2 x.write.subs.length y2)).setCell ⟨w.heap.size + 1, 2, none⟩ (.int .i64 x.value.kind)).setCell ⟨w.heap.size + 1, 3, none⟩ (.int .i64 x.value.num)).setCell ⟨w.heap.size + 1, 4, none⟩ (.slice Y5 x.value.index.coefs.length y5)).setCell ⟨w.heap.size + 1, 5, none⟩ (.int .i64 x.value.index.const)).setCell ⟨w.heap.size + 1, 6, none⟩ (.string x.value.read.arr)).setCell ⟨w.heap.size + 1, 7, none⟩ (.slice Y8 x.value.read.subs.length y8)).setCell ⟨w.heap.size + 1, 8, none⟩ (.slice Y9 x.value.kids.length y9)) := ⟨_, rfl⟩
  rw [← hWf] at p0 p1 p2 p3 p4 p5 p6 p7 p8 ⊢
  clear hWf
  simp [results, Tryz.results84, go_sem, p0, p1, p2, p3, p4, p5, p6, p7, p8]
 refine MadeStm.of ⟨_, bs1, rfl, Rep.keep _ R1.out KF, nd1, fun y hy => by have := HGE.out y hy; omega, BF⟩
theorem Tryz.sizeStmt9 : (Tryz.prog.info? 102).map (·.size) = some 9 := by kernel_rfl
theorem l3Copy_c {w : World} {x : Stm} {cs : List Value} {bs : List Nat} {d : Int} (h : Rep w x.d cs bs) (hv : StmtValidF x d = true) : Calls Tryz.prog 118 #[.agg cs.toArray] w (MadeStm w x) := by
 have HO := Lib.hid (stm_ok hv)
 have HV := Lib.hid (stmtValid_parts hv)
 obtain ⟨A2, c2, A5, c5, A8, c8, A9, c9, d2, d5, d8, d9, rfl, rfl, g1, g2, g3, g4, g5, g6, g7, g8, g9⟩ := Rep.stm_iff.1 h
 have Gwrite := Lib.hid ((Rep.acc_iff (x := x.write)).2 ⟨_, _, _, rfl, rfl, g1, g2⟩)
 have Gvalue := Lib.hid ((Rep.ex_iff (x := x.value)).2 ⟨_, _, _, _, _, _, _, _, _, rfl, rfl, g3, g4, g5, g6, g7, g8, g9⟩)
 clear h g1 g2 g3 g4 g5 g6 g7 g8 g9
 clear hv
 have HZ0 := Lib.hid (Row.new2 w [.string x.write.arr, .slice A2 x.write.subs.length c2, .int .i64 x.value.kind, .int .i64 x.value.num, .slice A5 x.value.index.coefs.length c5, .int .i64 x.value.index.const, .string x.value.read.arr, .slice A8 x.value.read.subs.length c8, .slice A9 x.value.kids.length c9] [.string ⟨#[]⟩, .slice none 0 0, .int .i64 0, .int .i64 0, .slice none 0 0, .int .i64 0, .string ⟨#[]⟩, .slice none 0 0, .slice none 0 0] 102)
 go_enter Tryz.func118, Tryz.ntmps118
 go_wp2
 refine wp_region_noPanic ?_
 refine wp_region_held_drew (S := fun w' => Box9 w' w.heap.size (.string x.write.arr) (.slice A2 x.write.subs.length c2) (.int .i64 x.value.kind) (.int .i64 x.value.num) (.slice A5 x.value.index.coefs.length c5) (.int .i64 x.value.index.const) (.string x.value.read.arr) (.slice A8 x.value.read.subs.length c8) (.slice A9 x.value.kids.length c9)) (by kernel_rfl) (⟨by go_simp, by go_simp, by go_simp, by go_simp, by go_simp, by go_simp, by go_simp, by go_simp, by go_simp⟩) (fun hHeld => ?_)
 refine goR 0 hHeld ?_
 refine goR 1 hHeld ?_
 refine goR 3 hHeld ?_
 refine goR 4 hHeld ?_
 refine stepR (i := 2) rfl (by kernel_rfl) (wanted_none rfl) (fun K hK => ?_)
 go_simp
 (refine (l3CopyAccess_c (Gwrite.out.below bel) HO.out.2.1 (fun t ht => by have := (affOk_iff.1 (HO.out.1 t ht)).1; omega)).mono ?_; rintro e w1 ⟨Y2, y2, bs1, rfl, r1, nd1, hb1, b1⟩; have z1 := b1.size; simp at z1; have S1 : Below w.heap.size w w1 := bel; have HZ1 := Lib.hid (HZ0.out.of_block (b1.block (w.heap.size + 1) (by simp))))
 go_wp2_with fail
 refine hK.out _ _ (hHeld.to b1) (fun hHeld => ?_)
 clear hK K
 try simp only [Act.put, aq0, aq1, aq2]
 refine stepR (i := 5) rfl (by kernel_rfl) (wanted_none rfl) (fun K hK => ?_)
 go_simp
 (refine (l3CopyExpr_c x.value 5 d _ _ _ HV.out.2.1 (Gvalue.out.below S1)).mono ?_; rintro e w2 ⟨Y5, y5, Y8, y8, Y9, y9, bs2, rfl, r2, nd2, hb2, b2⟩; have z2 := b2.size; have HZ2 := Lib.hid (HZ1.out.to b2))
 go_wp2_with fail
 refine hK.out _ _ (hHeld.to b2) (fun hHeld => ?_)
 clear hK K
 try simp only [Act.put, aq0, aq1, aq2]
 refine goR 6 hHeld ?_
 refine stepR (i := 7) rfl (by kernel_rfl) (wanted_none rfl) (fun K hK => ?_)
 (refine wp_store_row 102 (.tmp 2) (.tmp 9) rfl (vs := [.string x.write.arr, .slice Y2 x.write.subs.length y2, .int .i64 x.value.kind, .int .i64 x.value.num, .slice Y5 x.value.index.coefs.length y5, .int .i64 x.value.index.const, .string x.value.read.arr, .slice Y8 x.value.read.subs.length y8, .slice Y9 x.value.kids.length y9]) rfl rfl HZ2.out rfl Tryz.sizeStmt9 rfl ?_; intro w4 hr4 t4)
 refine hK.out _ _ ((hHeld.touch t4 (by simp))) (fun hHeld => ?_)
 clear hK K
 try simp only [Act.put, aq0, aq1, aq2]
 refine wpAnyH_done (by kernel_rfl) ?_ _
 refine NoPanic.normal ?_
 have e1 : ∀ y ∈ bs1, w.heap.size + 2 ≤ y := fun y hy => by have := hb1 y hy; simp at this; omega
 have q1 := Rep.keep _ (r1.below b2) (t4.keeps (l := bs1) fun y hy => ⟨by have := Rep.lt _ r1 y hy; omega, by have := e1 y hy; simp; omega⟩)
 have q2 := Rep.keep _ r2 (t4.keeps (l := bs2) fun y hy => ⟨Rep.lt _ r2 y hy, by have := hb2 y hy; simp; omega⟩)
 have S4 : Below w.heap.size w w4 := (below_tr S1 b2).trans (t4.below (by omega) (by simp))
 have HF := Lib.hid (And.intro (Stm.rep_of (x := x) q1 q2) (List.nodup_append.2 ⟨nd1, nd2, fun y h1 z h2 e => by subst e; have := Rep.lt _ r1 y h1; have := hb2 y h2; omega⟩))
 have HL := Lib.hid (show ∀ y ∈ bs1 ++ bs2, w.heap.size ≤ y from fun y hy => by
  rcases List.mem_append.1 hy with h | h
  ·have := e1 y h; omega
  ·have := hb2 y h; omega)
 obtain ⟨p0, p1, p2, p3, p4, p5, p6, p7, p8⟩ := hr4.box9
 clear q1 q2 r1 r2 nd1 nd2 hb1 hb2 hr4 e1
 go_wp2
 exact bodyPost_ret (v := .agg #[.string x.write.arr, .slice Y2 x.write.subs.length y2, .int .i64 x.value.kind, .int .i64 x.value.num, .slice Y5 x.value.index.coefs.length y5, .int .i64 x.value.index.const, .string x.value.read.arr, .slice Y8 x.value.read.subs.length y8, .slice Y9 x.value.kids.length y9]) (by simp [results, Tryz.results118, go_sem, p0, p1, p2, p3, p4, p5, p6, p7, p8]) rfl (MadeStm.of ⟨_, bs1 ++ bs2, rfl, HF.out.1, HF.out.2, HL.out, S4⟩)
section
variable {w : World} {xs : List Int} {A : Option Addr} {n c : Nat} {bs : List Nat}
theorem new_cellsN (w : World) (l : List Value) (t : TypeId) {N : Nat} (hN : w.heap.size = N) : ∀ j u, l[j]? = some u → (w.alloc (.cells l.toArray t)).cell? ⟨N, j, none⟩ = some u := by subst hN; exact new_cells w l t
end
end Go.Proofs.YtgogjbnneoadkaaGreat
