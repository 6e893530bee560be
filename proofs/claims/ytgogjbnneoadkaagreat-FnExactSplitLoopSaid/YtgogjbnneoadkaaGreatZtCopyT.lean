/- Copies of the reference: a statement. -/
import Derived.Test.YtgogjbnneoadkaaGreatZtCopyE
import Derived.Test.YtgogjbnneoadkaaGreatZtMapT
set_option linter.all false
set_option maxHeartbeats 4000000
set_option maxRecDepth 100000
namespace Go.Proofs.YtgogjbnneoadkaaGreat
open Go.ChangeShapes Go.WideShapes Go.ChangeAt Go.RowKit Go.Deep
theorem Tryz.sizeStmt9 : (Tryz.prog.info? 102).map (·.size) = some 9 := by kernel_rfl
theorem l3Copy_c {w : World} {x : Stm} {cs : List Value} {bs : List Nat} {d : Int} (h : Rep w x.d cs bs) (hv : StmtValidF x d = true) : Calls Tryz.prog 118 #[.agg cs.toArray] w (MadeStm w x) := by
 have HO := Lib.hid (stm_ok hv)
 have HV := Lib.hid (stmtValid_parts hv)
 obtain ⟨A2, c2, A5, c5, A8, c8, A9, c9, d2, d5, d8, d9, rfl, rfl, g1, g2, g3, g4, g5, g6, g7, g8, g9⟩ := Rep.stm_iff.1 h
 have Gwrite := Lib.hid ((Rep.acc_iff (x := x.write)).2 ⟨_, _, _, rfl, rfl, g1, g2⟩)
 have Gvalue := Lib.hid ((Rep.ex_iff (x := x.value)).2 ⟨_, _, _, _, _, _, _, _, _, rfl, rfl, g3, g4, g5, g6, g7, g8, g9⟩)
 clear h g1 g2 g3 g4 g5 g6 g7 g8 g9
 clear hv
 have HZ0 := Lib.hid (Row.new2 w [.string x.write.arr, .slice A2 x.write.subs.length c2, .int .i64 x.value.kind, .int .i64 x.value.num, .slice A5 x.value.index.coefs.length c5, .int .i64 x.value.index.const, .string x.value.read.arr, .slice A8 x.value.read.subs.length c8, .slice A9 x.value.kids.length c9] [.string ⟨#[]⟩, .slice none 0 0, .int .i64 0, .int .i64 0, .slice none 0 0, .int .i64 0, .string ⟨#[]⟩, .slice none 0 0, .slice none 0 0] 102)
 go_enter Tryz.func118, Tryz.ntmps118
 go_wp2
 refine wp_region_noPanic ?_
 refine wp_region_held_drew (S := fun w' => Box9 w' w.heap.size (.string x.write.arr) (.slice A2 x.write.subs.length c2) (.int .i64 x.value.kind) (.int .i64 x.value.num) (.slice A5 x.value.index.coefs.length c5) (.int .i64 x.value.index.const) (.string x.value.read.arr) (.slice A8 x.value.read.subs.length c8) (.slice A9 x.value.kids.length c9)) (by kernel_rfl) (⟨by go_simp, by go_simp, by go_simp, by go_simp, by go_simp, by go_simp, by go_simp, by go_simp, by go_simp⟩) (fun hHeld => ?_)
 refine goR 0 hHeld ?_
 refine goR 1 hHeld ?_
 refine goR 3 hHeld ?_
 refine goR 4 hHeld ?_
 refine stepR (i := 2) rfl (by kernel_rfl) (wanted_none rfl) (fun K hK => ?_)
 go_simp
 (refine (l3CopyAccess_c (Gwrite.out.below bel) HO.out.2.1 (fun t ht => by have := (affOk_iff.1 (HO.out.1 t ht)).1; omega)).mono ?_; rintro e w1 ⟨Y2, y2, bs1, rfl, r1, nd1, hb1, b1⟩; have z1 := b1.size; simp at z1; have S1 : Below w.heap.size w w1 := bel; have HZ1 := Lib.hid (HZ0.out.of_block (b1.block (w.heap.size + 1) (by simp))))
 go_wp2_with fail
 refine hK.out _ _ (hHeld.to b1) (fun hHeld => ?_)
 clear hK K
 try simp only [Act.put, aq0, aq1, aq2]
 refine stepR (i := 5) rfl (by kernel_rfl) (wanted_none rfl) (fun K hK => ?_)
 go_simp
 (refine (l3CopyExpr_c x.value 5 d _ _ _ HV.out.2.1 (Gvalue.out.below S1)).mono ?_; rintro e w2 ⟨Y5, y5, Y8, y8, Y9, y9, bs2, rfl, r2, nd2, hb2, b2⟩; have z2 := b2.size; have HZ2 := Lib.hid (HZ1.out.to b2))
 go_wp2_with fail
 refine hK.out _ _ (hHeld.to b2) (fun hHeld => ?_)
 clear hK K
 try simp only [Act.put, aq0, aq1, aq2]
 refine goR 6 hHeld ?_
 refine stepR (i := 7) rfl (by kernel_rfl) (wanted_none rfl) (fun K hK => ?_)
 (refine wp_store_row 102 (.tmp 2) (.tmp 9) rfl (vs := [.string x.write.arr, .slice Y2 x.write.subs.length y2, .int .i64 x.value.kind, .int .i64 x.value.num, .slice Y5 x.value.index.coefs.length y5, .int .i64 x.value.index.const, .string x.value.read.arr, .slice Y8 x.value.read.subs.length y8, .slice Y9 x.value.kids.length y9]) rfl rfl HZ2.out rfl Tryz.sizeStmt9 rfl ?_; intro w4 hr4 t4)
 refine hK.out _ _ ((hHeld.touch t4 (by simp))) (fun hHeld => ?_)
 clear hK K
 try simp only [Act.put, aq0, aq1, aq2]
 refine wpAnyH_done (by kernel_rfl) ?_ _
 refine NoPanic.normal ?_
 have e1 : ∀ y ∈ bs1, w.heap.size + 2 ≤ y := fun y hy => by have := hb1 y hy; simp at this; omega
 have q1 := Rep.keep _ (r1.below b2) (t4.keeps (l := bs1) fun y hy => ⟨by have := Rep.lt _ r1 y hy; omega, by have := e1 y hy; simp; omega⟩)
 have q2 := Rep.keep _ r2 (t4.keeps (l := bs2) fun y hy => ⟨Rep.lt _ r2 y hy, by have := hb2 y hy; simp; omega⟩)
 have S4 : Below w.heap.size w w4 := (below_tr S1 b2).trans (t4.below (by omega) (by simp))
 have HF := Lib.hid (And.intro (Stm.rep_of (x := x) q1 q2) (List.nodup_append.2 ⟨nd1, nd2, fun y h1 z h2 e => by subst e; have := Rep.lt _ r1 y h1; have := hb2 y h2; omega⟩))
 have HL := Lib.hid (show ∀ y ∈ bs1 ++ bs2, w.heap.size ≤ y from fun y hy => by
  rcases List.mem_append.1 hy with h | h
  ·have := e1 y h; omega
  ·have := hb2 y h; omega)
 obtain ⟨p0, p1, p2, p3, p4, p5, p6, p7, p8⟩ := hr4.box9
 clear q1 q2 r1 r2 nd1 nd2 hb1 hb2 hr4 e1
 go_wp2
 exact bodyPost_ret (v := .agg #[.string x.write.arr, .slice Y2 x.write.subs.length y2, .int .i64 x.value.kind, .int .i64 x.value.num, .slice Y5 x.value.index.coefs.length y5, .int .i64 x.value.index.const, .string x.value.read.arr, .slice Y8 x.value.read.subs.length y8, .slice Y9 x.value.kids.length y9]) (by simp [results, Tryz.results118, go_sem, p0, p1, p2, p3, p4, p5, p6, p7, p8]) rfl (MadeStm.of ⟨_, bs1 ++ bs2, rfl, HF.out.1, HF.out.2, HL.out, S4⟩)
end Go.Proofs.YtgogjbnneoadkaaGreat
