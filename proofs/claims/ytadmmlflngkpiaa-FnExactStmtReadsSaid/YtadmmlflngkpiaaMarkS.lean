/- Marks on one access, one expression, one statement: the law package's functions. -/
import Derived.Test.YtadmmlflngkpiaaTyStmt
import Derived.Test.YtadmmlflngkpiaaProg1
import Derived.Test.YtadmmlflngkpiaaUni
set_option linter.all false
set_option linter.unusedSimpArgs false
set_option linter.unusedVariables false
namespace Go.Proofs.Ytadmmlflngkpiaa
open Go.ChangeShapes Go.WideShapes Go.ChangeAt Go.RowKit Go.Deep

theorem Touch.box9 {bs : List Nat} {a b : World} (h : Touch bs a b) {g : Nat} {u0 u1 u2 u3 u4 u5 u6 u7 u8 : Value} (k : Box9 a g u0 u1 u2 u3 u4 u5 u6 u7 u8) (hn : g ∉ bs) : Box9 b g u0 u1 u2 u3 u4 u5 u6 u7 u8 := k.touch h hn
def Acc.cntM (x : Acc) : Nat := cntL Aff.cntE x.subs
def Acc.mkM (q : Int) (x : Acc) : Acc := ⟨x.arr, mkL Aff.mkE Aff.cntE q x.subs⟩
def Ex.cntM (x : Ex) : Nat := x.index.coefs.length + (x.read.cntM + cntL Ex.cntE x.kids)
def Ex.mkM (q : Int) (x : Ex) : Ex := ⟨x.kind, x.num, ⟨seqI q x.index.coefs.length, x.index.const⟩, x.read.mkM (q + ((x.index.coefs.length : Nat) : Int)), mkL Ex.mkE Ex.cntE (q + ((x.index.coefs.length : Nat) : Int) + ((x.read.cntM : Nat) : Int)) x.kids⟩
def Stm.cntM (x : Stm) : Nat := x.write.cntM + x.value.cntM
def Stm.mkM (q : Int) (x : Stm) : Stm := ⟨x.write.mkM q, x.value.mkM (q + ((x.write.cntM : Nat) : Int))⟩
theorem Acc.cntM_le (x : Acc) : x.cntM ≤ 8 * szD x.d := by
  have := Aff.cnts_le x.subs
  rw [szD_acc]; unfold Acc.cntM; omega
theorem Ex.cntM_le (x : Ex) : x.cntM ≤ 8 * szD x.d := by
  have h1 := x.read.cntM_le
  have h2 := Ex.cnts_le x.kids
  rw [szD_ex, szD_aff]; unfold Ex.cntM; omega
theorem Stm.cntM_le (x : Stm) : x.cntM ≤ 8 * szD x.d := by
  have h1 := x.write.cntM_le
  have h2 := x.value.cntM_le
  rw [szD_stm]; unfold Stm.cntM; omega
theorem Acc.mkM_rep {w : World} {x : Acc} {q : Int} {A : Option Addr} {c : Nat} {bs : List Nat} (h1 : x.arr.size ≤ maxLen) (h : Rep w (sls Aff.d (mkL Aff.mkE Aff.cntE q x.subs)) [.slice A x.subs.length c] bs) : Rep w (x.mkM q).d [.string x.arr, .slice A x.subs.length c] bs := by
  refine Rep.acc_iff.2 ⟨A, c, bs, ?_, rfl, h1, ?_⟩
  · show _ = [Value.string x.arr, .slice A (mkL Aff.mkE Aff.cntE q x.subs).length c]
    rw [mkL_len]
  · show Rep w (sls Aff.d (mkL Aff.mkE Aff.cntE q x.subs)) [.slice A (mkL Aff.mkE Aff.cntE q x.subs).length c] bs
    rw [mkL_len]; exact h
theorem Acc.mkM_open {w : World} {x : Acc} {q : Int} {cs : List Value} {bs : List Nat} (h : Rep w (x.mkM q).d cs bs) : ∃ A c, cs = [.string x.arr, .slice A x.subs.length c] ∧ Rep w (sls Aff.d (mkL Aff.mkE Aff.cntE q x.subs)) [.slice A x.subs.length c] bs := by
  obtain ⟨A, c, d, e1, rfl, _, g⟩ := Rep.acc_iff.1 h
  rw [show (x.mkM q).subs.length = x.subs.length from mkL_len _ _ _ _] at e1 g
  exact ⟨A, c, e1, g⟩
theorem markAccess_n {w : World} {x : Acc} {cs : List Value} {bs : List Nat} {q : Int} (h : Rep w x.d cs bs) (hnd : bs.Nodup) (h0 : 0 ≤ q) (h1 : q + ((x.cntM : Nat) : Int) ≤ 4611686018427387904) :
    Calls Try.prog 56 #[.agg cs.toArray, .int .i64 q] w fun e w' => e = .returned (.int .i64 (q + ((x.cntM : Nat) : Int))) ∧ Rep w' (x.mkM q).d cs bs ∧ Touch bs w w' := by
  obtain ⟨A2, c2, d2, rfl, rfl, g1, g2⟩ := Rep.acc_iff.1 h
  unfold Acc.cntM at h1 ⊢
  have G1 := Lib.hid g1
  have G2 := Lib.hid g2
  clear h g1 g2
  go_enter Try.func56, Try.ntmps56
  go_wp2_with fail
  refine (markAffineS_n (G2.out.below bel) hnd h0 h1).mono ?_
  rintro e w1 ⟨rfl, r1, t1⟩
  go_wp2
  go_ret
  exact ⟨rfl, Acc.mkM_rep G1.out r1, (Touch.of_below (by exact bel)).trans t1⟩
theorem heldAccess_n {w : World} {x : Acc} {cs : List Value} {bs : List Nat} {q : Int} (h : Rep w (x.mkM q).d cs bs) (h0 : 0 ≤ q) (h1 : q + ((x.cntM : Nat) : Int) ≤ 4611686018427387904) :
    Calls Try.prog 66 #[.agg cs.toArray, .int .i64 q] w fun e w' => e = .returned (.int .i64 (q + ((x.cntM : Nat) : Int))) ∧ Below w.heap.size w w' := by
  obtain ⟨A2, c2, rfl, g2⟩ := Acc.mkM_open h
  unfold Acc.cntM at h1 ⊢
  have G2 := Lib.hid g2
  clear h g2
  obtain ⟨k, hk⟩ : ∃ k, k = cntL Aff.cntE x.subs := ⟨_, rfl⟩
  have HK := Lib.hid hk
  rw [← hk] at h1 ⊢
  clear hk
  go_enter Try.func66, Try.ntmps66
  go_wp2_with fail
  refine (heldAffineS_n (G2.out.below bel) h0 (by rw [← HK.out]; exact h1)).mono ?_
  rintro e w1 ⟨rfl, b1⟩
  rw [← HK.out]
  go_wp2
  go_ret
  exact ⟨rfl, bel⟩
theorem Ex.mkM_rep {w : World} {x : Ex} {q : Int} {A3 A6 A7 : Option Addr} {c3 c6 c7 : Nat} {d3 d6 d7 : List Nat} (hi : I64 x.kind ∧ I64 x.num)
    (h1 : Rep w (Aff.d ⟨seqI q x.index.coefs.length, x.index.const⟩) [.slice A3 x.index.coefs.length c3, .int .i64 x.index.const] d3)
    (h2 : Rep w (x.read.mkM (q + ((x.index.coefs.length : Nat) : Int))).d [.string x.read.arr, .slice A6 x.read.subs.length c6] d6)
    (h3 : Rep w (sls Ex.d (mkL Ex.mkE Ex.cntE (q + ((x.index.coefs.length : Nat) : Int) + ((x.read.cntM : Nat) : Int)) x.kids)) [.slice A7 x.kids.length c7] d7) :
    Rep w (x.mkM q).d [.int .i64 x.kind, .int .i64 x.num, .slice A3 x.index.coefs.length c3, .int .i64 x.index.const, .string x.read.arr, .slice A6 x.read.subs.length c6, .slice A7 x.kids.length c7] (d3 ++ d6 ++ d7) := by
  rw [Ex.d_eq]
  simp only [Rep, Reps]
  exact ⟨[_], _, [], d3 ++ d6 ++ d7, rfl, rfl, ⟨rfl, rfl, hi.1⟩, [_], _, [], d3 ++ d6 ++ d7, rfl, rfl, ⟨rfl, rfl, hi.2⟩, [_, _], _, d3, d6 ++ d7, rfl, by simp, h1, [_, _], _, d6, d7, rfl, rfl, h2, [_], [], d7, [], rfl, by simp, h3, rfl, rfl⟩
theorem Ex.mkM_open {w : World} {x : Ex} {q : Int} {cs : List Value} {bs : List Nat} (h : Rep w (x.mkM q).d cs bs) : ∃ (A3 A6 A7 : Option Addr) (c3 c6 c7 : Nat) (d3 d6 d7 : List Nat), cs = [.int .i64 x.kind, .int .i64 x.num, .slice A3 x.index.coefs.length c3, .int .i64 x.index.const, .string x.read.arr, .slice A6 x.read.subs.length c6, .slice A7 x.kids.length c7] ∧
    Rep w (Aff.d ⟨seqI q x.index.coefs.length, x.index.const⟩) [.slice A3 x.index.coefs.length c3, .int .i64 x.index.const] d3 ∧ Rep w (x.read.mkM (q + ((x.index.coefs.length : Nat) : Int))).d [.string x.read.arr, .slice A6 x.read.subs.length c6] d6 ∧
    Rep w (sls Ex.d (mkL Ex.mkE Ex.cntE (q + ((x.index.coefs.length : Nat) : Int) + ((x.read.cntM : Nat) : Int)) x.kids)) [.slice A7 x.kids.length c7] d7 := by
  obtain ⟨A3, c3, A6, c6, A7, c7, d3, d6, d7, e1, rfl, g1, g2, g3, g4, g5, g6, g7⟩ := Rep.ex_iff.1 h
  have l3 : (x.mkM q).index.coefs.length = x.index.coefs.length := seqI_len _ _
  have l6 : (x.mkM q).read.subs.length = x.read.subs.length := mkL_len _ _ _ _
  have l7 : (x.mkM q).kids.length = x.kids.length := mkL_len _ _ _ _
  rw [l3, l6, l7] at e1
  rw [l3] at g3
  rw [l6] at g6
  rw [l7] at g7
  exact ⟨A3, A6, A7, c3, c6, c7, d3, d6, d7, e1, Rep.aff_iff.2 ⟨_, _, _, rfl, g3, g4⟩, Acc.mkM_rep g5 g6, g7⟩
set_option maxRecDepth 100000 in
set_option maxHeartbeats 2000000 in
theorem markExpr_n {w : World} {x : Ex} {cs : List Value} {bs : List Nat} {q : Int} (h : Rep w x.d cs bs) (hnd : bs.Nodup) (h0 : 0 ≤ q) (h1 : q + ((x.cntM : Nat) : Int) ≤ 4611686018427387904) :
    Calls Try.prog 57 #[.agg cs.toArray, .int .i64 q] w fun e w' => e = .returned (.int .i64 (q + ((x.cntM : Nat) : Int))) ∧ Rep w' (x.mkM q).d cs bs ∧ Touch bs w w' := by
  have hlt := Rep.lt _ h
  obtain ⟨A3, c3, A6, c6, A7, c7, d3, d6, d7, rfl, rfl, g1, g2, g3, g4, g5, g6, g7⟩ := Rep.ex_iff.1 h
  have LT := Lib.hid hlt
  have hno3 : w.heap.size ∉ d3 := fun hm => by have := hlt _ (by simp [hm] : w.heap.size ∈ d3 ++ d6 ++ d7); omega
  have hno6 : w.heap.size ∉ d6 := fun hm => by have := hlt _ (by simp [hm] : w.heap.size ∈ d3 ++ d6 ++ d7); omega
  have hno7 : w.heap.size ∉ d7 := fun hm => by have := hlt _ (by simp [hm] : w.heap.size ∈ d3 ++ d6 ++ d7); omega
  have hnd2 := hnd
  rw [List.append_assoc] at hnd2
  obtain ⟨n3, n67, dj1⟩ := List.nodup_append.1 hnd2
  obtain ⟨n6, n7, dj2⟩ := List.nodup_append.1 n67
  have GI := Lib.hid (show Rep w x.index.d [.slice A3 x.index.coefs.length c3, .int .i64 x.index.const] d3 from Rep.aff_iff.2 ⟨_, _, _, rfl, g3, g4⟩)
  have GR := Lib.hid (show Rep w x.read.d [.string x.read.arr, .slice A6 x.read.subs.length c6] d6 from Rep.acc_iff.2 ⟨_, _, _, rfl, rfl, g5, g6⟩)
  have GK := Lib.hid g7
  have HII := Lib.hid (And.intro g1 g2)
  have D1 := Lib.hid dj1
  have D2 := Lib.hid dj2
  have N0 := Lib.hid (And.intro hno3 (And.intro hno6 hno7))
  clear h g1 g2 g3 g4 g5 g6 g7 hnd hnd2 n67 dj1 dj2 hno3 hno6 hno7 hlt
  have HEQ := Lib.hid (show q + ((x.cntM : Nat) : Int) = q + ((x.index.coefs.length : Nat) : Int) + ((x.read.cntM : Nat) : Int) + ((cntL Ex.cntE x.kids : Nat) : Int) by unfold Ex.cntM; omega)
  rw [HEQ.out] at h1 ⊢
  have b0 : Below w.heap.size w (w.alloc (.cells #[.int .i64 x.kind, .int .i64 x.num, .slice A3 x.index.coefs.length c3, .int .i64 x.index.const, .string x.read.arr, .slice A6 x.read.subs.length c6, .slice A7 x.kids.length c7] 50)) := bel
  go_enter Try.func57, Try.ntmps57
  go_wp2_with fail
  refine (markAffine_n (GI.out.below b0) n3 h0 (by omega)).mono ?_
  rintro e w1 ⟨rfl, r1, t1⟩
  have hz : w.heap.size < w1.heap.size := by have := t1.size; simp at this; omega
  have P1 : Box7 w1 w.heap.size (.int .i64 x.kind) (.int .i64 x.num) (.slice A3 x.index.coefs.length c3) (.int .i64 x.index.const) (.string x.read.arr) (.slice A6 x.read.subs.length c6) (.slice A7 x.kids.length c7) := by
    refine ⟨?_, ?_, ?_, ?_, ?_, ?_, ?_⟩ <;> (rw [t1.cell (by simp) N0.out.1]; go_simp)
  have GR1 := Lib.hid (Rep.keep _ (GR.out.below b0) (t1.keeps fun y hy => ⟨Rep.lt _ (GR.out.below b0) y hy, fun hm => D1.out y hm y (List.mem_append_left _ hy) rfl⟩))
  have GK1 := Lib.hid (Rep.keep _ (GK.out.below b0) (t1.keeps fun y hy => ⟨Rep.lt _ (GK.out.below b0) y hy, fun hm => D1.out y hm y (List.mem_append_right _ hy) rfl⟩))
  have T1 := Lib.hid ((Touch.of_below b0).trans t1)
  have R1 := Lib.hid r1
  clear t1 r1 b0
  go_wp2_with fail
  refine (markAccess_n GR1.out n6 (by omega) (by omega)).mono ?_
  rintro e w2 ⟨rfl, r2, t2⟩
  have P2 : Box7 w2 w.heap.size (.int .i64 x.kind) (.int .i64 x.num) (.slice A3 x.index.coefs.length c3) (.int .i64 x.index.const) (.string x.read.arr) (.slice A6 x.read.subs.length c6) (.slice A7 x.kids.length c7) := P1.touch t2 N0.out.2.1
  have hz2 : w.heap.size < w2.heap.size := lt_of_cell P2.1
  have GK2 := Lib.hid (Rep.keep _ GK1.out (t2.keeps fun y hy => ⟨Rep.lt _ GK1.out y hy, fun hm => D2.out y hm y hy rfl⟩))
  have R1b := Lib.hid (Rep.keep _ R1.out (t2.keeps fun y hy => ⟨Rep.lt _ R1.out y hy, fun hm => D1.out y hy y (List.mem_append_left _ hm) rfl⟩))
  have T2 := Lib.hid t2
  have R2 := Lib.hid r2
  clear t2 r2 P1 GK1 GR1 R1
  go_wp2_with fail
  refine (markExprS_n GK2.out n7 (by omega) (by omega)).mono ?_
  rintro e w3 ⟨rfl, r3, t3⟩
  have R1c := Lib.hid (Rep.keep _ R1b.out (t3.keeps fun y hy => ⟨Rep.lt _ R1b.out y hy, fun hm => D1.out y hy y (List.mem_append_right _ hm) rfl⟩))
  have R2c := Lib.hid (Rep.keep _ R2.out (t3.keeps fun y hy => ⟨Rep.lt _ R2.out y hy, fun hm => D2.out y hy y hm rfl⟩))
  have T3 := Lib.hid t3
  have R3 := Lib.hid r3
  clear t3 r3 P2
  go_wp2
  go_ret
  exact ⟨rfl, Ex.mkM_rep HII.out R1c.out R2c.out R3.out, ((T1.out.mono (by simp +contextual)).trans (T2.out.mono (by simp +contextual))).trans (T3.out.mono (by simp +contextual))⟩
set_option maxRecDepth 100000 in
set_option maxHeartbeats 2000000 in
theorem heldExpr_n {w : World} {x : Ex} {cs : List Value} {bs : List Nat} {q : Int} (h : Rep w (x.mkM q).d cs bs) (h0 : 0 ≤ q) (h1 : q + ((x.cntM : Nat) : Int) ≤ 4611686018427387904) :
    Calls Try.prog 67 #[.agg cs.toArray, .int .i64 q] w fun e w' => e = .returned (.int .i64 (q + ((x.cntM : Nat) : Int))) ∧ Below w.heap.size w w' := by
  obtain ⟨A3, A6, A7, c3, c6, c7, d3, d6, d7, rfl, gi, gr, gk⟩ := Ex.mkM_open h
  have GI := Lib.hid gi
  have GR := Lib.hid gr
  have GK := Lib.hid gk
  clear h gi gr gk
  have HEQ := Lib.hid (show q + ((x.cntM : Nat) : Int) = q + ((x.index.coefs.length : Nat) : Int) + ((x.read.cntM : Nat) : Int) + ((cntL Ex.cntE x.kids : Nat) : Int) by unfold Ex.cntM; omega)
  rw [HEQ.out] at h1 ⊢
  have b0 : Below w.heap.size w (w.alloc (.cells #[.int .i64 x.kind, .int .i64 x.num, .slice A3 x.index.coefs.length c3, .int .i64 x.index.const, .string x.read.arr, .slice A6 x.read.subs.length c6, .slice A7 x.kids.length c7] 50)) := bel
  go_enter Try.func67, Try.ntmps67
  go_wp2_with fail
  refine (heldAffine_n (GI.out.below bel) h0 (by omega)).mono ?_
  rintro e w1 ⟨rfl, b1⟩
  have P1 : Box7 w1 w.heap.size (.int .i64 x.kind) (.int .i64 x.num) (.slice A3 x.index.coefs.length c3) (.int .i64 x.index.const) (.string x.read.arr) (.slice A6 x.read.subs.length c6) (.slice A7 x.kids.length c7) := by
    refine ⟨?_, ?_, ?_, ?_, ?_, ?_, ?_⟩ <;> (rw [b1.cell (by simp [World.setCell]; try omega)]; go_simp)
  have S1 : Below w.heap.size w w1 := bel
  go_wp2_with fail
  refine (heldAccess_n ((GR.out.below bel).below b1) (by omega) (by omega)).mono ?_
  rintro e w2 ⟨rfl, b2⟩
  have s2 : Below w1.heap.size w1 w2 := bel
  have P2 := P1.to s2; clear P1
  have S2 : Below w.heap.size w w2 := below_tr S1 s2
  clear s2
  go_wp2_with fail
  refine (heldExprS_n (((GK.out.below b0).below b1).below b2) (by omega) (by omega)).mono ?_
  rintro e w3 ⟨rfl, b3⟩
  have s3 : Below w2.heap.size w2 w3 := bel
  have P3 := P2.to s3; clear P2
  have S3 : Below w.heap.size w w3 := below_tr S2 s3
  clear s3
  go_wp2
  go_ret
  exact ⟨rfl, S3⟩
theorem Stm.mkM_rep {w : World} {x : Stm} {q : Int} {c1 c2 : List Value} {b1 b2 : List Nat} (h1 : Rep w (x.write.mkM q).d c1 b1) (h2 : Rep w (x.value.mkM (q + ((x.write.cntM : Nat) : Int))).d c2 b2) : Rep w (x.mkM q).d (c1 ++ c2) (b1 ++ b2) := by
  unfold Stm.mkM Stm.d
  simp only [Rep, Reps]
  exact ⟨c1, c2, b1, b2, rfl, rfl, h1, c2, [], b2, [], by simp, by simp, h2, rfl, rfl⟩
theorem Stm.mkM_open {w : World} {x : Stm} {q : Int} {cs : List Value} {bs : List Nat} (h : Rep w (x.mkM q).d cs bs) : ∃ c1 c2 b1 b2, cs = c1 ++ c2 ∧ Rep w (x.write.mkM q).d c1 b1 ∧ Rep w (x.value.mkM (q + ((x.write.cntM : Nat) : Int))).d c2 b2 := by
  unfold Stm.mkM Stm.d at h
  simp only [Rep, Reps] at h
  obtain ⟨c1, r1, b1, s1, rfl, rfl, g1, c2, r2, b2, s2, rfl, rfl, g2, rfl, rfl⟩ := h
  exact ⟨c1, c2, b1, b2, by simp, g1, g2⟩
set_option maxRecDepth 100000 in
set_option maxHeartbeats 2000000 in
theorem markStmt_n {w : World} {x : Stm} {cs : List Value} {bs : List Nat} {q : Int} (h : Rep w x.d cs bs) (hnd : bs.Nodup) (h0 : 0 ≤ q) (h1 : q + ((x.cntM : Nat) : Int) ≤ 4611686018427387904) :
    Calls Try.prog 23 #[.agg cs.toArray, .int .i64 q] w fun e w' => e = .returned (.int .i64 (q + ((x.cntM : Nat) : Int))) ∧ Rep w' (x.mkM q).d cs bs ∧ Touch bs w w' := by
  have hlt := Rep.lt _ h
  have HH := h
  obtain ⟨A2, c2, A5, c5, A8, c8, A9, c9, d2, d5, d8, d9, rfl, rfl, g1, g2, g3, g4, g5, g6, g7, g8, g9⟩ := Rep.stm_iff.1 HH
  have Gwrite := Lib.hid ((Rep.acc_iff (x := x.write)).2 ⟨_, _, _, rfl, rfl, g1, g2⟩)
  have Gvalue := Lib.hid ((Rep.ex_iff (x := x.value)).2 ⟨_, _, _, _, _, _, _, _, _, rfl, rfl, g3, g4, g5, g6, g7, g8, g9⟩)
  clear HH g1 g2 g3 g4 g5 g6 g7 g8 g9
  rw [List.append_assoc, List.append_assoc] at hnd hlt
  obtain ⟨n1, n2, dj⟩ := List.nodup_append.1 hnd
  have hno1 : w.heap.size ∉ d2 := fun hm => by have := hlt _ (List.mem_append_left _ hm); omega
  have hno2 : w.heap.size ∉ d5 ++ (d8 ++ d9) := fun hm => by have := hlt _ (List.mem_append_right _ hm); omega
  rw [← List.append_assoc] at n2 hno2 dj
  have D1 := Lib.hid dj
  have N0 := Lib.hid (And.intro hno1 hno2)
  clear h hnd dj hno1 hno2 hlt
  have HEQ := Lib.hid (show q + ((x.cntM : Nat) : Int) = q + ((x.write.cntM : Nat) : Int) + ((x.value.cntM : Nat) : Int) by unfold Stm.cntM; omega)
  rw [HEQ.out] at h1 ⊢
  have b0 : Below w.heap.size w (w.alloc (.cells #[.string x.write.arr, .slice A2 x.write.subs.length c2, .int .i64 x.value.kind, .int .i64 x.value.num, .slice A5 x.value.index.coefs.length c5, .int .i64 x.value.index.const, .string x.value.read.arr, .slice A8 x.value.read.subs.length c8, .slice A9 x.value.kids.length c9] 52)) := bel
  go_enter Try.func23, Try.ntmps23
  go_wp2_with fail
  refine (markAccess_n (Gwrite.out.below b0) n1 h0 (by omega)).mono ?_
  rintro e w1 ⟨rfl, r1, t1⟩
  have hz : w.heap.size < w1.heap.size := by have := t1.size; simp at this; omega
  have P1 : Box9 w1 w.heap.size (.string x.write.arr) (.slice A2 x.write.subs.length c2) (.int .i64 x.value.kind) (.int .i64 x.value.num) (.slice A5 x.value.index.coefs.length c5) (.int .i64 x.value.index.const) (.string x.value.read.arr) (.slice A8 x.value.read.subs.length c8) (.slice A9 x.value.kids.length c9) := by
    refine ⟨?_, ?_, ?_, ?_, ?_, ?_, ?_, ?_, ?_⟩ <;> (rw [t1.cell (by simp) N0.out.1]; go_simp)
  have GV1 := Lib.hid (Rep.keep _ (Gvalue.out.below b0) (t1.keeps fun y hy => ⟨Rep.lt _ (Gvalue.out.below b0) y hy, fun hm => D1.out y hm y hy rfl⟩))
  have T1 := Lib.hid ((Touch.of_below b0).trans t1)
  have R1 := Lib.hid r1
  clear t1 r1 b0
  go_wp2_with fail
  refine (markExpr_n GV1.out n2 (by omega) (by omega)).mono ?_
  rintro e w2 ⟨rfl, r2, t2⟩
  have R1b := Lib.hid (Rep.keep _ R1.out (t2.keeps fun y hy => ⟨Rep.lt _ R1.out y hy, fun hm => D1.out y hy y hm rfl⟩))
  have T2 := Lib.hid t2
  have R2 := Lib.hid r2
  clear t2 r2 P1 GV1 R1
  go_wp2
  go_ret
  refine ⟨rfl, ?_, (T1.out.mono (by simp +contextual)).trans (T2.out.mono (by simp +contextual))⟩
  have := Stm.mkM_rep R1b.out R2.out
  simpa [List.append_assoc] using this
set_option maxRecDepth 100000 in
set_option maxHeartbeats 2000000 in
theorem heldStmt_n {w : World} {x : Stm} {cs : List Value} {bs : List Nat} {q : Int} (h : Rep w (x.mkM q).d cs bs) (h0 : 0 ≤ q) (h1 : q + ((x.cntM : Nat) : Int) ≤ 4611686018427387904) :
    Calls Try.prog 32 #[.agg cs.toArray, .int .i64 q] w fun e w' => e = .returned (.int .i64 (q + ((x.cntM : Nat) : Int))) ∧ Below w.heap.size w w' := by
  obtain ⟨cw, cv, bw, bv, rfl, gw, gv⟩ := Stm.mkM_open h
  have gw2 := gw
  have gv2 := gv
  obtain ⟨A2, c2, rfl, _⟩ := Acc.mkM_open gw2
  obtain ⟨A5, A8, A9, c5, c8, c9, d5, d8, d9, rfl, _, _, _⟩ := Ex.mkM_open gv2
  have GW := Lib.hid gw
  have GV := Lib.hid gv
  clear h gw gv gw2 gv2
  have HEQ := Lib.hid (show q + ((x.cntM : Nat) : Int) = q + ((x.write.cntM : Nat) : Int) + ((x.value.cntM : Nat) : Int) by unfold Stm.cntM; omega)
  rw [HEQ.out] at h1 ⊢
  simp only [List.cons_append, List.nil_append]
  go_enter Try.func32, Try.ntmps32
  go_wp2_with fail
  refine (heldAccess_n (GW.out.below bel) h0 (by omega)).mono ?_
  rintro e w1 ⟨rfl, b1⟩
  have P1 : Box9 w1 w.heap.size (.string x.write.arr) (.slice A2 x.write.subs.length c2) (.int .i64 x.value.kind) (.int .i64 x.value.num) (.slice A5 x.value.index.coefs.length c5) (.int .i64 x.value.index.const) (.string x.value.read.arr) (.slice A8 x.value.read.subs.length c8) (.slice A9 x.value.kids.length c9) := by
    refine ⟨?_, ?_, ?_, ?_, ?_, ?_, ?_, ?_, ?_⟩ <;> (rw [b1.cell (by simp [World.setCell]; try omega)]; go_simp)
  have S1 : Below w.heap.size w w1 := bel
  go_wp2_with fail
  refine (heldExpr_n ((GV.out.below bel).below b1) (by omega) (by omega)).mono ?_
  rintro e w2 ⟨rfl, b2⟩
  have s2 : Below w1.heap.size w1 w2 := bel
  have P2 := P1.to s2; clear P1
  have S2 : Below w.heap.size w w2 := below_tr S1 s2
  clear s2
  go_wp2
  go_ret
  exact ⟨rfl, S2⟩
end Go.Proofs.Ytadmmlflngkpiaa
