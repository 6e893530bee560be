/- Marks on whole programs and instances: laws.markProgram, laws.markInstance. -/
import Derived.Test.YtimocdpfnncnlaaGreatTyProgram
import Derived.Test.YtimocdpfnncnlaaGreatBasic
set_option linter.all false
set_option linter.unusedSimpArgs false
set_option linter.unusedVariables false
namespace Go.Proofs.YtimocdpfnncnlaaGreat
open Go.ChangeShapes Go.WideShapes Go.ChangeAt Go.RowKit Go.Deep

theorem Touch.box3 {bs : List Nat} {a b : World} (h : Touch bs a b) {g : Nat} {u0 u1 u2 : Value} (k : Box3 a g u0 u1 u2) (hn : g ∉ bs) : Box3 b g u0 u1 u2 := k.touch h hn
def Pgm.cntM (x : Pgm) : Nat := cntL Ar.cntE x.arrays + cntL Prt.cntE x.parts
theorem Pgm.cntM_le (x : Pgm) : x.cntM ≤ 8 * szD x.d := by
  have h1 := Ar.cnts_le x.arrays
  have h2 := Prt.cnts_le x.parts
  rw [szD_pgm]
  unfold Pgm.cntM; omega
def In.cntM (x : In) : Nat := x.point.length
theorem szD_in' (x : In) : szD x.d = x.point.length := by
  have h : szD x.d = szDs [.int x.part, .int x.stmt, ints x.point] := by simp only [In.d, szD]
  rw [h]; simp only [szDs, szD, szD_ints]; omega
theorem In.cntM_le (x : In) : x.cntM ≤ 8 * szD x.d := by
  rw [szD_in']; unfold In.cntM; omega
set_option maxHeartbeats 1000000 in
theorem markProgram_n {w : World} {x : Pgm} {cs : List Value} {bs : List Nat} {q : Int} (h : Rep w x.d cs bs) (hnd : bs.Nodup) (h0 : 0 ≤ q) (h1 : q + ((x.cntM : Nat) : Int) ≤ 4611686018427387904) :
    Calls Tryz.prog 17 #[.agg cs.toArray, .int .i64 q] w fun e w' => e = .returned (.int .i64 (q + ((x.cntM : Nat) : Int))) ∧ True ∧ Touch bs w w' := by
  obtain ⟨A1, c1, A2, c2, d1, d2, rfl, rfl, g1, g2⟩ := Rep.pgm_iff.1 h
  obtain ⟨n1, n2, dj⟩ := List.nodup_append.1 hnd
  have hc : x.cntM = cntL Ar.cntE x.arrays + cntL Prt.cntE x.parts := rfl
  rw [hc] at h1 ⊢
  have l1 := Rep.lt _ g1
  have l2 := Rep.lt _ g2
  have G1 := Lib.hid g1
  have G2 := Lib.hid g2
  clear h g1 g2 hnd
  obtain ⟨k1, hk1⟩ : ∃ k1, k1 = cntL Ar.cntE x.arrays := ⟨_, rfl⟩
  obtain ⟨k2, hk2⟩ : ∃ k2, k2 = cntL Prt.cntE x.parts := ⟨_, rfl⟩
  have HK1 := Lib.hid hk1
  have HK2 := Lib.hid hk2
  rw [← hk1, ← hk2] at h1 ⊢
  clear hk1 hk2 hc
  have D1 := Lib.hid dj
  have L1 := Lib.hid l1
  have L2 := Lib.hid l2
  clear dj l1 l2
  go_enter Tryz.func17, Tryz.ntmps17
  go_wp2_with fail
  refine (markArrayS_n (G1.out.below bel) n1 (q := q) h0 (by rw [← HK1.out]; omega)).mono ?_
  rintro e w1 ⟨rfl, r1, t1⟩
  rw [← HK1.out]
  have hz : w.heap.size < w1.heap.size := by have := t1.size; simp at this; omega
  have hno : w.heap.size ∉ d1 := fun hm => by have := L1.out _ hm; omega
  have P1 : Box2 w1 w.heap.size (.slice A1 x.arrays.length c1) (.slice A2 x.parts.length c2) := by
    refine ⟨?_, ?_⟩ <;> (rw [t1.cell (by simp) hno]; go_simp)
  have b0 : Below w.heap.size w (w.alloc (.cells #[.slice A1 x.arrays.length c1, .slice A2 x.parts.length c2] 31)) := bel
  have G2b := Lib.hid (Rep.keep _ (G2.out.below b0) (t1.keeps fun y hy => ⟨Rep.lt _ (G2.out.below b0) y hy, fun hm => D1.out y hm y hy rfl⟩))
  have t1b := Lib.hid ((Touch.of_below b0).trans t1)
  clear t1 r1
  go_wp2_with fail
  refine (markPartS_n G2b.out n2 (q := q + (k1 : Int)) (by omega) (by rw [← HK2.out]; omega)).mono ?_
  rintro e w2 ⟨rfl, r2, t2⟩
  rw [← HK2.out]
  go_wp2
  go_ret
  exact ⟨ret_int (by omega), trivial, (t1b.out.mono (by simp +contextual)).trans (t2.mono (by simp +contextual))⟩
end Go.Proofs.YtimocdpfnncnlaaGreat
