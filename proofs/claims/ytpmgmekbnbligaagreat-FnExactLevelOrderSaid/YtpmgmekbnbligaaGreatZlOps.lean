/- Texts of this seat, joined: OpAffine, OpLoop, OpAccess, OpExpr, OpStmt, OpArray, OpPart, OpProgram, OpInstance. -/
import Derived.Test.YtpmgmekbnbligaaGreatZlTyProgram
import Derived.Test.YtpmgmekbnbligaaGreatZlBasic
import Derived.Test.YtpmgmekbnbligaaGreatZlLaw
import Derived.Test.YtpmgmekbnbligaaGreatZlTyAffine
import Derived.Test.YtpmgmekbnbligaaGreatZlTyLoop
import Derived.Test.YtpmgmekbnbligaaGreatZlTyAccess
import Derived.Test.YtpmgmekbnbligaaGreatZlTyExpr
import Derived.Test.YtpmgmekbnbligaaGreatZlTyStmt
import Derived.Test.YtpmgmekbnbligaaGreatZlTyArray
import Derived.Test.YtpmgmekbnbligaaGreatZlTyPart
set_option linter.all false
set_option linter.unusedSimpArgs false
set_option linter.unusedVariables false
namespace Go.Proofs.YtpmgmekbnbligaaGreat
open Go.ChangeShapes Go.WideShapes Go.ChangeAt Go.RowKit Go.Deep

def Pgm.cntM (x : Pgm) : Nat := cntL Ar.cntE x.arrays + cntL Prt.cntE x.parts
def Pgm.mkM (q : Int) (x : Pgm) : Pgm := ⟨mkL Ar.mkE Ar.cntE q x.arrays, mkL Prt.mkE Prt.cntE (q + ((cntL Ar.cntE x.arrays : Nat) : Int)) x.parts⟩
theorem Pgm.mkM_rep {w : World} {x : Pgm} {q : Int} {A1 A2 : Option Addr} {n1 n2 c1 c2 : Nat} {b1 b2 : List Nat} (h1 : Rep w (sls Ar.d (mkL Ar.mkE Ar.cntE q x.arrays)) [.slice A1 n1 c1] b1) (h2 : Rep w (sls Prt.d (mkL Prt.mkE Prt.cntE (q + ((cntL Ar.cntE x.arrays : Nat) : Int)) x.parts)) [.slice A2 n2 c2] b2) : Rep w (x.mkM q).d [.slice A1 n1 c1, .slice A2 n2 c2] (b1 ++ b2) := by
  show Reps w [sls Ar.d (x.mkM q).arrays, sls Prt.d (x.mkM q).parts] _ _
  simp only [Reps]
  exact ⟨[.slice A1 n1 c1], [.slice A2 n2 c2], b1, b2, rfl, rfl, h1, [.slice A2 n2 c2], [], b2, [], by simp, by simp, h2, rfl, rfl⟩
theorem Pgm.cntM_le (x : Pgm) : x.cntM ≤ 8 * szD x.d := by
  have h1 := Ar.cnts_le x.arrays
  have h2 := Prt.cnts_le x.parts
  rw [szD_pgm]
  unfold Pgm.cntM; omega
set_option maxHeartbeats 1000000 in
theorem markProgram_n {w : World} {x : Pgm} {cs : List Value} {bs : List Nat} {q : Int} (h : Rep w x.d cs bs) (hnd : bs.Nodup) (h0 : 0 ≤ q) (h1 : q + ((x.cntM : Nat) : Int) ≤ 4611686018427387904) :
    Calls Tryz.prog 11 #[.agg cs.toArray, .int .i64 q] w fun e w' => e = .returned (.int .i64 (q + ((x.cntM : Nat) : Int))) ∧ Rep w' (x.mkM q).d cs bs ∧ Touch bs w w' := by
  obtain ⟨A1, c1, A2, c2, d1, d2, rfl, rfl, g1, g2⟩ := Rep.pgm_iff.1 h
  obtain ⟨n1, n2, dj⟩ := List.nodup_append.1 hnd
  have hc : x.cntM = cntL Ar.cntE x.arrays + cntL Prt.cntE x.parts := rfl
  rw [hc] at h1 ⊢
  have l1 := Rep.lt _ g1
  have l2 := Rep.lt _ g2
  have G1 := Lib.hid g1
  have G2 := Lib.hid g2
  clear h g1 g2 hnd
  obtain ⟨k1, hk1⟩ : ∃ k1, k1 = cntL Ar.cntE x.arrays := ⟨_, rfl⟩
  obtain ⟨k2, hk2⟩ : ∃ k2, k2 = cntL Prt.cntE x.parts := ⟨_, rfl⟩
  have HK1 := Lib.hid hk1
  have HK2 := Lib.hid hk2
  rw [← hk1, ← hk2] at h1 ⊢
  clear hk1 hk2 hc
  have D1 := Lib.hid dj
  have L1 := Lib.hid l1
  have L2 := Lib.hid l2
  clear dj l1 l2
  go_enter Tryz.func11, Tryz.ntmps11
  go_wp2_with fail
  refine (markArrayS_n (G1.out.below bel) n1 (q := q) h0 (by rw [← HK1.out]; omega)).mono ?_
  rintro e w1 ⟨rfl, r1, t1⟩
  rw [← HK1.out]
  have hz : w.heap.size < w1.heap.size := by have := t1.size; simp at this; omega
  have hno : w.heap.size ∉ d1 := fun hm => by have := L1.out _ hm; omega
  have P1 : Box2 w1 w.heap.size (.slice A1 x.arrays.length c1) (.slice A2 x.parts.length c2) := by
    refine ⟨?_, ?_⟩ <;> (rw [t1.cell (by simp) hno]; go_simp)
  have b0 : Below w.heap.size w (w.alloc (.cells #[.slice A1 x.arrays.length c1, .slice A2 x.parts.length c2] 32)) := bel
  have G2b := Lib.hid (Rep.keep _ (G2.out.below b0) (t1.keeps fun y hy => ⟨Rep.lt _ (G2.out.below b0) y hy, fun hm => D1.out y hm y hy rfl⟩))
  have t1b := Lib.hid ((Touch.of_below b0).trans t1)
  have R1 := Lib.hid r1
  clear t1 r1
  go_wp2_with fail
  refine (markPartS_n G2b.out n2 (q := q + (k1 : Int)) (by omega) (by rw [← HK2.out]; omega)).mono ?_
  rintro e w2 ⟨rfl, r2, t2⟩
  have R1b := Rep.keep _ R1.out (t2.keeps fun y hy => ⟨Rep.lt _ R1.out y hy, fun hm => D1.out y hy y hm rfl⟩)
  have RR := Lib.hid (Pgm.mkM_rep (x := x) R1b (by rw [← HK1.out]; exact r2))
  rw [← HK2.out]
  clear R1b r2 R1
  go_wp2
  go_ret
  exact ⟨ret_int (by omega), RR.out, (t1b.out.mono (by simp +contextual)).trans (t2.mono (by simp +contextual))⟩
end Go.Proofs.YtpmgmekbnbligaaGreat
/- Arguments of type Affine, []Affine: what the form's reading tells. Printed by tygen.py. -/
set_option linter.all false
set_option linter.unusedSimpArgs false
set_option linter.unusedVariables false
namespace Go.Proofs.YtpmgmekbnbligaaGreat
open Go.ChangeShapes Go.WideShapes Go.ChangeAt Go.RowKit Go.Deep

set_option maxRecDepth 100000 in
theorem hasTy_aff (d : D) (h : HasTy Tryz.prog 160 d) : ∃ x : Aff, d = x.d := by
  obtain ⟨fs, rfl, hq⟩ := hasTy_st Tryz.underlying160 h
  obtain ⟨d1, r1, rfl, q1, hq⟩ := hasTys_cons hq
  obtain ⟨d2, r2, rfl, q2, hq⟩ := hasTys_cons hq
  obtain rfl := hasTys_nil hq
  obtain ⟨x1, rfl⟩ := hasTy_ints Tryz.underlying27 Tryz.underlying3 q1
  obtain ⟨x2, rfl⟩ := hasTy_int Tryz.underlying3 q2
  exact ⟨⟨x1, x2⟩, rfl⟩
end Go.Proofs.YtpmgmekbnbligaaGreat

/- Arguments of type Loop, []Loop: what the form's reading tells. Printed by tygen.py. -/
namespace Go.Proofs.YtpmgmekbnbligaaGreat
open Go.ChangeShapes Go.WideShapes Go.ChangeAt Go.RowKit Go.Deep

set_option maxRecDepth 100000 in
theorem hasTy_lp (d : D) (h : HasTy Tryz.prog 156 d) : ∃ x : Lp, d = x.d := by
  obtain ⟨fs, rfl, hq⟩ := hasTy_st Tryz.underlying156 h
  obtain ⟨d1, r1, rfl, q1, hq⟩ := hasTys_cons hq
  obtain ⟨d2, r2, rfl, q2, hq⟩ := hasTys_cons hq
  obtain rfl := hasTys_nil hq
  obtain ⟨x1, rfl⟩ := hasTy_sl Tryz.underlying154 hasTy_aff q1
  obtain ⟨x2, rfl⟩ := hasTy_sl Tryz.underlying154 hasTy_aff q2
  exact ⟨⟨x1, x2⟩, rfl⟩
end Go.Proofs.YtpmgmekbnbligaaGreat

/- Arguments of type Access, []Access: what the form's reading tells. Printed by tygen.py. -/
namespace Go.Proofs.YtpmgmekbnbligaaGreat
open Go.ChangeShapes Go.WideShapes Go.ChangeAt Go.RowKit Go.Deep

set_option maxRecDepth 100000 in
theorem hasTy_acc (d : D) (h : HasTy Tryz.prog 159 d) : ∃ x : Acc, d = x.d := by
  obtain ⟨fs, rfl, hq⟩ := hasTy_st Tryz.underlying159 h
  obtain ⟨d1, r1, rfl, q1, hq⟩ := hasTys_cons hq
  obtain ⟨d2, r2, rfl, q2, hq⟩ := hasTys_cons hq
  obtain rfl := hasTys_nil hq
  obtain ⟨x1, rfl⟩ := hasTy_str Tryz.underlying9 q1
  obtain ⟨x2, rfl⟩ := hasTy_sl Tryz.underlying154 hasTy_aff q2
  exact ⟨⟨x1, x2⟩, rfl⟩
end Go.Proofs.YtpmgmekbnbligaaGreat

/- Arguments of type Expr, []Expr: what the form's reading tells. Printed by tygen.py. -/
namespace Go.Proofs.YtpmgmekbnbligaaGreat
open Go.ChangeShapes Go.WideShapes Go.ChangeAt Go.RowKit Go.Deep

set_option maxRecDepth 100000 in
theorem hasTy_ex_n (n : Nat) : ∀ d : D, SizeOf.sizeOf d ≤ n → HasTy Tryz.prog 163 d → ∃ x : Ex, d = x.d := by
  induction n with
  | zero => intro d hd; cases d <;> simp at hd
  | succ n ih =>
  intro d hd h
  obtain ⟨fs, rfl, hq⟩ := hasTy_st Tryz.underlying163 h
  obtain ⟨d1, r1, rfl, q1, hq⟩ := hasTys_cons hq
  obtain ⟨d2, r2, rfl, q2, hq⟩ := hasTys_cons hq
  obtain ⟨d3, r3, rfl, q3, hq⟩ := hasTys_cons hq
  obtain ⟨d4, r4, rfl, q4, hq⟩ := hasTys_cons hq
  obtain ⟨d5, r5, rfl, q5, hq⟩ := hasTys_cons hq
  obtain rfl := hasTys_nil hq
  obtain ⟨x1, rfl⟩ := hasTy_int Tryz.underlying3 q1
  obtain ⟨x2, rfl⟩ := hasTy_int Tryz.underlying3 q2
  obtain ⟨x3, rfl⟩ := hasTy_aff _ q3
  obtain ⟨x4, rfl⟩ := hasTy_acc _ q4
  obtain ⟨x5, rfl⟩ := hasTy_sl_mem (f := Ex.d) Tryz.underlying161 (fun xs hxs y hy hty => ih y (by subst hxs; have := List.sizeOf_lt_of_mem hy; simp at hd; omega) hty) q5
  exact ⟨⟨x1, x2, x3, x4, x5⟩, by rw [Ex.d_eq]; rfl⟩
theorem hasTy_ex (d : D) (h : HasTy Tryz.prog 163 d) : ∃ x : Ex, d = x.d := hasTy_ex_n _ d (Nat.le_refl _) h
end Go.Proofs.YtpmgmekbnbligaaGreat

/- Arguments of type Stmt, []Stmt: what the form's reading tells. Printed by tygen.py. -/
namespace Go.Proofs.YtpmgmekbnbligaaGreat
open Go.ChangeShapes Go.WideShapes Go.ChangeAt Go.RowKit Go.Deep

set_option maxRecDepth 100000 in
theorem hasTy_stm (d : D) (h : HasTy Tryz.prog 165 d) : ∃ x : Stm, d = x.d := by
  obtain ⟨fs, rfl, hq⟩ := hasTy_st Tryz.underlying165 h
  obtain ⟨d1, r1, rfl, q1, hq⟩ := hasTys_cons hq
  obtain ⟨d2, r2, rfl, q2, hq⟩ := hasTys_cons hq
  obtain rfl := hasTys_nil hq
  obtain ⟨x1, rfl⟩ := hasTy_acc _ q1
  obtain ⟨x2, rfl⟩ := hasTy_ex _ q2
  exact ⟨⟨x1, x2⟩, rfl⟩
end Go.Proofs.YtpmgmekbnbligaaGreat

/- Arguments of type Array, []Array: what the form's reading tells. Printed by tygen.py. -/
namespace Go.Proofs.YtpmgmekbnbligaaGreat
open Go.ChangeShapes Go.WideShapes Go.ChangeAt Go.RowKit Go.Deep

set_option maxRecDepth 100000 in
theorem hasTy_ar (d : D) (h : HasTy Tryz.prog 63 d) : ∃ x : Ar, d = x.d := by
  obtain ⟨fs, rfl, hq⟩ := hasTy_st Tryz.underlying63 h
  obtain ⟨d1, r1, rfl, q1, hq⟩ := hasTys_cons hq
  obtain ⟨d2, r2, rfl, q2, hq⟩ := hasTys_cons hq
  obtain rfl := hasTys_nil hq
  obtain ⟨x1, rfl⟩ := hasTy_str Tryz.underlying9 q1
  obtain ⟨x2, rfl⟩ := hasTy_ints Tryz.underlying27 Tryz.underlying3 q2
  exact ⟨⟨x1, x2⟩, rfl⟩
end Go.Proofs.YtpmgmekbnbligaaGreat

/- Arguments of type Part, []Part: what the form's reading tells. Printed by tygen.py. -/
namespace Go.Proofs.YtpmgmekbnbligaaGreat
open Go.ChangeShapes Go.WideShapes Go.ChangeAt Go.RowKit Go.Deep

set_option maxRecDepth 100000 in
theorem hasTy_prt (d : D) (h : HasTy Tryz.prog 68 d) : ∃ x : Prt, d = x.d := by
  obtain ⟨fs, rfl, hq⟩ := hasTy_st Tryz.underlying68 h
  obtain ⟨d1, r1, rfl, q1, hq⟩ := hasTys_cons hq
  obtain ⟨d2, r2, rfl, q2, hq⟩ := hasTys_cons hq
  obtain rfl := hasTys_nil hq
  obtain ⟨x1, rfl⟩ := hasTy_sl Tryz.underlying65 hasTy_lp q1
  obtain ⟨x2, rfl⟩ := hasTy_sl Tryz.underlying66 hasTy_stm q2
  exact ⟨⟨x1, x2⟩, rfl⟩
end Go.Proofs.YtpmgmekbnbligaaGreat

/- Arguments of type Program, []Program: what the form's reading tells. Printed by tygen.py. -/
namespace Go.Proofs.YtpmgmekbnbligaaGreat
open Go.ChangeShapes Go.WideShapes Go.ChangeAt Go.RowKit Go.Deep

set_option maxRecDepth 100000 in
theorem hasTy_pgm (d : D) (h : HasTy Tryz.prog 25 d) : ∃ x : Pgm, d = x.d := by
  obtain ⟨fs, rfl, hq⟩ := hasTy_st Tryz.underlying25 h
  obtain ⟨d1, r1, rfl, q1, hq⟩ := hasTys_cons hq
  obtain ⟨d2, r2, rfl, q2, hq⟩ := hasTys_cons hq
  obtain rfl := hasTys_nil hq
  obtain ⟨x1, rfl⟩ := hasTy_sl Tryz.underlying22 hasTy_ar q1
  obtain ⟨x2, rfl⟩ := hasTy_sl Tryz.underlying23 hasTy_prt q2
  exact ⟨⟨x1, x2⟩, rfl⟩
set_option maxRecDepth 100000 in
theorem opn_pgm {H : Type} {enc : TypeId × Value → H} {W : World} {L : List TypeId} {base b0 : Nat} {spare : Nat → Bool} {held : Bool} {r : Reach} (hL : layB Tryz.prog L = true) (ht : 25 ∈ L) {v : Value} {d : DataW H} {p : List MemPlace}
    (hv : Value.okWide Tryz.prog W r b0 25 v) (h : DataW.Trod enc Tryz.prog W base spare held 25 v d p) (hz : W.noneFrozen p) :
    ∃ cs, ∃ y : Pgm, ∃ bs, v = .agg cs.toArray ∧ Rep W y.d cs bs := by
  obtain ⟨cs, fs, bs, rfl, h1, h2⟩ := open_st hL ht Tryz.underlying25 hv h hz
  obtain ⟨y, hy⟩ := hasTy_pgm (.st fs) ⟨_, Tryz.underlying25, h2⟩
  rw [hy] at h1
  exact ⟨cs, y, bs, rfl, h1⟩
end Go.Proofs.YtpmgmekbnbligaaGreat

/- Arguments of type Instance, []Instance: what the form's reading tells. Printed by tygen.py. -/
namespace Go.Proofs.YtpmgmekbnbligaaGreat
open Go.ChangeShapes Go.WideShapes Go.ChangeAt Go.RowKit Go.Deep

end Go.Proofs.YtpmgmekbnbligaaGreat
