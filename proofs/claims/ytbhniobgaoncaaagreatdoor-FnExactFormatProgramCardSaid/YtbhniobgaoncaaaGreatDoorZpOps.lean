/- Texts of this seat, joined: OpAffine, OpLoop, OpAccess, OpExpr, OpStmt, OpArray, OpPart, OpProgram, OpInstance. -/
import Derived.Test.YtbhniobgaoncaaaGreatDoorZpLaw
import Derived.Test.YtbhniobgaoncaaaGreatDoorZpTyAffine
import Derived.Test.YtbhniobgaoncaaaGreatDoorZpTyLoop
import Derived.Test.YtbhniobgaoncaaaGreatDoorZpTyAccess
import Derived.Test.YtbhniobgaoncaaaGreatDoorZpTyExpr
import Derived.Test.YtbhniobgaoncaaaGreatDoorZpTyStmt
import Derived.Test.YtbhniobgaoncaaaGreatDoorZpTyArray
import Derived.Test.YtbhniobgaoncaaaGreatDoorZpTyPart
import Derived.Test.YtbhniobgaoncaaaGreatDoorZpTyProgram
import Derived.Test.YtbhniobgaoncaaaGreatDoorZpBasic
/- Arguments of type Affine, []Affine: what the form's reading tells. Printed by tygen.py. -/
set_option linter.all false
set_option linter.unusedSimpArgs false
set_option linter.unusedVariables false
namespace Go.Proofs.YtbhniobgaoncaaaGreatDoor
open Go.ChangeShapes Go.WideShapes Go.ChangeAt Go.RowKit Go.Deep

set_option maxRecDepth 100000 in
theorem hasTy_aff (d : D) (h : HasTy Tryz.prog 199 d) : ∃ x : Aff, d = x.d := by
  obtain ⟨fs, rfl, hq⟩ := hasTy_st Tryz.underlying199 h
  obtain ⟨d1, r1, rfl, q1, hq⟩ := hasTys_cons hq
  obtain ⟨d2, r2, rfl, q2, hq⟩ := hasTys_cons hq
  obtain rfl := hasTys_nil hq
  obtain ⟨x1, rfl⟩ := hasTy_ints Tryz.underlying44 Tryz.underlying3 q1
  obtain ⟨x2, rfl⟩ := hasTy_int Tryz.underlying3 q2
  exact ⟨⟨x1, x2⟩, rfl⟩
end Go.Proofs.YtbhniobgaoncaaaGreatDoor

/- Arguments of type Loop, []Loop: what the form's reading tells. Printed by tygen.py. -/
namespace Go.Proofs.YtbhniobgaoncaaaGreatDoor
open Go.ChangeShapes Go.WideShapes Go.ChangeAt Go.RowKit Go.Deep

set_option maxRecDepth 100000 in
theorem hasTy_lp (d : D) (h : HasTy Tryz.prog 195 d) : ∃ x : Lp, d = x.d := by
  obtain ⟨fs, rfl, hq⟩ := hasTy_st Tryz.underlying195 h
  obtain ⟨d1, r1, rfl, q1, hq⟩ := hasTys_cons hq
  obtain ⟨d2, r2, rfl, q2, hq⟩ := hasTys_cons hq
  obtain rfl := hasTys_nil hq
  obtain ⟨x1, rfl⟩ := hasTy_sl Tryz.underlying193 hasTy_aff q1
  obtain ⟨x2, rfl⟩ := hasTy_sl Tryz.underlying193 hasTy_aff q2
  exact ⟨⟨x1, x2⟩, rfl⟩
end Go.Proofs.YtbhniobgaoncaaaGreatDoor

/- Arguments of type Access, []Access: what the form's reading tells. Printed by tygen.py. -/
namespace Go.Proofs.YtbhniobgaoncaaaGreatDoor
open Go.ChangeShapes Go.WideShapes Go.ChangeAt Go.RowKit Go.Deep

set_option maxRecDepth 100000 in
theorem hasTy_acc (d : D) (h : HasTy Tryz.prog 198 d) : ∃ x : Acc, d = x.d := by
  obtain ⟨fs, rfl, hq⟩ := hasTy_st Tryz.underlying198 h
  obtain ⟨d1, r1, rfl, q1, hq⟩ := hasTys_cons hq
  obtain ⟨d2, r2, rfl, q2, hq⟩ := hasTys_cons hq
  obtain rfl := hasTys_nil hq
  obtain ⟨x1, rfl⟩ := hasTy_str Tryz.underlying9 q1
  obtain ⟨x2, rfl⟩ := hasTy_sl Tryz.underlying193 hasTy_aff q2
  exact ⟨⟨x1, x2⟩, rfl⟩
end Go.Proofs.YtbhniobgaoncaaaGreatDoor

/- Arguments of type Expr, []Expr: what the form's reading tells. Printed by tygen.py. -/
namespace Go.Proofs.YtbhniobgaoncaaaGreatDoor
open Go.ChangeShapes Go.WideShapes Go.ChangeAt Go.RowKit Go.Deep

set_option maxRecDepth 100000 in
theorem hasTy_ex_n (n : Nat) : ∀ d : D, SizeOf.sizeOf d ≤ n → HasTy Tryz.prog 202 d → ∃ x : Ex, d = x.d := by
  induction n with
  | zero => intro d hd; cases d <;> simp at hd
  | succ n ih =>
  intro d hd h
  obtain ⟨fs, rfl, hq⟩ := hasTy_st Tryz.underlying202 h
  obtain ⟨d1, r1, rfl, q1, hq⟩ := hasTys_cons hq
  obtain ⟨d2, r2, rfl, q2, hq⟩ := hasTys_cons hq
  obtain ⟨d3, r3, rfl, q3, hq⟩ := hasTys_cons hq
  obtain ⟨d4, r4, rfl, q4, hq⟩ := hasTys_cons hq
  obtain ⟨d5, r5, rfl, q5, hq⟩ := hasTys_cons hq
  obtain rfl := hasTys_nil hq
  obtain ⟨x1, rfl⟩ := hasTy_int Tryz.underlying3 q1
  obtain ⟨x2, rfl⟩ := hasTy_int Tryz.underlying3 q2
  obtain ⟨x3, rfl⟩ := hasTy_aff _ q3
  obtain ⟨x4, rfl⟩ := hasTy_acc _ q4
  obtain ⟨x5, rfl⟩ := hasTy_sl_mem (f := Ex.d) Tryz.underlying200 (fun xs hxs y hy hty => ih y (by subst hxs; have := List.sizeOf_lt_of_mem hy; simp at hd; omega) hty) q5
  exact ⟨⟨x1, x2, x3, x4, x5⟩, by rw [Ex.d_eq]; rfl⟩
theorem hasTy_ex (d : D) (h : HasTy Tryz.prog 202 d) : ∃ x : Ex, d = x.d := hasTy_ex_n _ d (Nat.le_refl _) h
end Go.Proofs.YtbhniobgaoncaaaGreatDoor

/- Arguments of type Stmt, []Stmt: what the form's reading tells. Printed by tygen.py. -/
namespace Go.Proofs.YtbhniobgaoncaaaGreatDoor
open Go.ChangeShapes Go.WideShapes Go.ChangeAt Go.RowKit Go.Deep

set_option maxRecDepth 100000 in
theorem hasTy_stm (d : D) (h : HasTy Tryz.prog 204 d) : ∃ x : Stm, d = x.d := by
  obtain ⟨fs, rfl, hq⟩ := hasTy_st Tryz.underlying204 h
  obtain ⟨d1, r1, rfl, q1, hq⟩ := hasTys_cons hq
  obtain ⟨d2, r2, rfl, q2, hq⟩ := hasTys_cons hq
  obtain rfl := hasTys_nil hq
  obtain ⟨x1, rfl⟩ := hasTy_acc _ q1
  obtain ⟨x2, rfl⟩ := hasTy_ex _ q2
  exact ⟨⟨x1, x2⟩, rfl⟩
end Go.Proofs.YtbhniobgaoncaaaGreatDoor

/- Arguments of type Array, []Array: what the form's reading tells. Printed by tygen.py. -/
namespace Go.Proofs.YtbhniobgaoncaaaGreatDoor
open Go.ChangeShapes Go.WideShapes Go.ChangeAt Go.RowKit Go.Deep

set_option maxRecDepth 100000 in
theorem hasTy_ar (d : D) (h : HasTy Tryz.prog 106 d) : ∃ x : Ar, d = x.d := by
  obtain ⟨fs, rfl, hq⟩ := hasTy_st Tryz.underlying106 h
  obtain ⟨d1, r1, rfl, q1, hq⟩ := hasTys_cons hq
  obtain ⟨d2, r2, rfl, q2, hq⟩ := hasTys_cons hq
  obtain rfl := hasTys_nil hq
  obtain ⟨x1, rfl⟩ := hasTy_str Tryz.underlying9 q1
  obtain ⟨x2, rfl⟩ := hasTy_ints Tryz.underlying44 Tryz.underlying3 q2
  exact ⟨⟨x1, x2⟩, rfl⟩
end Go.Proofs.YtbhniobgaoncaaaGreatDoor

/- Arguments of type Part, []Part: what the form's reading tells. Printed by tygen.py. -/
namespace Go.Proofs.YtbhniobgaoncaaaGreatDoor
open Go.ChangeShapes Go.WideShapes Go.ChangeAt Go.RowKit Go.Deep

set_option maxRecDepth 100000 in
theorem hasTy_prt (d : D) (h : HasTy Tryz.prog 111 d) : ∃ x : Prt, d = x.d := by
  obtain ⟨fs, rfl, hq⟩ := hasTy_st Tryz.underlying111 h
  obtain ⟨d1, r1, rfl, q1, hq⟩ := hasTys_cons hq
  obtain ⟨d2, r2, rfl, q2, hq⟩ := hasTys_cons hq
  obtain rfl := hasTys_nil hq
  obtain ⟨x1, rfl⟩ := hasTy_sl Tryz.underlying108 hasTy_lp q1
  obtain ⟨x2, rfl⟩ := hasTy_sl Tryz.underlying109 hasTy_stm q2
  exact ⟨⟨x1, x2⟩, rfl⟩
end Go.Proofs.YtbhniobgaoncaaaGreatDoor

/- Arguments of type Program, []Program: what the form's reading tells. Printed by tygen.py. -/
namespace Go.Proofs.YtbhniobgaoncaaaGreatDoor
open Go.ChangeShapes Go.WideShapes Go.ChangeAt Go.RowKit Go.Deep

set_option maxRecDepth 100000 in
theorem hasTy_pgm (d : D) (h : HasTy Tryz.prog 25 d) : ∃ x : Pgm, d = x.d := by
  obtain ⟨fs, rfl, hq⟩ := hasTy_st Tryz.underlying25 h
  obtain ⟨d1, r1, rfl, q1, hq⟩ := hasTys_cons hq
  obtain ⟨d2, r2, rfl, q2, hq⟩ := hasTys_cons hq
  obtain rfl := hasTys_nil hq
  obtain ⟨x1, rfl⟩ := hasTy_sl Tryz.underlying22 hasTy_ar q1
  obtain ⟨x2, rfl⟩ := hasTy_sl Tryz.underlying23 hasTy_prt q2
  exact ⟨⟨x1, x2⟩, rfl⟩
set_option maxRecDepth 100000 in
theorem opn_pgm {H : Type} {enc : TypeId × Value → H} {W : World} {L : List TypeId} {base b0 : Nat} {spare : Nat → Bool} {held : Bool} {r : Reach} (hL : layB Tryz.prog L = true) (ht : 25 ∈ L) {v : Value} {d : DataW H} {p : List MemPlace}
    (hv : Value.okWide Tryz.prog W r b0 25 v) (h : DataW.Trod enc Tryz.prog W base spare held 25 v d p) (hz : W.noneFrozen p) :
    ∃ cs, ∃ y : Pgm, ∃ bs, v = .agg cs.toArray ∧ Rep W y.d cs bs := by
  obtain ⟨cs, fs, bs, rfl, h1, h2⟩ := open_st hL ht Tryz.underlying25 hv h hz
  obtain ⟨y, hy⟩ := hasTy_pgm (.st fs) ⟨_, Tryz.underlying25, h2⟩
  rw [hy] at h1
  exact ⟨cs, y, bs, rfl, h1⟩
end Go.Proofs.YtbhniobgaoncaaaGreatDoor

/- Arguments of type Instance, []Instance: what the form's reading tells. Printed by tygen.py. -/
namespace Go.Proofs.YtbhniobgaoncaaaGreatDoor
open Go.ChangeShapes Go.WideShapes Go.ChangeAt Go.RowKit Go.Deep

end Go.Proofs.YtbhniobgaoncaaaGreatDoor
