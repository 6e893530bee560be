/- Texts of this seat, joined: OpAffine, OpLoop, OpAccess, OpExpr, OpStmt, OpArray, OpPart, OpProgram, OpInstance. -/
import Derived.Test.YtbhniobgaoncaaaDoorLaw
import Derived.Test.YtbhniobgaoncaaaDoorTyAffine
import Derived.Test.YtbhniobgaoncaaaDoorTyLoop
import Derived.Test.YtbhniobgaoncaaaDoorTyAccess
import Derived.Test.YtbhniobgaoncaaaDoorTyExpr
import Derived.Test.YtbhniobgaoncaaaDoorTyStmt
import Derived.Test.YtbhniobgaoncaaaDoorTyArray
import Derived.Test.YtbhniobgaoncaaaDoorTyPart
import Derived.Test.YtbhniobgaoncaaaDoorTyProgram
import Derived.Test.YtbhniobgaoncaaaDoorBasic
/- Arguments of type Affine, []Affine: what the form's reading tells. Printed by tygen.py. -/
set_option linter.all false
set_option linter.unusedSimpArgs false
set_option linter.unusedVariables false
namespace Go.Proofs.YtbhniobgaoncaaaDoor
open Go.ChangeShapes Go.WideShapes Go.ChangeAt Go.RowKit Go.Deep

set_option maxRecDepth 100000 in
theorem hasTy_aff (d : D) (h : HasTy Tryd.prog 24 d) : ∃ x : Aff, d = x.d := by
  obtain ⟨fs, rfl, hq⟩ := hasTy_st Tryd.underlying24 h
  obtain ⟨d1, r1, rfl, q1, hq⟩ := hasTys_cons hq
  obtain ⟨d2, r2, rfl, q2, hq⟩ := hasTys_cons hq
  obtain rfl := hasTys_nil hq
  obtain ⟨x1, rfl⟩ := hasTy_ints Tryd.underlying22 Tryd.underlying3 q1
  obtain ⟨x2, rfl⟩ := hasTy_int Tryd.underlying3 q2
  exact ⟨⟨x1, x2⟩, rfl⟩
set_option maxRecDepth 100000 in
theorem opn_aff {H : Type} {enc : TypeId × Value → H} {W : World} {L : List TypeId} {base b0 : Nat} {spare : Nat → Bool} {held : Bool} {r : Reach} (hL : layB Tryd.prog L = true) (ht : 24 ∈ L) {v : Value} {d : DataW H} {p : List MemPlace}
    (hv : Value.okWide Tryd.prog W r b0 24 v) (h : DataW.Trod enc Tryd.prog W base spare held 24 v d p) (hz : W.noneFrozen p) :
    ∃ cs, ∃ y : Aff, ∃ bs, v = .agg cs.toArray ∧ Rep W y.d cs bs := by
  obtain ⟨cs, fs, bs, rfl, h1, h2⟩ := open_st hL ht Tryd.underlying24 hv h hz
  obtain ⟨y, hy⟩ := hasTy_aff (.st fs) ⟨_, Tryd.underlying24, h2⟩
  rw [hy] at h1
  exact ⟨cs, y, bs, rfl, h1⟩
set_option maxRecDepth 100000 in
theorem opn_affs {H : Type} {enc : TypeId × Value → H} {W : World} {L : List TypeId} {base b0 : Nat} {spare : Nat → Bool} {held : Bool} {r : Reach} (hL : layB Tryd.prog L = true) (ht : 38 ∈ L) {v : Value} {d : DataW H} {p : List MemPlace}
    (hv : Value.okWide Tryd.prog W r b0 38 v) (h : DataW.Trod enc Tryd.prog W base spare held 38 v d p) (hz : W.noneFrozen p) :
    ∃ A n c, ∃ ys : List Aff, ∃ bs, v = .slice A n c ∧ Rep W (sls Aff.d ys) [.slice A n c] bs := by
  obtain ⟨A, n, c, xs, bs, rfl, h1, h2⟩ := open_sl hL ht Tryd.underlying38 hv h hz
  obtain ⟨ys, rfl⟩ := hasTyE_of hasTy_aff xs h2
  exact ⟨A, n, c, ys, bs, rfl, h1⟩
end Go.Proofs.YtbhniobgaoncaaaDoor

/- Arguments of type Loop, []Loop: what the form's reading tells. Printed by tygen.py. -/
namespace Go.Proofs.YtbhniobgaoncaaaDoor
open Go.ChangeShapes Go.WideShapes Go.ChangeAt Go.RowKit Go.Deep

set_option maxRecDepth 100000 in
theorem hasTy_lp (d : D) (h : HasTy Tryd.prog 69 d) : ∃ x : Lp, d = x.d := by
  obtain ⟨fs, rfl, hq⟩ := hasTy_st Tryd.underlying69 h
  obtain ⟨d1, r1, rfl, q1, hq⟩ := hasTys_cons hq
  obtain ⟨d2, r2, rfl, q2, hq⟩ := hasTys_cons hq
  obtain rfl := hasTys_nil hq
  obtain ⟨x1, rfl⟩ := hasTy_sl Tryd.underlying38 hasTy_aff q1
  obtain ⟨x2, rfl⟩ := hasTy_sl Tryd.underlying38 hasTy_aff q2
  exact ⟨⟨x1, x2⟩, rfl⟩
set_option maxRecDepth 100000 in
theorem opn_lp {H : Type} {enc : TypeId × Value → H} {W : World} {L : List TypeId} {base b0 : Nat} {spare : Nat → Bool} {held : Bool} {r : Reach} (hL : layB Tryd.prog L = true) (ht : 69 ∈ L) {v : Value} {d : DataW H} {p : List MemPlace}
    (hv : Value.okWide Tryd.prog W r b0 69 v) (h : DataW.Trod enc Tryd.prog W base spare held 69 v d p) (hz : W.noneFrozen p) :
    ∃ cs, ∃ y : Lp, ∃ bs, v = .agg cs.toArray ∧ Rep W y.d cs bs := by
  obtain ⟨cs, fs, bs, rfl, h1, h2⟩ := open_st hL ht Tryd.underlying69 hv h hz
  obtain ⟨y, hy⟩ := hasTy_lp (.st fs) ⟨_, Tryd.underlying69, h2⟩
  rw [hy] at h1
  exact ⟨cs, y, bs, rfl, h1⟩
set_option maxRecDepth 100000 in
theorem opn_lps {H : Type} {enc : TypeId × Value → H} {W : World} {L : List TypeId} {base b0 : Nat} {spare : Nat → Bool} {held : Bool} {r : Reach} (hL : layB Tryd.prog L = true) (ht : 31 ∈ L) {v : Value} {d : DataW H} {p : List MemPlace}
    (hv : Value.okWide Tryd.prog W r b0 31 v) (h : DataW.Trod enc Tryd.prog W base spare held 31 v d p) (hz : W.noneFrozen p) :
    ∃ A n c, ∃ ys : List Lp, ∃ bs, v = .slice A n c ∧ Rep W (sls Lp.d ys) [.slice A n c] bs := by
  obtain ⟨A, n, c, xs, bs, rfl, h1, h2⟩ := open_sl hL ht Tryd.underlying31 hv h hz
  obtain ⟨ys, rfl⟩ := hasTyE_of hasTy_lp xs h2
  exact ⟨A, n, c, ys, bs, rfl, h1⟩
end Go.Proofs.YtbhniobgaoncaaaDoor

/- Arguments of type Access, []Access: what the form's reading tells. Printed by tygen.py. -/
namespace Go.Proofs.YtbhniobgaoncaaaDoor
open Go.ChangeShapes Go.WideShapes Go.ChangeAt Go.RowKit Go.Deep

set_option maxRecDepth 100000 in
theorem hasTy_acc (d : D) (h : HasTy Tryd.prog 40 d) : ∃ x : Acc, d = x.d := by
  obtain ⟨fs, rfl, hq⟩ := hasTy_st Tryd.underlying40 h
  obtain ⟨d1, r1, rfl, q1, hq⟩ := hasTys_cons hq
  obtain ⟨d2, r2, rfl, q2, hq⟩ := hasTys_cons hq
  obtain rfl := hasTys_nil hq
  obtain ⟨x1, rfl⟩ := hasTy_str Tryd.underlying9 q1
  obtain ⟨x2, rfl⟩ := hasTy_sl Tryd.underlying38 hasTy_aff q2
  exact ⟨⟨x1, x2⟩, rfl⟩
set_option maxRecDepth 100000 in
theorem opn_acc {H : Type} {enc : TypeId × Value → H} {W : World} {L : List TypeId} {base b0 : Nat} {spare : Nat → Bool} {held : Bool} {r : Reach} (hL : layB Tryd.prog L = true) (ht : 40 ∈ L) {v : Value} {d : DataW H} {p : List MemPlace}
    (hv : Value.okWide Tryd.prog W r b0 40 v) (h : DataW.Trod enc Tryd.prog W base spare held 40 v d p) (hz : W.noneFrozen p) :
    ∃ cs, ∃ y : Acc, ∃ bs, v = .agg cs.toArray ∧ Rep W y.d cs bs := by
  obtain ⟨cs, fs, bs, rfl, h1, h2⟩ := open_st hL ht Tryd.underlying40 hv h hz
  obtain ⟨y, hy⟩ := hasTy_acc (.st fs) ⟨_, Tryd.underlying40, h2⟩
  rw [hy] at h1
  exact ⟨cs, y, bs, rfl, h1⟩
end Go.Proofs.YtbhniobgaoncaaaDoor

/- Arguments of type Expr, []Expr: what the form's reading tells. Printed by tygen.py. -/
namespace Go.Proofs.YtbhniobgaoncaaaDoor
open Go.ChangeShapes Go.WideShapes Go.ChangeAt Go.RowKit Go.Deep

set_option maxRecDepth 100000 in
theorem hasTy_ex_n (n : Nat) : ∀ d : D, SizeOf.sizeOf d ≤ n → HasTy Tryd.prog 43 d → ∃ x : Ex, d = x.d := by
  induction n with
  | zero => intro d hd; cases d <;> simp at hd
  | succ n ih =>
  intro d hd h
  obtain ⟨fs, rfl, hq⟩ := hasTy_st Tryd.underlying43 h
  obtain ⟨d1, r1, rfl, q1, hq⟩ := hasTys_cons hq
  obtain ⟨d2, r2, rfl, q2, hq⟩ := hasTys_cons hq
  obtain ⟨d3, r3, rfl, q3, hq⟩ := hasTys_cons hq
  obtain ⟨d4, r4, rfl, q4, hq⟩ := hasTys_cons hq
  obtain ⟨d5, r5, rfl, q5, hq⟩ := hasTys_cons hq
  obtain rfl := hasTys_nil hq
  obtain ⟨x1, rfl⟩ := hasTy_int Tryd.underlying3 q1
  obtain ⟨x2, rfl⟩ := hasTy_int Tryd.underlying3 q2
  obtain ⟨x3, rfl⟩ := hasTy_aff _ q3
  obtain ⟨x4, rfl⟩ := hasTy_acc _ q4
  obtain ⟨x5, rfl⟩ := hasTy_sl_mem (f := Ex.d) Tryd.underlying41 (fun xs hxs y hy hty => ih y (by subst hxs; have := List.sizeOf_lt_of_mem hy; simp at hd; omega) hty) q5
  exact ⟨⟨x1, x2, x3, x4, x5⟩, by rw [Ex.d_eq]; rfl⟩
theorem hasTy_ex (d : D) (h : HasTy Tryd.prog 43 d) : ∃ x : Ex, d = x.d := hasTy_ex_n _ d (Nat.le_refl _) h
set_option maxRecDepth 100000 in
theorem opn_ex {H : Type} {enc : TypeId × Value → H} {W : World} {L : List TypeId} {base b0 : Nat} {spare : Nat → Bool} {held : Bool} {r : Reach} (hL : layB Tryd.prog L = true) (ht : 43 ∈ L) {v : Value} {d : DataW H} {p : List MemPlace}
    (hv : Value.okWide Tryd.prog W r b0 43 v) (h : DataW.Trod enc Tryd.prog W base spare held 43 v d p) (hz : W.noneFrozen p) :
    ∃ cs, ∃ y : Ex, ∃ bs, v = .agg cs.toArray ∧ Rep W y.d cs bs := by
  obtain ⟨cs, fs, bs, rfl, h1, h2⟩ := open_st hL ht Tryd.underlying43 hv h hz
  obtain ⟨y, hy⟩ := hasTy_ex (.st fs) ⟨_, Tryd.underlying43, h2⟩
  rw [hy] at h1
  exact ⟨cs, y, bs, rfl, h1⟩
set_option maxRecDepth 100000 in
theorem opn_exs {H : Type} {enc : TypeId × Value → H} {W : World} {L : List TypeId} {base b0 : Nat} {spare : Nat → Bool} {held : Bool} {r : Reach} (hL : layB Tryd.prog L = true) (ht : 41 ∈ L) {v : Value} {d : DataW H} {p : List MemPlace}
    (hv : Value.okWide Tryd.prog W r b0 41 v) (h : DataW.Trod enc Tryd.prog W base spare held 41 v d p) (hz : W.noneFrozen p) :
    ∃ A n c, ∃ ys : List Ex, ∃ bs, v = .slice A n c ∧ Rep W (sls Ex.d ys) [.slice A n c] bs := by
  obtain ⟨A, n, c, xs, bs, rfl, h1, h2⟩ := open_sl hL ht Tryd.underlying41 hv h hz
  obtain ⟨ys, rfl⟩ := hasTyE_of hasTy_ex xs h2
  exact ⟨A, n, c, ys, bs, rfl, h1⟩
end Go.Proofs.YtbhniobgaoncaaaDoor

/- Arguments of type Stmt, []Stmt: what the form's reading tells. Printed by tygen.py. -/
namespace Go.Proofs.YtbhniobgaoncaaaDoor
open Go.ChangeShapes Go.WideShapes Go.ChangeAt Go.RowKit Go.Deep

set_option maxRecDepth 100000 in
theorem hasTy_stm (d : D) (h : HasTy Tryd.prog 45 d) : ∃ x : Stm, d = x.d := by
  obtain ⟨fs, rfl, hq⟩ := hasTy_st Tryd.underlying45 h
  obtain ⟨d1, r1, rfl, q1, hq⟩ := hasTys_cons hq
  obtain ⟨d2, r2, rfl, q2, hq⟩ := hasTys_cons hq
  obtain rfl := hasTys_nil hq
  obtain ⟨x1, rfl⟩ := hasTy_acc _ q1
  obtain ⟨x2, rfl⟩ := hasTy_ex _ q2
  exact ⟨⟨x1, x2⟩, rfl⟩
set_option maxRecDepth 100000 in
theorem opn_stm {H : Type} {enc : TypeId × Value → H} {W : World} {L : List TypeId} {base b0 : Nat} {spare : Nat → Bool} {held : Bool} {r : Reach} (hL : layB Tryd.prog L = true) (ht : 45 ∈ L) {v : Value} {d : DataW H} {p : List MemPlace}
    (hv : Value.okWide Tryd.prog W r b0 45 v) (h : DataW.Trod enc Tryd.prog W base spare held 45 v d p) (hz : W.noneFrozen p) :
    ∃ cs, ∃ y : Stm, ∃ bs, v = .agg cs.toArray ∧ Rep W y.d cs bs := by
  obtain ⟨cs, fs, bs, rfl, h1, h2⟩ := open_st hL ht Tryd.underlying45 hv h hz
  obtain ⟨y, hy⟩ := hasTy_stm (.st fs) ⟨_, Tryd.underlying45, h2⟩
  rw [hy] at h1
  exact ⟨cs, y, bs, rfl, h1⟩
end Go.Proofs.YtbhniobgaoncaaaDoor

/- Arguments of type Array, []Array: what the form's reading tells. Printed by tygen.py. -/
namespace Go.Proofs.YtbhniobgaoncaaaDoor
open Go.ChangeShapes Go.WideShapes Go.ChangeAt Go.RowKit Go.Deep

end Go.Proofs.YtbhniobgaoncaaaDoor

/- Arguments of type Part, []Part: what the form's reading tells. Printed by tygen.py. -/
namespace Go.Proofs.YtbhniobgaoncaaaDoor
open Go.ChangeShapes Go.WideShapes Go.ChangeAt Go.RowKit Go.Deep

end Go.Proofs.YtbhniobgaoncaaaDoor

/- Arguments of type Program, []Program: what the form's reading tells. Printed by tygen.py. -/
namespace Go.Proofs.YtbhniobgaoncaaaDoor
open Go.ChangeShapes Go.WideShapes Go.ChangeAt Go.RowKit Go.Deep

end Go.Proofs.YtbhniobgaoncaaaDoor

/- Arguments of type Instance, []Instance: what the form's reading tells. Printed by tygen.py. -/
namespace Go.Proofs.YtbhniobgaoncaaaDoor
open Go.ChangeShapes Go.WideShapes Go.ChangeAt Go.RowKit Go.Deep

end Go.Proofs.YtbhniobgaoncaaaDoor
