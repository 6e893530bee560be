/- Texts of this seat, joined: OpAffine, OpAccess, OpExpr, OpStmt. -/
import Derived.Test.YtadmmlflngkpiaaLaw
import Derived.Test.YtadmmlflngkpiaaTyAffine
import Derived.Test.YtadmmlflngkpiaaTyAccess
import Derived.Test.YtadmmlflngkpiaaTyExpr
import Derived.Test.YtadmmlflngkpiaaTyStmt
/- Arguments of type Affine, []Affine: what the form's reading tells. Printed by tygen.py. -/
set_option linter.all false
set_option linter.unusedSimpArgs false
set_option linter.unusedVariables false
namespace Go.Proofs.Ytadmmlflngkpiaa
open Go.ChangeShapes Go.WideShapes Go.ChangeAt Go.RowKit Go.Deep

set_option maxRecDepth 100000 in
theorem hasTy_aff (d : D) (h : HasTy Try.prog 36 d) : ∃ x : Aff, d = x.d := by
  obtain ⟨fs, rfl, hq⟩ := hasTy_st Try.underlying36 h
  obtain ⟨d1, r1, rfl, q1, hq⟩ := hasTys_cons hq
  obtain ⟨d2, r2, rfl, q2, hq⟩ := hasTys_cons hq
  obtain rfl := hasTys_nil hq
  obtain ⟨x1, rfl⟩ := hasTy_ints Try.underlying22 Try.underlying3 q1
  obtain ⟨x2, rfl⟩ := hasTy_int Try.underlying3 q2
  exact ⟨⟨x1, x2⟩, rfl⟩
set_option maxRecDepth 100000 in
theorem opn_aff {H : Type} {enc : TypeId × Value → H} {W : World} {L : List TypeId} {base b0 : Nat} {spare : Nat → Bool} {held : Bool} {r : Reach} (hL : layB Try.prog L = true) (ht : 36 ∈ L) {v : Value} {d : DataW H} {p : List MemPlace}
    (hv : Value.okWide Try.prog W r b0 36 v) (h : DataW.Trod enc Try.prog W base spare held 36 v d p) (hz : W.noneFrozen p) :
    ∃ cs, ∃ y : Aff, ∃ bs, v = .agg cs.toArray ∧ Rep W y.d cs bs := by
  obtain ⟨cs, fs, bs, rfl, h1, h2⟩ := open_st hL ht Try.underlying36 hv h hz
  obtain ⟨y, hy⟩ := hasTy_aff (.st fs) ⟨_, Try.underlying36, h2⟩
  rw [hy] at h1
  exact ⟨cs, y, bs, rfl, h1⟩
set_option maxRecDepth 100000 in
theorem opn_affs {H : Type} {enc : TypeId × Value → H} {W : World} {L : List TypeId} {base b0 : Nat} {spare : Nat → Bool} {held : Bool} {r : Reach} (hL : layB Try.prog L = true) (ht : 32 ∈ L) {v : Value} {d : DataW H} {p : List MemPlace}
    (hv : Value.okWide Try.prog W r b0 32 v) (h : DataW.Trod enc Try.prog W base spare held 32 v d p) (hz : W.noneFrozen p) :
    ∃ A n c, ∃ ys : List Aff, ∃ bs, v = .slice A n c ∧ Rep W (sls Aff.d ys) [.slice A n c] bs := by
  obtain ⟨A, n, c, xs, bs, rfl, h1, h2⟩ := open_sl hL ht Try.underlying32 hv h hz
  obtain ⟨ys, rfl⟩ := hasTyE_of hasTy_aff xs h2
  exact ⟨A, n, c, ys, bs, rfl, h1⟩
end Go.Proofs.Ytadmmlflngkpiaa

/- Arguments of type Access, []Access: what the form's reading tells. Printed by tygen.py. -/
namespace Go.Proofs.Ytadmmlflngkpiaa
open Go.ChangeShapes Go.WideShapes Go.ChangeAt Go.RowKit Go.Deep

set_option maxRecDepth 100000 in
theorem hasTy_acc (d : D) (h : HasTy Try.prog 34 d) : ∃ x : Acc, d = x.d := by
  obtain ⟨fs, rfl, hq⟩ := hasTy_st Try.underlying34 h
  obtain ⟨d1, r1, rfl, q1, hq⟩ := hasTys_cons hq
  obtain ⟨d2, r2, rfl, q2, hq⟩ := hasTys_cons hq
  obtain rfl := hasTys_nil hq
  obtain ⟨x1, rfl⟩ := hasTy_str Try.underlying9 q1
  obtain ⟨x2, rfl⟩ := hasTy_sl Try.underlying32 hasTy_aff q2
  exact ⟨⟨x1, x2⟩, rfl⟩
set_option maxRecDepth 100000 in
theorem opn_acc {H : Type} {enc : TypeId × Value → H} {W : World} {L : List TypeId} {base b0 : Nat} {spare : Nat → Bool} {held : Bool} {r : Reach} (hL : layB Try.prog L = true) (ht : 34 ∈ L) {v : Value} {d : DataW H} {p : List MemPlace}
    (hv : Value.okWide Try.prog W r b0 34 v) (h : DataW.Trod enc Try.prog W base spare held 34 v d p) (hz : W.noneFrozen p) :
    ∃ cs, ∃ y : Acc, ∃ bs, v = .agg cs.toArray ∧ Rep W y.d cs bs := by
  obtain ⟨cs, fs, bs, rfl, h1, h2⟩ := open_st hL ht Try.underlying34 hv h hz
  obtain ⟨y, hy⟩ := hasTy_acc (.st fs) ⟨_, Try.underlying34, h2⟩
  rw [hy] at h1
  exact ⟨cs, y, bs, rfl, h1⟩
end Go.Proofs.Ytadmmlflngkpiaa

/- Arguments of type Expr, []Expr: what the form's reading tells. Printed by tygen.py. -/
namespace Go.Proofs.Ytadmmlflngkpiaa
open Go.ChangeShapes Go.WideShapes Go.ChangeAt Go.RowKit Go.Deep

set_option maxRecDepth 100000 in
theorem hasTy_ex_n (n : Nat) : ∀ d : D, SizeOf.sizeOf d ≤ n → HasTy Try.prog 39 d → ∃ x : Ex, d = x.d := by
  induction n with
  | zero => intro d hd; cases d <;> simp at hd
  | succ n ih =>
  intro d hd h
  obtain ⟨fs, rfl, hq⟩ := hasTy_st Try.underlying39 h
  obtain ⟨d1, r1, rfl, q1, hq⟩ := hasTys_cons hq
  obtain ⟨d2, r2, rfl, q2, hq⟩ := hasTys_cons hq
  obtain ⟨d3, r3, rfl, q3, hq⟩ := hasTys_cons hq
  obtain ⟨d4, r4, rfl, q4, hq⟩ := hasTys_cons hq
  obtain ⟨d5, r5, rfl, q5, hq⟩ := hasTys_cons hq
  obtain rfl := hasTys_nil hq
  obtain ⟨x1, rfl⟩ := hasTy_int Try.underlying3 q1
  obtain ⟨x2, rfl⟩ := hasTy_int Try.underlying3 q2
  obtain ⟨x3, rfl⟩ := hasTy_aff _ q3
  obtain ⟨x4, rfl⟩ := hasTy_acc _ q4
  obtain ⟨x5, rfl⟩ := hasTy_sl_mem (f := Ex.d) Try.underlying37 (fun xs hxs y hy hty => ih y (by subst hxs; have := List.sizeOf_lt_of_mem hy; simp at hd; omega) hty) q5
  exact ⟨⟨x1, x2, x3, x4, x5⟩, by rw [Ex.d_eq]; rfl⟩
theorem hasTy_ex (d : D) (h : HasTy Try.prog 39 d) : ∃ x : Ex, d = x.d := hasTy_ex_n _ d (Nat.le_refl _) h
set_option maxRecDepth 100000 in
theorem opn_ex {H : Type} {enc : TypeId × Value → H} {W : World} {L : List TypeId} {base b0 : Nat} {spare : Nat → Bool} {held : Bool} {r : Reach} (hL : layB Try.prog L = true) (ht : 39 ∈ L) {v : Value} {d : DataW H} {p : List MemPlace}
    (hv : Value.okWide Try.prog W r b0 39 v) (h : DataW.Trod enc Try.prog W base spare held 39 v d p) (hz : W.noneFrozen p) :
    ∃ cs, ∃ y : Ex, ∃ bs, v = .agg cs.toArray ∧ Rep W y.d cs bs := by
  obtain ⟨cs, fs, bs, rfl, h1, h2⟩ := open_st hL ht Try.underlying39 hv h hz
  obtain ⟨y, hy⟩ := hasTy_ex (.st fs) ⟨_, Try.underlying39, h2⟩
  rw [hy] at h1
  exact ⟨cs, y, bs, rfl, h1⟩
set_option maxRecDepth 100000 in
theorem opn_exs {H : Type} {enc : TypeId × Value → H} {W : World} {L : List TypeId} {base b0 : Nat} {spare : Nat → Bool} {held : Bool} {r : Reach} (hL : layB Try.prog L = true) (ht : 37 ∈ L) {v : Value} {d : DataW H} {p : List MemPlace}
    (hv : Value.okWide Try.prog W r b0 37 v) (h : DataW.Trod enc Try.prog W base spare held 37 v d p) (hz : W.noneFrozen p) :
    ∃ A n c, ∃ ys : List Ex, ∃ bs, v = .slice A n c ∧ Rep W (sls Ex.d ys) [.slice A n c] bs := by
  obtain ⟨A, n, c, xs, bs, rfl, h1, h2⟩ := open_sl hL ht Try.underlying37 hv h hz
  obtain ⟨ys, rfl⟩ := hasTyE_of hasTy_ex xs h2
  exact ⟨A, n, c, ys, bs, rfl, h1⟩
end Go.Proofs.Ytadmmlflngkpiaa

/- Arguments of type Stmt, []Stmt: what the form's reading tells. Printed by tygen.py. -/
namespace Go.Proofs.Ytadmmlflngkpiaa
open Go.ChangeShapes Go.WideShapes Go.ChangeAt Go.RowKit Go.Deep

set_option maxRecDepth 100000 in
theorem hasTy_stm (d : D) (h : HasTy Try.prog 41 d) : ∃ x : Stm, d = x.d := by
  obtain ⟨fs, rfl, hq⟩ := hasTy_st Try.underlying41 h
  obtain ⟨d1, r1, rfl, q1, hq⟩ := hasTys_cons hq
  obtain ⟨d2, r2, rfl, q2, hq⟩ := hasTys_cons hq
  obtain rfl := hasTys_nil hq
  obtain ⟨x1, rfl⟩ := hasTy_acc _ q1
  obtain ⟨x2, rfl⟩ := hasTy_ex _ q2
  exact ⟨⟨x1, x2⟩, rfl⟩
set_option maxRecDepth 100000 in
theorem opn_stm {H : Type} {enc : TypeId × Value → H} {W : World} {L : List TypeId} {base b0 : Nat} {spare : Nat → Bool} {held : Bool} {r : Reach} (hL : layB Try.prog L = true) (ht : 41 ∈ L) {v : Value} {d : DataW H} {p : List MemPlace}
    (hv : Value.okWide Try.prog W r b0 41 v) (h : DataW.Trod enc Try.prog W base spare held 41 v d p) (hz : W.noneFrozen p) :
    ∃ cs, ∃ y : Stm, ∃ bs, v = .agg cs.toArray ∧ Rep W y.d cs bs := by
  obtain ⟨cs, fs, bs, rfl, h1, h2⟩ := open_st hL ht Try.underlying41 hv h hz
  obtain ⟨y, hy⟩ := hasTy_stm (.st fs) ⟨_, Try.underlying41, h2⟩
  rw [hy] at h1
  exact ⟨cs, y, bs, rfl, h1⟩
end Go.Proofs.Ytadmmlflngkpiaa
