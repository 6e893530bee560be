/- Arguments of type Expr, []Expr: what the form's reading tells. Printed by tygen.py. -/
import Derived.Test.YtlllidhmohdgiaaLaw
import Derived.Test.YtlllidhmohdgiaaTyExpr
import Derived.Test.YtlllidhmohdgiaaOpAffine
import Derived.Test.YtlllidhmohdgiaaOpAccess
set_option linter.all false
set_option linter.unusedSimpArgs false
set_option linter.unusedVariables false
namespace Go.Proofs.Ytlllidhmohdgiaa
open Go.ChangeShapes Go.WideShapes Go.ChangeAt Go.RowKit Go.Deep

set_option maxRecDepth 100000 in
theorem hasTy_ex_n (n : Nat) : ∀ d : D, SizeOf.sizeOf d ≤ n → HasTy Try.prog 51 d → ∃ x : Ex, d = x.d := by
  induction n with
  | zero => intro d hd; cases d <;> simp at hd
  | succ n ih =>
  intro d hd h
  obtain ⟨fs, rfl, hq⟩ := hasTy_st Try.underlying51 h
  obtain ⟨d1, r1, rfl, q1, hq⟩ := hasTys_cons hq
  obtain ⟨d2, r2, rfl, q2, hq⟩ := hasTys_cons hq
  obtain ⟨d3, r3, rfl, q3, hq⟩ := hasTys_cons hq
  obtain ⟨d4, r4, rfl, q4, hq⟩ := hasTys_cons hq
  obtain ⟨d5, r5, rfl, q5, hq⟩ := hasTys_cons hq
  obtain rfl := hasTys_nil hq
  obtain ⟨x1, rfl⟩ := hasTy_int Try.underlying3 q1
  obtain ⟨x2, rfl⟩ := hasTy_int Try.underlying3 q2
  obtain ⟨x3, rfl⟩ := hasTy_aff _ q3
  obtain ⟨x4, rfl⟩ := hasTy_acc _ q4
  obtain ⟨x5, rfl⟩ := hasTy_sl_mem (f := Ex.d) Try.underlying49 (fun xs hxs y hy hty => ih y (by subst hxs; have := List.sizeOf_lt_of_mem hy; simp at hd; omega) hty) q5
  exact ⟨⟨x1, x2, x3, x4, x5⟩, by rw [Ex.d_eq]; rfl⟩
theorem hasTy_ex (d : D) (h : HasTy Try.prog 51 d) : ∃ x : Ex, d = x.d := hasTy_ex_n _ d (Nat.le_refl _) h
set_option maxRecDepth 100000 in
theorem opn_ex {H : Type} {enc : TypeId × Value → H} {W : World} {L : List TypeId} {base b0 : Nat} {spare : Nat → Bool} {held : Bool} {r : Reach} (hL : layB Try.prog L = true) (ht : 51 ∈ L) {v : Value} {d : DataW H} {p : List MemPlace}
    (hv : Value.okWide Try.prog W r b0 51 v) (h : DataW.Trod enc Try.prog W base spare held 51 v d p) (hz : W.noneFrozen p) :
    ∃ cs, ∃ y : Ex, ∃ bs, v = .agg cs.toArray ∧ Rep W y.d cs bs := by
  obtain ⟨cs, fs, bs, rfl, h1, h2⟩ := open_st hL ht Try.underlying51 hv h hz
  obtain ⟨y, hy⟩ := hasTy_ex (.st fs) ⟨_, Try.underlying51, h2⟩
  rw [hy] at h1
  exact ⟨cs, y, bs, rfl, h1⟩
set_option maxRecDepth 100000 in
theorem opn_exs {H : Type} {enc : TypeId × Value → H} {W : World} {L : List TypeId} {base b0 : Nat} {spare : Nat → Bool} {held : Bool} {r : Reach} (hL : layB Try.prog L = true) (ht : 49 ∈ L) {v : Value} {d : DataW H} {p : List MemPlace}
    (hv : Value.okWide Try.prog W r b0 49 v) (h : DataW.Trod enc Try.prog W base spare held 49 v d p) (hz : W.noneFrozen p) :
    ∃ A n c, ∃ ys : List Ex, ∃ bs, v = .slice A n c ∧ Rep W (sls Ex.d ys) [.slice A n c] bs := by
  obtain ⟨A, n, c, xs, bs, rfl, h1, h2⟩ := open_sl hL ht Try.underlying49 hv h hz
  obtain ⟨ys, rfl⟩ := hasTyE_of hasTy_ex xs h2
  exact ⟨A, n, c, ys, bs, rfl, h1⟩
end Go.Proofs.Ytlllidhmohdgiaa
