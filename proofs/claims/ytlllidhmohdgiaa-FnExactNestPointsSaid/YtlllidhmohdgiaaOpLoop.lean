/- Arguments of type Loop, []Loop: what the form's reading tells. Printed by tygen.py. -/
import Derived.Test.YtlllidhmohdgiaaLaw
import Derived.Test.YtlllidhmohdgiaaTyLoop
import Derived.Test.YtlllidhmohdgiaaOpAffine
set_option linter.all false
set_option linter.unusedSimpArgs false
set_option linter.unusedVariables false
namespace Go.Proofs.Ytlllidhmohdgiaa
open Go.ChangeShapes Go.WideShapes Go.ChangeAt Go.RowKit Go.Deep

set_option maxRecDepth 100000 in
theorem hasTy_lp (d : D) (h : HasTy Try.prog 96 d) : ∃ x : Lp, d = x.d := by
  obtain ⟨fs, rfl, hq⟩ := hasTy_st Try.underlying96 h
  obtain ⟨d1, r1, rfl, q1, hq⟩ := hasTys_cons hq
  obtain ⟨d2, r2, rfl, q2, hq⟩ := hasTys_cons hq
  obtain rfl := hasTys_nil hq
  obtain ⟨x1, rfl⟩ := hasTy_sl Try.underlying46 hasTy_aff q1
  obtain ⟨x2, rfl⟩ := hasTy_sl Try.underlying46 hasTy_aff q2
  exact ⟨⟨x1, x2⟩, rfl⟩
set_option maxRecDepth 100000 in
theorem opn_lp {H : Type} {enc : TypeId × Value → H} {W : World} {L : List TypeId} {base b0 : Nat} {spare : Nat → Bool} {held : Bool} {r : Reach} (hL : layB Try.prog L = true) (ht : 96 ∈ L) {v : Value} {d : DataW H} {p : List MemPlace}
    (hv : Value.okWide Try.prog W r b0 96 v) (h : DataW.Trod enc Try.prog W base spare held 96 v d p) (hz : W.noneFrozen p) :
    ∃ cs, ∃ y : Lp, ∃ bs, v = .agg cs.toArray ∧ Rep W y.d cs bs := by
  obtain ⟨cs, fs, bs, rfl, h1, h2⟩ := open_st hL ht Try.underlying96 hv h hz
  obtain ⟨y, hy⟩ := hasTy_lp (.st fs) ⟨_, Try.underlying96, h2⟩
  rw [hy] at h1
  exact ⟨cs, y, bs, rfl, h1⟩
set_option maxRecDepth 100000 in
theorem opn_lps {H : Type} {enc : TypeId × Value → H} {W : World} {L : List TypeId} {base b0 : Nat} {spare : Nat → Bool} {held : Bool} {r : Reach} (hL : layB Try.prog L = true) (ht : 33 ∈ L) {v : Value} {d : DataW H} {p : List MemPlace}
    (hv : Value.okWide Try.prog W r b0 33 v) (h : DataW.Trod enc Try.prog W base spare held 33 v d p) (hz : W.noneFrozen p) :
    ∃ A n c, ∃ ys : List Lp, ∃ bs, v = .slice A n c ∧ Rep W (sls Lp.d ys) [.slice A n c] bs := by
  obtain ⟨A, n, c, xs, bs, rfl, h1, h2⟩ := open_sl hL ht Try.underlying33 hv h hz
  obtain ⟨ys, rfl⟩ := hasTyE_of hasTy_lp xs h2
  exact ⟨A, n, c, ys, bs, rfl, h1⟩
end Go.Proofs.Ytlllidhmohdgiaa
