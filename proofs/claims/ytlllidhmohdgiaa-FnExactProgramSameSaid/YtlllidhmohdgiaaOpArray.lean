/- Arguments of type Array, []Array: what the form's reading tells. Printed by tygen.py. -/
import Derived.Test.YtlllidhmohdgiaaLaw
import Derived.Test.YtlllidhmohdgiaaTyArray
set_option linter.all false
set_option linter.unusedSimpArgs false
set_option linter.unusedVariables false
namespace Go.Proofs.Ytlllidhmohdgiaa
open Go.ChangeShapes Go.WideShapes Go.ChangeAt Go.RowKit Go.Deep

set_option maxRecDepth 100000 in
theorem hasTy_ar (d : D) (h : HasTy Try.prog 171 d) : ∃ x : Ar, d = x.d := by
  obtain ⟨fs, rfl, hq⟩ := hasTy_st Try.underlying171 h
  obtain ⟨d1, r1, rfl, q1, hq⟩ := hasTys_cons hq
  obtain ⟨d2, r2, rfl, q2, hq⟩ := hasTys_cons hq
  obtain rfl := hasTys_nil hq
  obtain ⟨x1, rfl⟩ := hasTy_str Try.underlying9 q1
  obtain ⟨x2, rfl⟩ := hasTy_ints Try.underlying22 Try.underlying3 q2
  exact ⟨⟨x1, x2⟩, rfl⟩
set_option maxRecDepth 100000 in
theorem opn_ar {H : Type} {enc : TypeId × Value → H} {W : World} {L : List TypeId} {base b0 : Nat} {spare : Nat → Bool} {held : Bool} {r : Reach} (hL : layB Try.prog L = true) (ht : 171 ∈ L) {v : Value} {d : DataW H} {p : List MemPlace}
    (hv : Value.okWide Try.prog W r b0 171 v) (h : DataW.Trod enc Try.prog W base spare held 171 v d p) (hz : W.noneFrozen p) :
    ∃ cs, ∃ y : Ar, ∃ bs, v = .agg cs.toArray ∧ Rep W y.d cs bs := by
  obtain ⟨cs, fs, bs, rfl, h1, h2⟩ := open_st hL ht Try.underlying171 hv h hz
  obtain ⟨y, hy⟩ := hasTy_ar (.st fs) ⟨_, Try.underlying171, h2⟩
  rw [hy] at h1
  exact ⟨cs, y, bs, rfl, h1⟩
set_option maxRecDepth 100000 in
theorem opn_ars {H : Type} {enc : TypeId × Value → H} {W : World} {L : List TypeId} {base b0 : Nat} {spare : Nat → Bool} {held : Bool} {r : Reach} (hL : layB Try.prog L = true) (ht : 77 ∈ L) {v : Value} {d : DataW H} {p : List MemPlace}
    (hv : Value.okWide Try.prog W r b0 77 v) (h : DataW.Trod enc Try.prog W base spare held 77 v d p) (hz : W.noneFrozen p) :
    ∃ A n c, ∃ ys : List Ar, ∃ bs, v = .slice A n c ∧ Rep W (sls Ar.d ys) [.slice A n c] bs := by
  obtain ⟨A, n, c, xs, bs, rfl, h1, h2⟩ := open_sl hL ht Try.underlying77 hv h hz
  obtain ⟨ys, rfl⟩ := hasTyE_of hasTy_ar xs h2
  exact ⟨A, n, c, ys, bs, rfl, h1⟩
end Go.Proofs.Ytlllidhmohdgiaa
