/- Arguments of type Affine, []Affine: what the form's reading tells. Printed by tygen.py. -/
import Derived.Test.YtaomlianiehkgaaLaw
import Derived.Test.YtaomlianiehkgaaTyAffine
set_option linter.all false
set_option linter.unusedSimpArgs false
set_option linter.unusedVariables false
namespace Go.Proofs.Ytaomlianiehkgaa
open Go.ChangeShapes Go.WideShapes Go.ChangeAt Go.RowKit Go.Deep

set_option maxRecDepth 100000 in
theorem hasTy_aff (d : D) (h : HasTy Try.prog 24 d) : ∃ x : Aff, d = x.d := by
  obtain ⟨fs, rfl, hq⟩ := hasTy_st Try.underlying24 h
  obtain ⟨d1, r1, rfl, q1, hq⟩ := hasTys_cons hq
  obtain ⟨d2, r2, rfl, q2, hq⟩ := hasTys_cons hq
  obtain rfl := hasTys_nil hq
  obtain ⟨x1, rfl⟩ := hasTy_ints Try.underlying22 Try.underlying3 q1
  obtain ⟨x2, rfl⟩ := hasTy_int Try.underlying3 q2
  exact ⟨⟨x1, x2⟩, rfl⟩
set_option maxRecDepth 100000 in
theorem opn_aff {H : Type} {enc : TypeId × Value → H} {W : World} {L : List TypeId} {base b0 : Nat} {spare : Nat → Bool} {held : Bool} {r : Reach} (hL : layB Try.prog L = true) (ht : 24 ∈ L) {v : Value} {d : DataW H} {p : List MemPlace}
    (hv : Value.okWide Try.prog W r b0 24 v) (h : DataW.Trod enc Try.prog W base spare held 24 v d p) (hz : W.noneFrozen p) :
    ∃ cs, ∃ y : Aff, ∃ bs, v = .agg cs.toArray ∧ Rep W y.d cs bs := by
  obtain ⟨cs, fs, bs, rfl, h1, h2⟩ := open_st hL ht Try.underlying24 hv h hz
  obtain ⟨y, hy⟩ := hasTy_aff (.st fs) ⟨_, Try.underlying24, h2⟩
  rw [hy] at h1
  exact ⟨cs, y, bs, rfl, h1⟩
set_option maxRecDepth 100000 in
theorem opn_affs {H : Type} {enc : TypeId × Value → H} {W : World} {L : List TypeId} {base b0 : Nat} {spare : Nat → Bool} {held : Bool} {r : Reach} (hL : layB Try.prog L = true) (ht : 42 ∈ L) {v : Value} {d : DataW H} {p : List MemPlace}
    (hv : Value.okWide Try.prog W r b0 42 v) (h : DataW.Trod enc Try.prog W base spare held 42 v d p) (hz : W.noneFrozen p) :
    ∃ A n c, ∃ ys : List Aff, ∃ bs, v = .slice A n c ∧ Rep W (sls Aff.d ys) [.slice A n c] bs := by
  obtain ⟨A, n, c, xs, bs, rfl, h1, h2⟩ := open_sl hL ht Try.underlying42 hv h hz
  obtain ⟨ys, rfl⟩ := hasTyE_of hasTy_aff xs h2
  exact ⟨A, n, c, ys, bs, rfl, h1⟩
end Go.Proofs.Ytaomlianiehkgaa
