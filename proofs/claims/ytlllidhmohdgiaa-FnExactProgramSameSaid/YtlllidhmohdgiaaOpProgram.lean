/- Arguments of type Program, []Program: what the form's reading tells. Printed by tygen.py. -/
import Derived.Test.YtlllidhmohdgiaaLaw
import Derived.Test.YtlllidhmohdgiaaTyProgram
import Derived.Test.YtlllidhmohdgiaaOpArray
import Derived.Test.YtlllidhmohdgiaaOpPart
set_option linter.all false
set_option linter.unusedSimpArgs false
set_option linter.unusedVariables false
namespace Go.Proofs.Ytlllidhmohdgiaa
open Go.ChangeShapes Go.WideShapes Go.ChangeAt Go.RowKit Go.Deep

set_option maxRecDepth 100000 in
theorem hasTy_pgm (d : D) (h : HasTy Try.prog 80 d) : ∃ x : Pgm, d = x.d := by
  obtain ⟨fs, rfl, hq⟩ := hasTy_st Try.underlying80 h
  obtain ⟨d1, r1, rfl, q1, hq⟩ := hasTys_cons hq
  obtain ⟨d2, r2, rfl, q2, hq⟩ := hasTys_cons hq
  obtain rfl := hasTys_nil hq
  obtain ⟨x1, rfl⟩ := hasTy_sl Try.underlying77 hasTy_ar q1
  obtain ⟨x2, rfl⟩ := hasTy_sl Try.underlying78 hasTy_prt q2
  exact ⟨⟨x1, x2⟩, rfl⟩
set_option maxRecDepth 100000 in
theorem opn_pgm {H : Type} {enc : TypeId × Value → H} {W : World} {L : List TypeId} {base b0 : Nat} {spare : Nat → Bool} {held : Bool} {r : Reach} (hL : layB Try.prog L = true) (ht : 80 ∈ L) {v : Value} {d : DataW H} {p : List MemPlace}
    (hv : Value.okWide Try.prog W r b0 80 v) (h : DataW.Trod enc Try.prog W base spare held 80 v d p) (hz : W.noneFrozen p) :
    ∃ cs, ∃ y : Pgm, ∃ bs, v = .agg cs.toArray ∧ Rep W y.d cs bs := by
  obtain ⟨cs, fs, bs, rfl, h1, h2⟩ := open_st hL ht Try.underlying80 hv h hz
  obtain ⟨y, hy⟩ := hasTy_pgm (.st fs) ⟨_, Try.underlying80, h2⟩
  rw [hy] at h1
  exact ⟨cs, y, bs, rfl, h1⟩
end Go.Proofs.Ytlllidhmohdgiaa
