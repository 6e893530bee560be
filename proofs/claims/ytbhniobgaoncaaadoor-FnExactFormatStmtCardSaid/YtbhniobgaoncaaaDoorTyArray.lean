/- The Go type Array: how it reads; the law package's functions on it and on slices of it. Printed by tygen.py. -/
import Derived.Test.YtbhniobgaoncaaaDoorCore
import Derived.Test.YtbhniobgaoncaaaDoorBasic
set_option linter.all false
set_option linter.unusedSimpArgs false
set_option linter.unusedVariables false
namespace Go.Proofs.YtbhniobgaoncaaaDoor
open Go.ChangeShapes Go.WideShapes Go.ChangeAt Go.RowKit Go.Deep

structure Ar where
  name : ByteArray
  dims : List Int

def Ar.d (x : Ar) : D := .st [.str x.name, ints x.dims]
theorem Ar.d_size (x : Ar) : x.d.size = 2 := rfl
theorem Rep.ar_iff {w : World} {x : Ar} {cs : List Value} {bs : List Nat} : Rep w x.d cs bs ↔ ∃ (A2 : Option Addr) (c2 : Nat) (d2 : List Nat), cs = [.string x.name, .slice A2 x.dims.length c2] ∧ bs = d2 ∧ x.name.size ≤ maxLen ∧ Rep w (ints x.dims) [.slice A2 x.dims.length c2] d2 := by
  constructor
  · intro h
    replace h : Reps w [.str x.name, ints x.dims] cs bs := h
    obtain ⟨_, _, _, _, rfl, rfl, g1, h⟩ := h
    obtain ⟨_, _, _, _, rfl, rfl, g2, h⟩ := h
    obtain ⟨rfl, rfl⟩ := h
    obtain ⟨rfl, rfl, g1⟩ := g1
    obtain ⟨B2, e2, rfl, _⟩ := g2.ints_form
    exact ⟨_, _, _, rfl, by simp, g1, g2⟩
  · rintro ⟨A2, c2, d2, rfl, rfl, g1, g2⟩
    have h : Reps w [.str x.name, ints x.dims] _ _ := ⟨_, _, _, _, rfl, rfl, ⟨rfl, rfl, g1⟩, ⟨_, _, _, _, rfl, rfl, g2, ⟨rfl, rfl⟩⟩⟩
    simpa using (show Rep w x.d _ _ from h)







def Ar.mkE (q : Int) (x : Ar) : Ar := ⟨mtext (q), seqI (q + 1) x.dims.length⟩
def Ar.cntE (x : Ar) : Nat := 1 + x.dims.length




def MadeAr (w : World) (x : Ar) (e : Ending) (w' : World) : Prop := ∃ (A2 : Option Addr) (c2 : Nat) (bs : List Nat), e = .returned (.agg #[.string x.name, .slice A2 x.dims.length c2]) ∧ Rep w' x.d [.string x.name, .slice A2 x.dims.length c2] bs ∧ bs.Nodup ∧ (∀ b ∈ bs, w.heap.size ≤ b) ∧ Below w.heap.size w w'
theorem MadeAr.of {w w' : World} {x : Ar} {e : Ending} (h : MadeT w x.d e w') : MadeAr w x e w' := by
  obtain ⟨cs, bs, rfl, r, h1, h2, h3⟩ := h
  have r2 := r
  obtain ⟨A2, c2, d2, rfl, _⟩ := Rep.ar_iff.1 r2
  exact ⟨_, _, _, rfl, r, h1, h2, h3⟩
end Go.Proofs.YtbhniobgaoncaaaDoor
