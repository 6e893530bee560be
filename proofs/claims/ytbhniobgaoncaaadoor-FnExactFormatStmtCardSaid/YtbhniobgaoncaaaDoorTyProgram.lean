/- The Go type Program: how it reads; the law package's functions on it and on slices of it. Printed by tygen.py. -/
import Derived.Test.YtbhniobgaoncaaaDoorTyArray
import Derived.Test.YtbhniobgaoncaaaDoorTyPart
set_option linter.all false
set_option linter.unusedSimpArgs false
set_option linter.unusedVariables false
namespace Go.Proofs.YtbhniobgaoncaaaDoor
open Go.ChangeShapes Go.WideShapes Go.ChangeAt Go.RowKit Go.Deep

structure Pgm where
  arrays : List Ar
  parts : List Prt

def Pgm.d (x : Pgm) : D := .st [sls Ar.d x.arrays, sls Prt.d x.parts]
theorem Pgm.d_size (x : Pgm) : x.d.size = 2 := rfl
theorem Rep.pgm_iff {w : World} {x : Pgm} {cs : List Value} {bs : List Nat} : Rep w x.d cs bs ↔ ∃ (A1 : Option Addr) (c1 : Nat) (A2 : Option Addr) (c2 : Nat) (d1 : List Nat) (d2 : List Nat), cs = [.slice A1 x.arrays.length c1, .slice A2 x.parts.length c2] ∧ bs = d1 ++ d2 ∧ Rep w (sls Ar.d x.arrays) [.slice A1 x.arrays.length c1] d1 ∧ Rep w (sls Prt.d x.parts) [.slice A2 x.parts.length c2] d2 := by
  constructor
  · intro h
    replace h : Reps w [sls Ar.d x.arrays, sls Prt.d x.parts] cs bs := h
    obtain ⟨_, _, _, _, rfl, rfl, g1, h⟩ := h
    obtain ⟨_, _, _, _, rfl, rfl, g2, h⟩ := h
    obtain ⟨rfl, rfl⟩ := h
    obtain ⟨B1, e1, rfl, _⟩ := g1.sls_form
    obtain ⟨B2, e2, rfl, _⟩ := g2.sls_form
    exact ⟨_, _, _, _, _, _, rfl, by simp, g1, g2⟩
  · rintro ⟨A1, c1, A2, c2, d1, d2, rfl, rfl, g1, g2⟩
    have h : Reps w [sls Ar.d x.arrays, sls Prt.d x.parts] _ _ := ⟨_, _, _, _, rfl, rfl, g1, ⟨_, _, _, _, rfl, rfl, g2, ⟨rfl, rfl⟩⟩⟩
    simpa using (show Rep w x.d _ _ from h)




def Pgm.mkE (q : Int) (x : Pgm) : Pgm := ⟨mkL Ar.mkE Ar.cntE (q) x.arrays, mkL Prt.mkE Prt.cntE (q + ((cntL Ar.cntE x.arrays : Nat) : Int)) x.parts⟩
def Pgm.cntE (x : Pgm) : Nat := cntL Ar.cntE x.arrays + cntL Prt.cntE x.parts

def MadePgm (w : World) (x : Pgm) (e : Ending) (w' : World) : Prop := ∃ (A1 : Option Addr) (c1 : Nat) (A2 : Option Addr) (c2 : Nat) (bs : List Nat), e = .returned (.agg #[.slice A1 x.arrays.length c1, .slice A2 x.parts.length c2]) ∧ Rep w' x.d [.slice A1 x.arrays.length c1, .slice A2 x.parts.length c2] bs ∧ bs.Nodup ∧ (∀ b ∈ bs, w.heap.size ≤ b) ∧ Below w.heap.size w w'
theorem MadePgm.of {w w' : World} {x : Pgm} {e : Ending} (h : MadeT w x.d e w') : MadePgm w x e w' := by
  obtain ⟨cs, bs, rfl, r, h1, h2, h3⟩ := h
  have r2 := r
  obtain ⟨A1, c1, A2, c2, d1, d2, rfl, _⟩ := Rep.pgm_iff.1 r2
  exact ⟨_, _, _, _, _, rfl, r, h1, h2, h3⟩
end Go.Proofs.YtbhniobgaoncaaaDoor
