/- The Go type Part: how it reads; the law package's functions on it and on slices of it. Printed by tygen.py. -/
import Derived.Test.YtbhniobgaoncaaaDoorTyLoop
import Derived.Test.YtbhniobgaoncaaaDoorTyStmt
set_option linter.all false
set_option linter.unusedSimpArgs false
set_option linter.unusedVariables false
namespace Go.Proofs.YtbhniobgaoncaaaDoor
open Go.ChangeShapes Go.WideShapes Go.ChangeAt Go.RowKit Go.Deep

structure Prt where
  nest : List Lp
  body : List Stm

def Prt.d (x : Prt) : D := .st [sls Lp.d x.nest, sls Stm.d x.body]
theorem Prt.d_size (x : Prt) : x.d.size = 2 := rfl
theorem Rep.prt_iff {w : World} {x : Prt} {cs : List Value} {bs : List Nat} : Rep w x.d cs bs ↔ ∃ (A1 : Option Addr) (c1 : Nat) (A2 : Option Addr) (c2 : Nat) (d1 : List Nat) (d2 : List Nat), cs = [.slice A1 x.nest.length c1, .slice A2 x.body.length c2] ∧ bs = d1 ++ d2 ∧ Rep w (sls Lp.d x.nest) [.slice A1 x.nest.length c1] d1 ∧ Rep w (sls Stm.d x.body) [.slice A2 x.body.length c2] d2 := by
  constructor
  · intro h
    replace h : Reps w [sls Lp.d x.nest, sls Stm.d x.body] cs bs := h
    obtain ⟨_, _, _, _, rfl, rfl, g1, h⟩ := h
    obtain ⟨_, _, _, _, rfl, rfl, g2, h⟩ := h
    obtain ⟨rfl, rfl⟩ := h
    obtain ⟨B1, e1, rfl, _⟩ := g1.sls_form
    obtain ⟨B2, e2, rfl, _⟩ := g2.sls_form
    exact ⟨_, _, _, _, _, _, rfl, by simp, g1, g2⟩
  · rintro ⟨A1, c1, A2, c2, d1, d2, rfl, rfl, g1, g2⟩
    have h : Reps w [sls Lp.d x.nest, sls Stm.d x.body] _ _ := ⟨_, _, _, _, rfl, rfl, g1, ⟨_, _, _, _, rfl, rfl, g2, ⟨rfl, rfl⟩⟩⟩
    simpa using (show Rep w x.d _ _ from h)







def Prt.mkE (q : Int) (x : Prt) : Prt := ⟨mkL Lp.mkE Lp.cntE (q) x.nest, mkL Stm.mkE Stm.cntE (q + ((cntL Lp.cntE x.nest : Nat) : Int)) x.body⟩
def Prt.cntE (x : Prt) : Nat := cntL Lp.cntE x.nest + cntL Stm.cntE x.body




def MadePrt (w : World) (x : Prt) (e : Ending) (w' : World) : Prop := ∃ (A1 : Option Addr) (c1 : Nat) (A2 : Option Addr) (c2 : Nat) (bs : List Nat), e = .returned (.agg #[.slice A1 x.nest.length c1, .slice A2 x.body.length c2]) ∧ Rep w' x.d [.slice A1 x.nest.length c1, .slice A2 x.body.length c2] bs ∧ bs.Nodup ∧ (∀ b ∈ bs, w.heap.size ≤ b) ∧ Below w.heap.size w w'
theorem MadePrt.of {w w' : World} {x : Prt} {e : Ending} (h : MadeT w x.d e w') : MadePrt w x e w' := by
  obtain ⟨cs, bs, rfl, r, h1, h2, h3⟩ := h
  have r2 := r
  obtain ⟨A1, c1, A2, c2, d1, d2, rfl, _⟩ := Rep.prt_iff.1 r2
  exact ⟨_, _, _, _, _, rfl, r, h1, h2, h3⟩
end Go.Proofs.YtbhniobgaoncaaaDoor
