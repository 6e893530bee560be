/- The Go type Instance: how it reads; the law package's functions on it and on slices of it. Printed by tygen.py. -/
import Derived.Test.YtadmmlflngkpiaaCore
set_option linter.all false
set_option linter.unusedSimpArgs false
set_option linter.unusedVariables false
namespace Go.Proofs.Ytadmmlflngkpiaa
open Go.ChangeShapes Go.WideShapes Go.ChangeAt Go.RowKit Go.Deep

structure In where
  part : Int
  stmt : Int
  point : List Int
  deriving DecidableEq
def In.d (x : In) : D := .st [.int x.part, .int x.stmt, ints x.point]
theorem In.d_size (x : In) : x.d.size = 3 := rfl
theorem Rep.in_iff {w : World} {x : In} {cs : List Value} {bs : List Nat} : Rep w x.d cs bs ↔ ∃ (A3 : Option Addr) (c3 : Nat) (d3 : List Nat), cs = [.int .i64 x.part, .int .i64 x.stmt, .slice A3 x.point.length c3] ∧ bs = d3 ∧ I64 x.part ∧ I64 x.stmt ∧ Rep w (ints x.point) [.slice A3 x.point.length c3] d3 := by
  constructor
  · intro h
    replace h : Reps w [.int x.part, .int x.stmt, ints x.point] cs bs := h
    obtain ⟨_, _, _, _, rfl, rfl, g1, h⟩ := h
    obtain ⟨_, _, _, _, rfl, rfl, g2, h⟩ := h
    obtain ⟨_, _, _, _, rfl, rfl, g3, h⟩ := h
    obtain ⟨rfl, rfl⟩ := h
    obtain ⟨rfl, rfl, g1⟩ := g1
    obtain ⟨rfl, rfl, g2⟩ := g2
    obtain ⟨B3, e3, rfl, _⟩ := g3.ints_form
    exact ⟨_, _, _, rfl, by simp, g1, g2, g3⟩
  · rintro ⟨A3, c3, d3, rfl, rfl, g1, g2, g3⟩
    have h : Reps w [.int x.part, .int x.stmt, ints x.point] _ _ := ⟨_, _, _, _, rfl, rfl, ⟨rfl, rfl, g1⟩, ⟨_, _, _, _, rfl, rfl, ⟨rfl, rfl, g2⟩, ⟨_, _, _, _, rfl, rfl, g3, ⟨rfl, rfl⟩⟩⟩⟩
    simpa using (show Rep w x.d _ _ from h)







def In.mkE (q : Int) (x : In) : In := ⟨q, q + 1, seqI (q + 1 + 1) x.point.length⟩
def In.cntE (x : In) : Nat := 1 + 1 + x.point.length



def MadeIn (w : World) (x : In) (e : Ending) (w' : World) : Prop := ∃ (A3 : Option Addr) (c3 : Nat) (bs : List Nat), e = .returned (.agg #[.int .i64 x.part, .int .i64 x.stmt, .slice A3 x.point.length c3]) ∧ Rep w' x.d [.int .i64 x.part, .int .i64 x.stmt, .slice A3 x.point.length c3] bs ∧ bs.Nodup ∧ (∀ b ∈ bs, w.heap.size ≤ b) ∧ Below w.heap.size w w'
theorem MadeIn.of {w w' : World} {x : In} {e : Ending} (h : MadeT w x.d e w') : MadeIn w x e w' := by
  obtain ⟨cs, bs, rfl, r, h1, h2, h3⟩ := h
  have r2 := r
  obtain ⟨A3, c3, d3, rfl, _⟩ := Rep.in_iff.1 r2
  exact ⟨_, _, _, rfl, r, h1, h2, h3⟩
end Go.Proofs.Ytadmmlflngkpiaa
