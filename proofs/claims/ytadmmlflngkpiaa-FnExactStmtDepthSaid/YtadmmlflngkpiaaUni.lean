/- The law package's functions on integers and affine expressions, in the form that lawgen.py's walks ask for. -/
import Derived.Test.YtadmmlflngkpiaaCore
import Derived.Test.YtadmmlflngkpiaaVar
set_option linter.all false
set_option linter.unusedSimpArgs false
set_option linter.unusedVariables false
namespace Go.Proofs.Ytadmmlflngkpiaa
open Go.ChangeShapes Go.WideShapes Go.ChangeAt Go.RowKit Go.Deep

section
variable {w : World} {xs : List Int} {a : Aff} {A B : Option Addr} {n m c d : Nat} {k k' q left : Int} {bs bs' : List Nat}
theorem toIntS_m (h : Rep w (ints xs) [.slice A n c] bs) (hn : xs.length ≤ 1048576) : Calls Try.prog 8 #[.slice A n c] w (MadeInts w xs) :=
  (toIntS_c h (by have := h.ints_len.1; omega)).mono fun _ _ ⟨g, h1, h2, h3, h4⟩ => ⟨_, _, _, [g], h1, h2, by simp, by simpa using h3, h4⟩
theorem eqIntS_b (hA : Rep w (ints xs) [.slice A n c] bs) (hB : Rep w (ints xs) [.slice B m d] bs') : Calls Try.prog 11 #[.slice A n c, .slice B m d] w fun e w' => e = .returned (.bool true) ∧ Below w.heap.size w w' :=
  drewB (eqIntS_c hA hB)
theorem markIntS_n (h : Rep w (ints xs) [.slice A n c] bs) (_ : bs.Nodup) (h0 : 0 ≤ q) (h1 : q + (xs.length : Nat) ≤ 4611686018427387904) :
    Calls Try.prog 12 #[.slice A n c, .int .i64 q] w fun e w' => e = .returned (.int .i64 (q + (xs.length : Nat))) ∧ Rep w' (ints (seqI q xs.length)) [.slice A n c] bs ∧ Touch bs w w' := by
  obtain ⟨rfl, _, _⟩ := h.ints_len
  exact markIntS_c h h0 h1
theorem heldIntS_n (h : Rep w (ints (seqI q xs.length)) [.slice A n c] bs) (h0 : 0 ≤ q) (h1 : q + (xs.length : Nat) ≤ 4611686018427387904) :
    Calls Try.prog 70 #[.slice A n c, .int .i64 q] w fun e w' => e = .returned (.int .i64 (q + (xs.length : Nat))) ∧ Below w.heap.size w w' := by
  have hn := h.ints_len.1
  rw [seqI_len] at hn
  subst hn
  exact sameB (heldIntS_c h h0 h1)
theorem toAffine_m (h : Rep w a.d [.slice A n c, .int .i64 k] bs) (hn : a.coefs.length ≤ 1048576) : Calls Try.prog 28 #[.agg #[.slice A n c, .int .i64 k]] w (MadeAff w a) :=
  (toAffine_c h (by have := h.aff.2.1.ints_len.1; omega)).mono fun _ _ ⟨g, h1, h2, h3, h4⟩ => ⟨_, _, _, _, [g], h1, h2, by simp, by simpa using h3, h4⟩
theorem szAffine_t (h : Rep w a.d [.slice A n c, .int .i64 k] bs) (h0 : 0 ≤ left) (h1 : left ≤ 1048576) :
    Calls Try.prog 26 #[.agg #[.slice A n c, .int .i64 k], .int .i64 left] w fun e w' => e = .returned (.int .i64 (szR left a.coefs.length)) ∧ Below w.heap.size w w' := by
  have hn := h.aff.2.1.ints_len.1
  subst hn
  exact szAffine_c h h0 h1
theorem markAffine_n (h : Rep w a.d [.slice A n c, .int .i64 k] bs) (_ : bs.Nodup) (h0 : 0 ≤ q) (h1 : q + (a.coefs.length : Nat) ≤ 4611686018427387904) :
    Calls Try.prog 31 #[.agg #[.slice A n c, .int .i64 k], .int .i64 q] w fun e w' => e = .returned (.int .i64 (q + (a.coefs.length : Nat))) ∧ Rep w' (Aff.d ⟨seqI q a.coefs.length, a.const⟩) [.slice A n c, .int .i64 k] bs ∧ Touch bs w w' := by
  have hn := h.aff.2.1.ints_len.1
  have hk := h.aff.1
  subst hn hk
  exact markAffine_c h h0 h1
theorem heldAffine_n (h : Rep w (Aff.d ⟨seqI q a.coefs.length, a.const⟩) [.slice A n c, .int .i64 k] bs) (h0 : 0 ≤ q) (h1 : q + (a.coefs.length : Nat) ≤ 4611686018427387904) :
    Calls Try.prog 91 #[.agg #[.slice A n c, .int .i64 k], .int .i64 q] w fun e w' => e = .returned (.int .i64 (q + (a.coefs.length : Nat))) ∧ Below w.heap.size w w' := by
  have hn := h.aff.2.1.ints_len.1
  have hk := h.aff.1
  simp only [seqI_len] at hn hk
  subst hn hk
  exact heldAffine_c h h0 h1
end
end Go.Proofs.Ytadmmlflngkpiaa
