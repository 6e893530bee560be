/- AddAffine and ScaleAffine of the reference; ScaleAffine of the program. -/
import Derived.Test.YtlllidhmohdgiaaComb
set_option linter.all false
set_option linter.unusedSimpArgs false
set_option linter.unusedVariables false
namespace Go.Proofs.Ytlllidhmohdgiaa
open Go.ChangeShapes Go.WideShapes Go.ChangeAt Go.RowKit Go.Deep

theorem combBd_of {a b : Aff} {p q : Int} (ha : affOk a = true) (hb : affOk b = true) (h1 : -10000 ≤ p) (h2 : p ≤ 10000) (h3 : -10000 ≤ q) (h4 : q ≤ 10000) : CombBd a p b q := by
  obtain ⟨x1, x2, x3⟩ := affOk_iff.1 ha
  obtain ⟨y1, y2, y3⟩ := affOk_iff.1 hb
  exact ⟨x1, y1, ⟨h1, h2⟩, ⟨h3, h4⟩, by omega, by omega, fun x hx => by have := x3 x hx; omega, fun x hx => by have := y3 x hx; omega⟩
theorem gi_combTo {xs ys : List Int} {p q : Int} {i j : Nat} (h : i < j) : gi (combTo xs p ys q j) i = p * gi xs i + q * gi ys i := by
  rw [gi_eq (by rw [combTo_len]; exact h)]; simp [combTo]
theorem combF_sum {a b : Aff} {k : Int} (ha : a.coefs.length = 4) (hb : b.coefs.length = 4) : combF a 1 b k = sumF a k b := by
  simp only [combF, sumF, Int.one_mul, Aff.mk.injEq, and_true]
  refine gi_ext (by rw [combTo_len, sumTo_len, ha]) fun i hi => ?_
  rw [combTo_len] at hi
  rw [gi_combTo hi, sumTo_lt _ _ _ _ _ (by omega) (by omega), Int.one_mul]
theorem combF_scale {a : Aff} {k : Int} (ha : a.coefs.length = 4) : combF a k (affConst 0) 0 = sumF (affConst 0) k a := by
  simp only [combF, sumF, affConst, Int.zero_mul, Int.add_zero, Int.zero_add, Aff.mk.injEq, and_true]
  refine gi_ext (by rw [combTo_len, sumTo_len]; rfl) fun i hi => ?_
  rw [combTo_len] at hi
  rw [gi_combTo hi, sumTo_lt _ _ _ _ _ (by omega) (by simp; omega)]
  have : gi [0, 0, 0, 0] i = 0 := by
    rcases (show i = 0 ∨ i = 1 ∨ i = 2 ∨ i = 3 by omega) with rfl | rfl | rfl | rfl <;> rfl
  rw [this]; simp
def ScaleAffineF (a : Aff) (q : Int) : Aff × Bool := if affOk a && inB q (-99) 99 then chkF (sumF (affConst 0) q a) else (affZero, false)

theorem chkF_len (a : Aff) : (chkF a).1.coefs.length ≤ 1000000 := by
  unfold chkF
  split
  · next h => have := (affOk_iff.1 h).1; simp only; omega
  · simp [affZero]
theorem ScaleAffineF_len (a : Aff) (q : Int) : (ScaleAffineF a q).1.coefs.length ≤ 1000000 := by
  unfold ScaleAffineF
  split
  · exact chkF_len _
  · simp [affZero]
theorem AddAffineF_len (a b : Aff) : (AddAffineF a b).1.coefs.length ≤ 1000000 := by
  unfold AddAffineF
  split
  · exact chkF_len _
  · simp [affZero]

section
variable {w : World} {a : Aff} {A : Option Addr} {n c : Nat} {k : Int} {bs : List Nat}
theorem l1CombineSum_c {b : Aff} {B : Option Addr} {m d : Nat} {kb q : Int} {bs' : List Nat} (h : Rep w a.d [.slice A n c, .int .i64 k] bs) (hb : Rep w b.d [.slice B m d, .int .i64 kb] bs') (hbd : CombBd a 1 b q) :
    Calls Try.prog 123 #[.agg #[.slice A n c, .int .i64 k], .int .i64 1, .agg #[.slice B m d, .int .i64 kb], .int .i64 q] w (MadeAff w (sumF a q b)) := by
  rw [← combF_sum hbd.la hbd.lb]
  exact l1Combine_c h hb hbd
theorem l1CombineScale_c {B : Option Addr} {m d : Nat} {kb q : Int} {bs' : List Nat} (h : Rep w a.d [.slice A n c, .int .i64 k] bs) (hb : Rep w (affConst 0).d [.slice B m d, .int .i64 kb] bs') (hbd : CombBd a q (affConst 0) 0) :
    Calls Try.prog 123 #[.agg #[.slice A n c, .int .i64 k], .int .i64 q, .agg #[.slice B m d, .int .i64 kb], .int .i64 0] w (MadeAff w (sumF (affConst 0) q a)) := by
  rw [← combF_scale hbd.la]
  exact l1Combine_c h hb hbd

end
end Go.Proofs.Ytlllidhmohdgiaa
