/- Texts: what laws.markText writes. -/
import Derived.Test.YtlllidhmohdgiaaData
set_option linter.all false
set_option linter.unusedSimpArgs false
set_option linter.unusedVariables false
namespace Go.Proofs.Ytlllidhmohdgiaa
open Go.ChangeShapes Go.WideShapes Go.ChangeAt Go.RowKit Go.Deep

/-- one digit as a text -/
def dig1 (k : Nat) : ByteArray := ⟨#[(48 + k % 10).toUInt8]⟩
/-- the decimal digits of k (at most f of them) ahead of out -/
def mtx : Nat → Nat → ByteArray → ByteArray
  | 0, _, out => out
  | f + 1, k, out => if k = 0 then out else mtx f (k / 10) (dig1 k ++ out)
def mtext (k : Int) : ByteArray := if k ≤ 0 then ⟨#[109, 48]⟩ else ⟨#[109]⟩ ++ mtx 20 k.toNat ⟨#[]⟩
theorem mtx_size : (f k : Nat) → (out : ByteArray) → (mtx f k out).size ≤ out.size + f
  | 0, _, _ => Nat.le_refl _
  | f + 1, k, out => by
    rw [mtx]
    split
    · omega
    · have := mtx_size f (k / 10) (dig1 k ++ out)
      have h1 : (dig1 k ++ out).size = 1 + out.size := by rw [ByteArray.size_append]; rfl
      omega
theorem mtext_le (k : Int) : (mtext k).size ≤ maxLen := by
  unfold mtext
  split
  · exact Nat.le_trans (show (⟨#[109, 48]⟩ : ByteArray).size ≤ 2 from Nat.le_refl _) (by unfold maxLen; omega)
  · have h := mtx_size 20 k.toNat ⟨#[]⟩
    have h1 : (⟨#[109]⟩ ++ mtx 20 k.toNat ⟨#[]⟩ : ByteArray).size = 1 + (mtx 20 k.toNat ⟨#[]⟩).size := by rw [ByteArray.size_append]; rfl
    have h2 : (⟨#[]⟩ : ByteArray).size = 0 := rfl
    unfold maxLen; omega
end Go.Proofs.Ytlllidhmohdgiaa
