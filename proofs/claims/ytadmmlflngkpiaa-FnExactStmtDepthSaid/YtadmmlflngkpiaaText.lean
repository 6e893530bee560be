/- Texts: what laws.markText writes. -/
import Derived.Test.YtadmmlflngkpiaaCore
import Derived.Laws.IdiomStrings
set_option linter.all false
set_option linter.unusedSimpArgs false
set_option linter.unusedVariables false
namespace Go.Proofs.Ytadmmlflngkpiaa
open Go.ChangeShapes Go.WideShapes Go.ChangeAt Go.RowKit Go.Deep

/-- one digit as a text -/
def dig1 (k : Nat) : ByteArray := ⟨#[(48 + k % 10).toUInt8]⟩
/-- the decimal digits of k (at most f of them) ahead of out -/
def mtx : Nat → Nat → ByteArray → ByteArray
  | 0, _, out => out
  | f + 1, k, out => if k = 0 then out else mtx f (k / 10) (dig1 k ++ out)
def mtext (k : Int) : ByteArray := if k ≤ 0 then ⟨#[109, 48]⟩ else ⟨#[109]⟩ ++ mtx 20 k.toNat ⟨#[]⟩
theorem mtx_size : (f k : Nat) → (out : ByteArray) → (mtx f k out).size ≤ out.size + f
  | 0, _, _ => Nat.le_refl _
  | f + 1, k, out => by
    rw [mtx]
    split
    · omega
    · have := mtx_size f (k / 10) (dig1 k ++ out)
      have h1 : (dig1 k ++ out).size = 1 + out.size := by rw [ByteArray.size_append]; rfl
      omega
theorem mtext_le (k : Int) : (mtext k).size ≤ maxLen := by
  unfold mtext
  split
  · exact Nat.le_trans (show (⟨#[109, 48]⟩ : ByteArray).size ≤ 2 from Nat.le_refl _) (by unfold maxLen; omega)
  · have h := mtx_size 20 k.toNat ⟨#[]⟩
    have h1 : (⟨#[109]⟩ ++ mtx 20 k.toNat ⟨#[]⟩ : ByteArray).size = 1 + (mtx 20 k.toNat ⟨#[]⟩).size := by rw [ByteArray.size_append]; rfl
    have h2 : (⟨#[]⟩ : ByteArray).size = 0 := rfl
    unfold maxLen; omega

theorem add_none1 (b o j : Nat) : (⟨b, o, none⟩ : Addr).add j = ⟨b, o + j, none⟩ := by
  unfold Addr.add; split
  · simp_all
  · rfl
theorem mtx_step {f m : Nat} {out : ByteArray} (h : 0 < m) : mtx (f + 1) m out = mtx f (m / 10) (dig1 m ++ out) := by rw [mtx, if_neg (by omega)]
theorem mtx_zero (f : Nat) (out : ByteArray) : mtx f 0 out = out := by cases f <;> simp [mtx]
set_option maxRecDepth 100000 in
set_option maxHeartbeats 2000000 in
theorem markText_c {w : World} {k : Int} (h0 : 0 ≤ k) (h1 : k ≤ 9223372036854775807) :
    Calls Try.prog 58 #[.int .i64 k] w fun e w' => e = .returned (.string (mtext k)) ∧ Below w.heap.size w w' := by
  obtain ⟨n, rfl⟩ := Int.eq_ofNat_of_zero_le h0
  have hn : n ≤ 9223372036854775807 := by omega
  clear h0 h1
  by_cases hz : n = 0
  · subst hz
    go_enter Try.func58, Try.ntmps58
    go_wp2
    go_ret
    exact ⟨rfl, bel⟩
  have hM := Lib.hid (show mtext (n : Int) = ⟨#[109]⟩ ++ mtx 20 n ⟨#[]⟩ by rw [mtext, if_neg (by omega)]; rfl)
  go_enter Try.func58, Try.ntmps58
  go_wp2
  go_loopw [0, 3] (fun u v wr => ∃ (m f : Nat) (out : ByteArray), u = .int .i64 m ∧ v = .string out ∧ m ≤ n ∧ mtx 20 n ⟨#[]⟩ = mtx f m out ∧ m < 10 ^ f ∧ out.size + f ≤ 20 ∧ Below w.heap.size w wr) (fun u _ _ => (intOf u).toNat)
  case atStart => exact ⟨n, 20, ⟨#[]⟩, rfl, rfl, Nat.le_refl _, rfl, by omega, Nat.le_refl _, bel⟩
  case round =>
    obtain ⟨m, f, out, rfl, rfl, hmn, hx, hlt, hsz, hb⟩ := hrel
    have HX := Lib.hid hx; clear hx
    by_cases hm : 0 < m
    · have hf0 : f ≠ 0 := fun e => by rw [e] at hlt; simp at hlt; omega
      obtain ⟨f, rfl⟩ : ∃ g, f = g + 1 := ⟨f - 1, by omega⟩
      have HS := Lib.hid (HX.out.trans (mtx_step hm))
      have HLT := Lib.hid hlt; clear hlt hf0 HX
      have hdg : (((48 + m % 10).toUInt8.toNat : Nat) : Int) = 48 + (m : Int) % 10 := by
        have : (48 + m % 10).toUInt8.toNat = 48 + m % 10 := by
          rw [Nat.toUInt8, UInt8.toNat_ofNat']; omega
        rw [this]; omega
      obtain ⟨cb, hcb⟩ : ∃ cb, cb = (48 + m % 10).toUInt8 := ⟨_, rfl⟩
      rw [← hcb] at hdg
      have HDG := Lib.hid (show dig1 m = ⟨#[cb]⟩ by rw [hcb]; rfl)
      clear hcb
      have hback := run_convert_bytes_back (P := Try.prog) (wr.alloc (.cells #[.int .u8 (48 + (m : Int) % 10)] 5)) 110 9 5 ⟨wr.heap.size, 0, none⟩ 1 [cb] Try.underlying110 Try.underlying5 Try.underlying9 (by
        intro j hj
        have : j = 0 := by simp at hj; omega
        subst this
        rw [add_none1, World.cell?_alloc_new]
        show some (Value.int .u8 (48 + (m : Int) % 10)) = some (.int .u8 ((cb.toNat : Nat) : Int))
        rw [hdg])
      simp only [List.length_singleton] at hback
      rw [show (ByteArray.mk [cb].toArray) = dig1 m from HDG.out.symm] at hback
      have hds : (dig1 m).size = 1 := rfl
      have hcs : (dig1 m ++ out).size = 1 + out.size := by rw [ByteArray.size_append, hds]
      have HB := Lib.hid (show m / 10 < 10 ^ f from by
        have := HLT.out
        rw [Nat.pow_succ] at this
        exact Nat.div_lt_of_lt_mul (by omega))
      go_wp2
      go_roundw
      case rel => exact ⟨m / 10, f, dig1 m ++ out, by go_num, rfl, by omega, HS.out, HB.out, by omega, bel⟩
      case measure => simp [intOf]; omega
    · have hm0 : m = 0 := by omega
      subst hm0
      have HE := Lib.hid (show mtext (n : Int) = ⟨#[109]⟩ ++ out by rw [hM.out, HX.out, mtx_zero])
      clear hlt
      go_wp2
      go_ret
      refine ⟨?_, hb⟩
      rw [HE.out]
      rfl
end Go.Proofs.Ytadmmlflngkpiaa
