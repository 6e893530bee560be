/- Names of arrays: strings.Contains at one byte (after the shelf's templates), isArray of the program. -/
import Derived.Test.YtadmmlflngkpiaaCore
import Derived.Lib.Strings
import Derived.Lib.Bytealg
import Derived.Lib.Walk
set_option linter.all false
set_option linter.unusedSimpArgs false
set_option linter.unusedVariables false
namespace Go.Proofs.Ytadmmlflngkpiaa
open Go.ChangeShapes Go.WideShapes Go.ChangeAt Go.RowKit Go.Deep

set_option maxHeartbeats 1000000 in
set_option maxRecDepth 100000 in
theorem stringslite_IndexByte_c (s : ByteArray) (c : Int) (w : World) :
    Calls Try.prog 114 #[.string s, .int .u8 c] w fun e w' => e = .returned (.int .i64 (Lib.indexByte s.data.toList c.toNat.toUInt8)) ∧ w = w' := by
  go_enter Try.func114, Try.ntmps114
  go_wp2
  rw [run_callFunc_extern Try.func118 (by kernel_rfl) (by kernel_rfl) (by kernel_rfl) (e := Extern.BytealgIndexByte.indexByte) (by kernel_rfl), Lib.run_indexByteString]
  simp only [Result.andThen]
  rw [Oper.upon_value]
  go_wp2
  go_ret
  exact ⟨rfl, rfl⟩
set_option maxHeartbeats 2000000 in
set_option maxRecDepth 100000 in
theorem stringslite_Index_c (s : ByteArray) (c : UInt8) (w : World) :
    Calls Try.prog 113 #[.string s, .string ⟨#[c]⟩] w fun e w' => e = .returned (.int .i64 (Lib.indexByte s.data.toList c)) ∧ w = w' := by
  go_enter Try.func113, Try.ntmps113
  go_wp2_with (go_at_call 114; refine (stringslite_IndexByte_c _ _ _).mono ?_; rintro e w' ⟨rfl, rfl⟩)
  · have h : ([c] == s.toList) = true := by assumption
    go_ret
    refine ⟨?_, rfl⟩
    have e : s.data.toList = [c] := by rw [← Lib.toList_data]; exact (beq_iff_eq.1 h).symm
    rw [e]
    simp [Lib.indexByte]
  · go_ret
    exact ⟨rfl, rfl⟩
set_option maxHeartbeats 1000000 in
theorem strings_Index_c (s : ByteArray) (c : UInt8) (w : World) :
    Calls Try.prog 112 #[.string s, .string ⟨#[c]⟩] w fun e w' => e = .returned (.int .i64 (Lib.indexByte s.data.toList c)) ∧ w = w' := by
  go_enter Try.func112, Try.ntmps112
  go_wp2_with (go_at_call 113; refine (stringslite_Index_c _ _ _).mono ?_; rintro e w' ⟨rfl, rfl⟩)
  go_ret
  exact ⟨rfl, rfl⟩
set_option maxHeartbeats 1000000 in
theorem strings_Contains_c (s : ByteArray) (c : UInt8) (w : World) :
    Calls Try.prog 110 #[.string s, .string ⟨#[c]⟩] w fun e w' => e = .returned (.bool (decide (0 ≤ Lib.indexByte s.data.toList c))) ∧ w = w' := by
  go_enter Try.func110, Try.ntmps110
  go_wp2_with (go_at_call 112; refine (strings_Index_c _ _ _).mono ?_; rintro e w' ⟨rfl, rfl⟩)
  go_ret
  exact ⟨rfl, rfl⟩

/-- the name of an array: A, B, C or D -/
def arrL : List UInt8 → Bool
  | [c] => decide (65 ≤ c.toNat) && decide (c.toNat ≤ 68)
  | _ => false
def arrOk (s : ByteArray) : Bool := arrL s.data.toList
theorem arrOk_ne {s : ByteArray} (h : ¬ s.size = 1) : arrOk s = false := by
  unfold arrOk
  have hl : s.data.toList.length = s.size := rfl
  rcases hx : s.data.toList with _ | ⟨c, _ | ⟨d, l⟩⟩
  · rfl
  · rw [hx] at hl; exact absurd hl.symm h
  · rfl
theorem one_byte {s : ByteArray} (h : s.size = 1) : ∃ c, s = ⟨#[c]⟩ := by
  obtain ⟨⟨l⟩⟩ := s
  have hl : l.length = 1 := h
  rcases l with _ | ⟨c, _ | ⟨d, l⟩⟩
  · cases hl
  · exact ⟨c, rfl⟩
  · simp at hl
theorem arrOk_one (c : UInt8) : arrOk ⟨#[c]⟩ = decide (0 ≤ Lib.indexByte [65, 66, 67, 68] c) := by
  show (decide (65 ≤ c.toNat) && decide (c.toNat ≤ 68)) = _
  have h : ∀ n : Nat, n < 256 → (decide (65 ≤ (UInt8.ofNat n).toNat) && decide ((UInt8.ofNat n).toNat ≤ 68)) = decide (0 ≤ Lib.indexByte [65, 66, 67, 68] (UInt8.ofNat n)) := by decide +kernel
  have := h c.toNat c.toNat_lt
  rwa [UInt8.ofNat_toNat] at this

theorem bl_one (a b : UInt8) : Op.bytesLess [a] [b] = decide (a.toNat < b.toNat) := by
  simp [Op.bytesLess, UInt8.lt_iff_toNat_lt]
theorem arrL_one (c : UInt8) : arrOk ⟨#[c]⟩ = (decide (65 ≤ c.toNat) && decide (c.toNat ≤ 68)) := rfl

theorem isArray_c (s : ByteArray) (hs : s.size ≤ maxLen) (w : World) :
    Calls Try.prog 103 #[.string s] w fun e w' => e = .returned (.bool (arrOk s)) ∧ w = w' := by
  have hs2 : s.size ≤ 9223372036854775807 := Nat.le_trans hs (by unfold maxLen; omega)
  by_cases h : s.size = 1
  · obtain ⟨c, rfl⟩ := one_byte h
    rw [arrOk_one]
    go_enter Try.func103, Try.ntmps103
    go_wp2_with fail
    refine (strings_Contains_c _ c _).mono ?_
    rintro e w' ⟨rfl, rfl⟩
    go_wp2
    go_ret
    exact ⟨rfl, rfl⟩
  · have h1 : ((s.size : Int) == 1) = false := by simp; omega
    rw [arrOk_ne h]
    clear hs
    go_enter Try.func103, Try.ntmps103
    go_wp2
    go_ret
    exact ⟨rfl, rfl⟩
end Go.Proofs.Ytadmmlflngkpiaa
