/- The reference's texts: numbers below 100, terms, affine expressions. -/
import Derived.Test.YtbhniobgaoncaaaDoorStrB
import Derived.Test.YtbhniobgaoncaaaDoorBasic
import Derived.Laws.IdiomStrings
set_option linter.all false
set_option linter.unusedSimpArgs false
set_option linter.unusedVariables false
namespace Go.Proofs.YtbhniobgaoncaaaDoor
open Go.ChangeShapes Go.WideShapes Go.ChangeAt Go.RowKit Go.Deep

theorem add_none_t (b o j : Nat) : (⟨b, o, none⟩ : Addr).add j = ⟨b, o + j, none⟩ := by
  unfold Addr.add; split
  · simp_all
  · rfl
/-- one byte made a string -/
theorem byte_str {w : World} {n : Nat} (hn : n < 10) : (convert 134 9 (.slice (some ⟨w.heap.size, 0, none⟩) 1 1)).run Tryd.prog (w.alloc (.cells #[.int .u8 (48 + (n : Int))] 5)) = .ok (.string (strOf [(48 + n).toUInt8])) (w.alloc (.cells #[.int .u8 (48 + (n : Int))] 5)) := by
  have hdg : (((48 + n).toUInt8.toNat : Nat) : Int) = 48 + (n : Int) := by
    have : (48 + n).toUInt8.toNat = 48 + n := by
      rw [Nat.toUInt8, UInt8.toNat_ofNat']; omega
    rw [this]; omega
  exact run_convert_bytes_back (P := Tryd.prog) (w.alloc (.cells #[.int .u8 (48 + (n : Int))] 5)) 134 9 5 ⟨w.heap.size, 0, none⟩ 1 [(48 + n).toUInt8] Tryd.underlying134 Tryd.underlying5 Tryd.underlying9 (by
    intro j hj
    have : j = 0 := by simp at hj; omega
    subst this
    rw [add_none_t, World.cell?_alloc_new]
    show some (Value.int .u8 (48 + (n : Int))) = some (.int .u8 (((48 + n).toUInt8.toNat : Nat) : Int))
    rw [hdg])
theorem decL_lo {n : Nat} (h : n < 10) : decL n = [(48 + n).toUInt8] := by unfold decL; rw [if_pos h]
theorem decL_hi {n : Nat} (h : ¬ n < 10) : decL n = [(48 + n / 10).toUInt8] ++ [(48 + n % 10).toUInt8] := by unfold decL; rw [if_neg h]; rfl
set_option maxRecDepth 100000 in
set_option maxHeartbeats 1000000 in
theorem l16Dec_c {w : World} {n : Nat} (hn : n < 100) :
    Calls Tryd.prog 80 #[.int .i64 n] w fun e w' => e = .returned (.string (strOf (decL n))) ∧ Below w.heap.size w w' := by
  go_enter Tryd.func80, Tryd.ntmps80
  go_wp2
  go_loopw [0, 3] (fun u v wr => ∃ (m : Nat) (out : List UInt8), u = .int .i64 m ∧ v = .string (strOf out) ∧ ((m = n ∧ out = []) ∨ (m < 10 ∧ decL n = [(48 + m).toUInt8] ++ out)) ∧ out.length ≤ 1 ∧ Below w.heap.size w wr) (fun u _ _ => (intOf u).toNat)
  case atStart => exact ⟨n, [], rfl, rfl, .inl ⟨rfl, rfl⟩, by simp, Below.refl _ _⟩
  case round =>
    obtain ⟨m, out, rfl, rfl, hm, hl, hb⟩ := hrel
    by_cases h9 : 9 < m
    · rcases hm with ⟨rfl, rfl⟩ | ⟨h1, _⟩
      · have hz : (9 : Int) < (m : Int) := by omega
        have hc := byte_str (w := wr) (n := m % 10) (by omega)
        have hd : (m : Int) % 10 = ((m % 10 : Nat) : Int) := by omega
        have HH := Lib.hid (decL_hi (n := m) (by omega))
        clear hl
        obtain ⟨k, hk⟩ : ∃ k : Nat, k = m % 10 := ⟨_, rfl⟩
        have hk9 : k < 10 := by omega
        rw [← hk] at hc hd HH
        obtain ⟨c, hcc⟩ : ∃ c : UInt8, c = (48 + k).toUInt8 := ⟨_, rfl⟩
        rw [← hcc] at hc HH
        clear hcc
        have hw6 : IntKind.i64.wrap (48 + (k : Int)) = 48 + (k : Int) := by rw [IntKind.wrap_i64]; omega
        have hw8 : IntKind.u8.wrap (48 + (k : Int)) = 48 + (k : Int) := by simp [IntKind.wrap, IntKind.bits, IntKind.signed]; omega
        go_wp2
        rw [hd]
        clear hd hk
        go_wp2
        refine ⟨⟨m / 10, [c], int_eq (by omega), by rw [strOf_app]; rfl, .inr ⟨by omega, HH.out⟩, by simp, bel⟩, ?_⟩
        simp [intOf]; omega
      · omega
    · have hz : ¬ (9 : Int) < (m : Int) := by omega
      have HH : Hid (decL n = [(48 + m).toUInt8] ++ out) := Lib.hid (by
        rcases hm with ⟨rfl, rfl⟩ | ⟨_, h⟩
        · rw [decL_lo (show m < 10 by omega)]; rfl
        · exact h)
      have hc := byte_str (w := wr) (n := m) (by omega)
      obtain ⟨c, hcc⟩ : ∃ c : UInt8, c = (48 + m).toUInt8 := ⟨_, rfl⟩
      rw [← hcc] at hc HH
      clear hcc hm
      have hw6 : IntKind.i64.wrap (48 + (m : Int)) = 48 + (m : Int) := by rw [IntKind.wrap_i64]; omega
      have hw8 : IntKind.u8.wrap (48 + (m : Int)) = 48 + (m : Int) := by simp [IntKind.wrap, IntKind.bits, IntKind.signed]; omega
      have hs1 : (strOf [c]).size = 1 := strOf_size _
      have hs2 : (strOf out).size = out.length := strOf_size _
      have hs3 : (strOf [c]).size + (strOf out).size ≤ 9223372036854775807 := by omega
      go_wp2
      go_ret
      exact ⟨by rw [strOf_app, HH.out]; rfl, bel⟩
set_option maxRecDepth 100000 in
set_option maxHeartbeats 1000000 in
/-- a term without a name -/
theorem l1Term_0 {w : World} {c : Int} (h0 : c ≠ 0) (hc : c.natAbs < 100) :
    Calls Tryd.prog 62 #[.int .i64 c, .string ⟨#[]⟩] w fun e w' => e = .returned (.string (strOf (sgS c ++ decL c.natAbs))) ∧ Below w.heap.size w w' := by
  have hd : ∀ n, (decL n).length ≤ 2 := decL_len
  by_cases hlt : c < 0
  · obtain ⟨n, rfl⟩ : ∃ n : Nat, c = -(n : Int) := ⟨c.natAbs, by omega⟩
    have hn : n < 100 := by omega
    have hlt2 : 0 < n := by omega
    have hs2 : (strOf (decL n)).size ≤ 2 := by rw [strOf_size]; exact hd n
    have HP : Hid (strOf (sgS (-(n : Int)) ++ decL (-(n : Int)).natAbs) = (⟨#[45]⟩ : ByteArray) ++ strOf (decL n)) := Lib.hid (by
      rw [sgS, if_pos (by omega), Int.natAbs_neg, Int.natAbs_natCast, ← strOf_app]; rfl)
    clear h0 hc hlt hd
    go_enter Tryd.func62, Tryd.ntmps62
    go_wp2_with fail
    refine (l16Dec_c hn).mono ?_
    rintro e w1 ⟨rfl, b1⟩
    have S1 : Below w.heap.size w w1 := bel
    clear b1
    go_wp2
    go_ret
    exact ⟨by rw [HP.out]; rfl, bel⟩
  · obtain ⟨n, rfl⟩ : ∃ n : Nat, c = (n : Int) := ⟨c.natAbs, by omega⟩
    have hn : n < 100 := by omega
    have hlt2 : 0 < n := by omega
    have hs2 : (strOf (decL n)).size ≤ 2 := by rw [strOf_size]; exact hd n
    have HP : Hid (strOf (sgS ((n : Int)) ++ decL ((n : Int)).natAbs) = (⟨#[43]⟩ : ByteArray) ++ strOf (decL n)) := Lib.hid (by
      rw [sgS, if_neg (by omega), Int.natAbs_natCast, ← strOf_app]; rfl)
    clear h0 hc hlt hd
    go_enter Tryd.func62, Tryd.ntmps62
    go_wp2_with fail
    refine (l16Dec_c hn).mono ?_
    rintro e w2 ⟨rfl, b2⟩
    have S2 : Below w.heap.size w w2 := bel
    clear b2
    go_wp2
    go_ret
    exact ⟨by rw [HP.out]; rfl, bel⟩
set_option maxRecDepth 100000 in
set_option maxHeartbeats 1000000 in
/-- a term with a name -/
theorem l1Term_1 {w : World} {c : Int} {d : UInt8} (h0 : c ≠ 0) (hc : c.natAbs < 100) :
    Calls Tryd.prog 62 #[.int .i64 c, .string ⟨#[d]⟩] w fun e w' => e = .returned (.string (strOf (sgS c ++ bodyL c [d]))) ∧ Below w.heap.size w w' := by
  have hd : ∀ n, (decL n).length ≤ 2 := decL_len
  by_cases hlt : c < 0
  · obtain ⟨n, rfl⟩ : ∃ n : Nat, c = -(n : Int) := ⟨c.natAbs, by omega⟩
    have hn : n < 100 := by omega
    have hlt2 : 0 < n := by omega
    have hs2 : (strOf (decL n)).size ≤ 2 := by rw [strOf_size]; exact hd n
    by_cases h1 : n = 1
    · subst h1
      clear hc h0 hlt hd
      go_enter Tryd.func62, Tryd.ntmps62
      go_wp2
      go_ret
      exact ⟨rfl, bel⟩
    · have hn1 : ¬ (n : Int) = 1 := by omega
      have HP : Hid (strOf (sgS (-(n : Int)) ++ bodyL (-(n : Int)) [d]) = (((⟨#[45]⟩ : ByteArray) ++ strOf (decL n)) ++ ⟨#[42]⟩) ++ ⟨#[d]⟩) := Lib.hid (by
        rw [sgS, if_pos (by omega), bodyL, Int.natAbs_neg, Int.natAbs_natCast, if_pos (by omega), ← strOf_app, ← strOf_app, ← strOf_app, ← ByteArray.append_assoc, ← ByteArray.append_assoc]; rfl)
      clear h0 hc hlt hd
      go_enter Tryd.func62, Tryd.ntmps62
      go_wp2_with fail
      refine (l16Dec_c hn).mono ?_
      rintro e w1 ⟨rfl, b1⟩
      have S1 : Below w.heap.size w w1 := bel
      clear b1
      go_wp2
      go_ret
      exact ⟨by rw [HP.out]; rfl, bel⟩
  · obtain ⟨n, rfl⟩ : ∃ n : Nat, c = (n : Int) := ⟨c.natAbs, by omega⟩
    have hn : n < 100 := by omega
    have hlt2 : 0 < n := by omega
    have hs2 : (strOf (decL n)).size ≤ 2 := by rw [strOf_size]; exact hd n
    by_cases h1 : n = 1
    · subst h1
      clear hc h0 hlt hd
      go_enter Tryd.func62, Tryd.ntmps62
      go_wp2
      go_ret
      exact ⟨rfl, bel⟩
    · have hn1 : ¬ (n : Int) = 1 := by omega
      have HP : Hid (strOf (sgS ((n : Int)) ++ bodyL ((n : Int)) [d]) = (((⟨#[43]⟩ : ByteArray) ++ strOf (decL n)) ++ ⟨#[42]⟩) ++ ⟨#[d]⟩) := Lib.hid (by
        rw [sgS, if_neg (by omega), bodyL, Int.natAbs_natCast, if_pos (by omega), ← strOf_app, ← strOf_app, ← strOf_app, ← ByteArray.append_assoc, ← ByteArray.append_assoc]; rfl)
      clear h0 hc hlt hd
      go_enter Tryd.func62, Tryd.ntmps62
      go_wp2_with fail
      refine (l16Dec_c hn).mono ?_
      rintro e w2 ⟨rfl, b2⟩
      have S2 : Below w.heap.size w w2 := bel
      clear b2
      go_wp2
      go_ret
      exact ⟨by rw [HP.out]; rfl, bel⟩
end Go.Proofs.YtbhniobgaoncaaaDoor
