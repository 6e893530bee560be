/- The reference's texts: numbers below 100, terms, affine expressions. -/
import Derived.Test.YtbhniobgaoncaaaGreatDoorZpStmtOk
import Derived.Lib.ItoaNum
import Derived.Test.YtbhniobgaoncaaaGreatDoorZpBasic
import Derived.Laws.IdiomStrings
set_option linter.all false
set_option linter.unusedSimpArgs false
set_option linter.unusedVariables false
namespace Go.Proofs.YtbhniobgaoncaaaGreatDoor
open Go.ChangeShapes Go.WideShapes Go.ChangeAt Go.RowKit Go.Deep

/-- a number below 100 in digits -/
def decL (n : Nat) : List UInt8 := if n < 10 then [(48 + n).toUInt8] else [(48 + n / 10).toUInt8, (48 + n % 10).toUInt8]
theorem decL_ne (n : Nat) : decL n ≠ [] := by unfold decL; split <;> simp
theorem decL_len (n : Nat) : (decL n).length ≤ 2 := by unfold decL; split <;> simp
/-- a term without its sign -/
def bodyL (c : Int) (nm : List UInt8) : List UInt8 := (if 1 < c.natAbs then decL c.natAbs ++ [42] else []) ++ nm
def nameL (v : Nat) : List UInt8 := [(105 + v).toUInt8]
/-- the program's way: a sign '+' only behind something -/
def sgI (o : List UInt8) (c : Int) : List UInt8 := if c < 0 then o ++ [45] else if o = [] then o else o ++ [43]
def stI (o : List UInt8) (c : Int) (v : Nat) : List UInt8 := if c = 0 then o else sgI o c ++ bodyL c (nameL v)
def foI (cs : List Int) : Nat → List UInt8
  | 0 => []
  | v + 1 => stI (foI cs v) (gi cs v) v
def cnI (o : List UInt8) (k : Int) : List UInt8 := if k = 0 then o else sgI o k ++ decL k.natAbs
def rawI (a : Aff) : List UInt8 := cnI (foI a.coefs a.coefs.length) a.const
def affI (a : Aff) : List UInt8 := if rawI a = [] then [48] else rawI a
/-- the reference's way: every term has a sign; a first '+' falls -/
def sgS (c : Int) : List UInt8 := if c < 0 then [45] else [43]
def stS (o : List UInt8) (c : Int) (v : Nat) : List UInt8 := if c = 0 then o else o ++ (sgS c ++ bodyL c (nameL v))
def foS (cs : List Int) : Nat → List UInt8
  | 0 => []
  | v + 1 => stS (foS cs v) (gi cs v) v
def cnS (o : List UInt8) (k : Int) : List UInt8 := if k = 0 then o else o ++ (sgS k ++ decL k.natAbs)
def rawS (a : Aff) : List UInt8 := cnS (foS a.coefs a.coefs.length) a.const
def cutL : List UInt8 → List UInt8
  | [] => [48]
  | c :: t => if c = 43 then t else c :: t
def affS (a : Aff) : List UInt8 := cutL (rawS a)
/-- the two agree on the way -/
def Agr (i s : List UInt8) : Prop := (i = [] ∧ s = []) ∨ (i ≠ [] ∧ ∃ c t, s = c :: t ∧ i = if c = 43 then t else c :: t)
theorem Agr.term {i s b : List UInt8} (h : Agr i s) (c : Int) (hb : b ≠ []) : Agr (sgI i c ++ b) (s ++ (sgS c ++ b)) := by
  rcases h with ⟨rfl, rfl⟩ | ⟨hi, d, t, rfl, he⟩
  · refine .inr ⟨by simp [hb], ?_⟩
    unfold sgI sgS
    by_cases h : c < 0
    · rw [if_pos h, if_pos h]; exact ⟨45, b, rfl, by simp⟩
    · rw [if_neg h, if_neg h, if_pos rfl]; exact ⟨43, b, rfl, by simp⟩
  · refine .inr ⟨by simp [hb], d, t ++ (sgS c ++ b), by simp, ?_⟩
    have hs : sgI i c = i ++ sgS c := by
      unfold sgI sgS
      rw [if_neg hi]
      split <;> rfl
    rw [hs, he]
    split <;> simp
theorem bodyL_ne {c : Int} {v : Nat} : bodyL c (nameL v) ≠ [] := by unfold bodyL nameL; simp
theorem agr_fo (cs : List Int) : ∀ v, Agr (foI cs v) (foS cs v)
  | 0 => .inl ⟨rfl, rfl⟩
  | v + 1 => by
    rw [foI, foS]
    unfold stI stS
    split
    · exact agr_fo cs v
    · exact (agr_fo cs v).term _ bodyL_ne
theorem affI_eq (a : Aff) : affI a = affS a := by
  have h : Agr (rawI a) (rawS a) := by
    unfold rawI rawS cnI cnS
    split
    · exact agr_fo _ _
    · exact (agr_fo _ _).term _ (decL_ne _)
  unfold affI affS
  rcases h with ⟨h1, h2⟩ | ⟨h1, c, t, h2, h3⟩
  · rw [h1, h2, if_pos rfl]; rfl
  · rw [if_neg h1, h2, h3]; rfl
theorem sgI_len (o : List UInt8) (c : Int) : (sgI o c).length ≤ o.length + 1 := by unfold sgI; split <;> (try split) <;> simp
theorem stI_len (o : List UInt8) (c : Int) (v : Nat) : (stI o c v).length ≤ o.length + 5 := by
  unfold stI
  split
  · omega
  · have h1 := sgI_len o c
    have h2 := decL_len c.natAbs
    unfold bodyL nameL
    rw [List.length_append, List.length_append]
    split <;> simp <;> omega
theorem foI_len (cs : List Int) : ∀ v, (foI cs v).length ≤ 5 * v
  | 0 => by simp [foI]
  | v + 1 => by rw [foI]; have := stI_len (foI cs v) (gi cs v) v; have := foI_len cs v; omega
theorem rawI_len {a : Aff} (h : a.coefs.length ≤ 4) : (rawI a).length ≤ 23 := by
  have h1 := foI_len a.coefs a.coefs.length
  unfold rawI cnI
  split
  · omega
  · rw [List.length_append]
    have h2 := sgI_len (foI a.coefs a.coefs.length) a.const
    have h3 := decL_len a.const.natAbs
    omega
theorem affI_len {a : Aff} (h : a.coefs.length ≤ 4) : (affI a).length ≤ 23 := by
  have := rawI_len h
  unfold affI; split
  · simp
  · exact this
def strOf (l : List UInt8) : ByteArray := ⟨l.toArray⟩
theorem strOf_eq {s : ByteArray} {l : List UInt8} (h : s.data.toList = l) : s = strOf l := by
  subst h; unfold strOf; apply ByteArray.ext; simp
theorem strOf_data (l : List UInt8) : (strOf l).data.toList = l := by simp [strOf]
theorem strOf_size (l : List UInt8) : (strOf l).size = l.length := by simp [strOf, ByteArray.size]
theorem data_app (s t : ByteArray) : (s ++ t).data.toList = s.data.toList ++ t.data.toList := by simp
/-- .. of bounds, of a nest -/
def sideL : List Aff → List UInt8
  | [] => []
  | [a] => affI a
  | a :: b :: l => affI a ++ (44 :: sideL (b :: l))
def loopL (x : Lp) : List UInt8 := [102, 111, 114, 32] ++ (sideL x.lo ++ ([32] ++ (sideL x.hi ++ [10])))
def nestL (xs : List Lp) : List UInt8 := xs.flatMap loopL
/-- .. of an access, an expression, a statement -/
def accL (x : Acc) : List UInt8 := x.arr.data.toList ++ ([91] ++ (sideL x.subs ++ [93]))
def opL (k : Int) : List UInt8 := if k = 4 then [43] else if k = 5 then [45] else [42]
mutual
def exL : Ex → List UInt8
  | ⟨k, n, i, r, ks⟩ => if k = 1 then decL n.toNat else if k = 2 then [123] ++ (affI i ++ [125]) else if k = 3 then accL r else [40] ++ (exsL (opL k) ks ++ [41])
def exsL (o : List UInt8) : List Ex → List UInt8
  | [] => []
  | x :: xs => exL x ++ exrL o xs
def exrL (o : List UInt8) : List Ex → List UInt8
  | [] => []
  | x :: xs => o ++ (exL x ++ exrL o xs)
end
def stmL (s : Stm) : List UInt8 := accL s.write ++ ([61] ++ exL s.value)
end Go.Proofs.YtbhniobgaoncaaaGreatDoor
set_option linter.all false
set_option linter.unusedSimpArgs false
set_option linter.unusedVariables false
namespace Go.Proofs.YtbhniobgaoncaaaGreatDoor
open Go.ChangeShapes Go.WideShapes Go.ChangeAt Go.RowKit Go.Deep

theorem strOf_app (a b : List UInt8) : strOf a ++ strOf b = strOf (a ++ b) := by
  apply ByteArray.ext
  apply Array.toList_inj.1
  rw [data_app, strOf_data, strOf_data, strOf_data]
theorem decDigits_lt {n : Nat} (h : n < 100) : Lib.decDigits n = decL n := by
  have : ∀ n : Fin 100, Lib.decDigits n.val = decL n.val := by decide +kernel
  exact this ⟨n, h⟩
end Go.Proofs.YtbhniobgaoncaaaGreatDoor
set_option linter.all false
set_option linter.unusedSimpArgs false
set_option linter.unusedVariables false
namespace Go.Proofs.YtbhniobgaoncaaaGreatDoor
open Go.ChangeShapes Go.WideShapes Go.ChangeAt Go.RowKit Go.Deep

theorem add_none_t (b o j : Nat) : (⟨b, o, none⟩ : Addr).add j = ⟨b, o + j, none⟩ := by
  unfold Addr.add; split
  · simp_all
  · rfl
/-- one byte made a string -/
theorem byte_str {w : World} {n : Nat} (hn : n < 10) : (convert 115 9 (.slice (some ⟨w.heap.size, 0, none⟩) 1 1)).run Tryz.prog (w.alloc (.cells #[.int .u8 (48 + (n : Int))] 5)) = .ok (.string (strOf [(48 + n).toUInt8])) (w.alloc (.cells #[.int .u8 (48 + (n : Int))] 5)) := by
  have hdg : (((48 + n).toUInt8.toNat : Nat) : Int) = 48 + (n : Int) := by
    have : (48 + n).toUInt8.toNat = 48 + n := by
      rw [Nat.toUInt8, UInt8.toNat_ofNat']; omega
    rw [this]; omega
  exact run_convert_bytes_back (P := Tryz.prog) (w.alloc (.cells #[.int .u8 (48 + (n : Int))] 5)) 115 9 5 ⟨w.heap.size, 0, none⟩ 1 [(48 + n).toUInt8] Tryz.underlying115 Tryz.underlying5 Tryz.underlying9 (by
    intro j hj
    have : j = 0 := by simp at hj; omega
    subst this
    rw [add_none_t, World.cell?_alloc_new]
    show some (Value.int .u8 (48 + (n : Int))) = some (.int .u8 (((48 + n).toUInt8.toNat : Nat) : Int))
    rw [hdg])
theorem decL_lo {n : Nat} (h : n < 10) : decL n = [(48 + n).toUInt8] := by unfold decL; rw [if_pos h]
theorem decL_hi {n : Nat} (h : ¬ n < 10) : decL n = [(48 + n / 10).toUInt8] ++ [(48 + n % 10).toUInt8] := by unfold decL; rw [if_neg h]; rfl
set_option maxRecDepth 100000 in
set_option maxHeartbeats 1000000 in
theorem l16Dec_c {w : World} {n : Nat} (hn : n < 100) :
    Calls Tryz.prog 29 #[.int .i64 n] w fun e w' => e = .returned (.string (strOf (decL n))) ∧ Below w.heap.size w w' := by
  go_enter Tryz.func29, Tryz.ntmps29
  go_wp2
  go_loopw [0, 3] (fun u v wr => ∃ (m : Nat) (out : List UInt8), u = .int .i64 m ∧ v = .string (strOf out) ∧ ((m = n ∧ out = []) ∨ (m < 10 ∧ decL n = [(48 + m).toUInt8] ++ out)) ∧ out.length ≤ 1 ∧ Below w.heap.size w wr) (fun u _ _ => (intOf u).toNat)
  case atStart => exact ⟨n, [], rfl, rfl, .inl ⟨rfl, rfl⟩, by simp, Below.refl _ _⟩
  case round =>
    obtain ⟨m, out, rfl, rfl, hm, hl, hb⟩ := hrel
    by_cases h9 : 9 < m
    · rcases hm with ⟨rfl, rfl⟩ | ⟨h1, _⟩
      · have hz : (9 : Int) < (m : Int) := by omega
        have hc := byte_str (w := wr) (n := m % 10) (by omega)
        have hd : (m : Int) % 10 = ((m % 10 : Nat) : Int) := by omega
        have HH := Lib.hid (decL_hi (n := m) (by omega))
        clear hl
        obtain ⟨k, hk⟩ : ∃ k : Nat, k = m % 10 := ⟨_, rfl⟩
        have hk9 : k < 10 := by omega
        rw [← hk] at hc hd HH
        obtain ⟨c, hcc⟩ : ∃ c : UInt8, c = (48 + k).toUInt8 := ⟨_, rfl⟩
        rw [← hcc] at hc HH
        clear hcc
        have hw6 : IntKind.i64.wrap (48 + (k : Int)) = 48 + (k : Int) := by rw [IntKind.wrap_i64]; omega
        have hw8 : IntKind.u8.wrap (48 + (k : Int)) = 48 + (k : Int) := by simp [IntKind.wrap, IntKind.bits, IntKind.signed]; omega
        go_wp2
        rw [hd]
        clear hd hk
        go_wp2
        refine ⟨⟨m / 10, [c], int_eq (by omega), by rw [strOf_app]; rfl, .inr ⟨by omega, HH.out⟩, by simp, bel⟩, ?_⟩
        simp [intOf]; omega
      · omega
    · have hz : ¬ (9 : Int) < (m : Int) := by omega
      have HH : Hid (decL n = [(48 + m).toUInt8] ++ out) := Lib.hid (by
        rcases hm with ⟨rfl, rfl⟩ | ⟨_, h⟩
        · rw [decL_lo (show m < 10 by omega)]; rfl
        · exact h)
      have hc := byte_str (w := wr) (n := m) (by omega)
      obtain ⟨c, hcc⟩ : ∃ c : UInt8, c = (48 + m).toUInt8 := ⟨_, rfl⟩
      rw [← hcc] at hc HH
      clear hcc hm
      have hw6 : IntKind.i64.wrap (48 + (m : Int)) = 48 + (m : Int) := by rw [IntKind.wrap_i64]; omega
      have hw8 : IntKind.u8.wrap (48 + (m : Int)) = 48 + (m : Int) := by simp [IntKind.wrap, IntKind.bits, IntKind.signed]; omega
      have hs1 : (strOf [c]).size = 1 := strOf_size _
      have hs2 : (strOf out).size = out.length := strOf_size _
      have hs3 : (strOf [c]).size + (strOf out).size ≤ 9223372036854775807 := by omega
      go_wp2
      go_ret
      exact ⟨by rw [strOf_app, HH.out]; rfl, bel⟩
set_option maxRecDepth 100000 in
set_option maxHeartbeats 1000000 in
/-- a term without a name -/
theorem l1Term_0 {w : World} {c : Int} (h0 : c ≠ 0) (hc : c.natAbs < 100) :
    Calls Tryz.prog 123 #[.int .i64 c, .string ⟨#[]⟩] w fun e w' => e = .returned (.string (strOf (sgS c ++ decL c.natAbs))) ∧ Below w.heap.size w w' := by
  have hd : ∀ n, (decL n).length ≤ 2 := decL_len
  by_cases hlt : c < 0
  · obtain ⟨n, rfl⟩ : ∃ n : Nat, c = -(n : Int) := ⟨c.natAbs, by omega⟩
    have hn : n < 100 := by omega
    have hlt2 : 0 < n := by omega
    have hs2 : (strOf (decL n)).size ≤ 2 := by rw [strOf_size]; exact hd n
    have HP : Hid (strOf (sgS (-(n : Int)) ++ decL (-(n : Int)).natAbs) = (⟨#[45]⟩ : ByteArray) ++ strOf (decL n)) := Lib.hid (by
      rw [sgS, if_pos (by omega), Int.natAbs_neg, Int.natAbs_natCast, ← strOf_app]; rfl)
    clear h0 hc hlt hd
    go_enter Tryz.func123, Tryz.ntmps123
    go_wp2_with fail
    refine (l16Dec_c hn).mono ?_
    rintro e w1 ⟨rfl, b1⟩
    have S1 : Below w.heap.size w w1 := bel
    clear b1
    go_wp2
    go_ret
    exact ⟨by rw [HP.out]; rfl, bel⟩
  · obtain ⟨n, rfl⟩ : ∃ n : Nat, c = (n : Int) := ⟨c.natAbs, by omega⟩
    have hn : n < 100 := by omega
    have hlt2 : 0 < n := by omega
    have hs2 : (strOf (decL n)).size ≤ 2 := by rw [strOf_size]; exact hd n
    have HP : Hid (strOf (sgS ((n : Int)) ++ decL ((n : Int)).natAbs) = (⟨#[43]⟩ : ByteArray) ++ strOf (decL n)) := Lib.hid (by
      rw [sgS, if_neg (by omega), Int.natAbs_natCast, ← strOf_app]; rfl)
    clear h0 hc hlt hd
    go_enter Tryz.func123, Tryz.ntmps123
    go_wp2_with fail
    refine (l16Dec_c hn).mono ?_
    rintro e w2 ⟨rfl, b2⟩
    have S2 : Below w.heap.size w w2 := bel
    clear b2
    go_wp2
    go_ret
    exact ⟨by rw [HP.out]; rfl, bel⟩
set_option maxRecDepth 100000 in
set_option maxHeartbeats 1000000 in
/-- a term with a name -/
theorem l1Term_1 {w : World} {c : Int} {d : UInt8} (h0 : c ≠ 0) (hc : c.natAbs < 100) :
    Calls Tryz.prog 123 #[.int .i64 c, .string ⟨#[d]⟩] w fun e w' => e = .returned (.string (strOf (sgS c ++ bodyL c [d]))) ∧ Below w.heap.size w w' := by
  have hd : ∀ n, (decL n).length ≤ 2 := decL_len
  by_cases hlt : c < 0
  · obtain ⟨n, rfl⟩ : ∃ n : Nat, c = -(n : Int) := ⟨c.natAbs, by omega⟩
    have hn : n < 100 := by omega
    have hlt2 : 0 < n := by omega
    have hs2 : (strOf (decL n)).size ≤ 2 := by rw [strOf_size]; exact hd n
    by_cases h1 : n = 1
    · subst h1
      clear hc h0 hlt hd
      go_enter Tryz.func123, Tryz.ntmps123
      go_wp2
      go_ret
      exact ⟨rfl, bel⟩
    · have hn1 : ¬ (n : Int) = 1 := by omega
      have HP : Hid (strOf (sgS (-(n : Int)) ++ bodyL (-(n : Int)) [d]) = (((⟨#[45]⟩ : ByteArray) ++ strOf (decL n)) ++ ⟨#[42]⟩) ++ ⟨#[d]⟩) := Lib.hid (by
        rw [sgS, if_pos (by omega), bodyL, Int.natAbs_neg, Int.natAbs_natCast, if_pos (by omega), ← strOf_app, ← strOf_app, ← strOf_app, ← ByteArray.append_assoc, ← ByteArray.append_assoc]; rfl)
      clear h0 hc hlt hd
      go_enter Tryz.func123, Tryz.ntmps123
      go_wp2_with fail
      refine (l16Dec_c hn).mono ?_
      rintro e w1 ⟨rfl, b1⟩
      have S1 : Below w.heap.size w w1 := bel
      clear b1
      go_wp2
      go_ret
      exact ⟨by rw [HP.out]; rfl, bel⟩
  · obtain ⟨n, rfl⟩ : ∃ n : Nat, c = (n : Int) := ⟨c.natAbs, by omega⟩
    have hn : n < 100 := by omega
    have hlt2 : 0 < n := by omega
    have hs2 : (strOf (decL n)).size ≤ 2 := by rw [strOf_size]; exact hd n
    by_cases h1 : n = 1
    · subst h1
      clear hc h0 hlt hd
      go_enter Tryz.func123, Tryz.ntmps123
      go_wp2
      go_ret
      exact ⟨rfl, bel⟩
    · have hn1 : ¬ (n : Int) = 1 := by omega
      have HP : Hid (strOf (sgS ((n : Int)) ++ bodyL ((n : Int)) [d]) = (((⟨#[43]⟩ : ByteArray) ++ strOf (decL n)) ++ ⟨#[42]⟩) ++ ⟨#[d]⟩) := Lib.hid (by
        rw [sgS, if_neg (by omega), bodyL, Int.natAbs_natCast, if_pos (by omega), ← strOf_app, ← strOf_app, ← strOf_app, ← ByteArray.append_assoc, ← ByteArray.append_assoc]; rfl)
      clear h0 hc hlt hd
      go_enter Tryz.func123, Tryz.ntmps123
      go_wp2_with fail
      refine (l16Dec_c hn).mono ?_
      rintro e w2 ⟨rfl, b2⟩
      have S2 : Below w.heap.size w w2 := bel
      clear b2
      go_wp2
      go_ret
      exact ⟨by rw [HP.out]; rfl, bel⟩
end Go.Proofs.YtbhniobgaoncaaaGreatDoor
