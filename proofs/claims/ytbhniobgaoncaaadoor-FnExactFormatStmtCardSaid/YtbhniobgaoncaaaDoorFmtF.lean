/- The text of an affine expression, a nest, a statement, in plain Lean: two ways to write an affine expression, and that they agree. -/
import Derived.Test.YtbhniobgaoncaaaDoorStmtOk
set_option linter.all false
set_option linter.unusedSimpArgs false
set_option linter.unusedVariables false
namespace Go.Proofs.YtbhniobgaoncaaaDoor
open Go.ChangeShapes Go.WideShapes Go.ChangeAt Go.RowKit Go.Deep

/-- a number below 100 in digits -/
def decL (n : Nat) : List UInt8 := if n < 10 then [(48 + n).toUInt8] else [(48 + n / 10).toUInt8, (48 + n % 10).toUInt8]
theorem decL_ne (n : Nat) : decL n ≠ [] := by unfold decL; split <;> simp
theorem decL_len (n : Nat) : (decL n).length ≤ 2 := by unfold decL; split <;> simp
/-- a term without its sign -/
def bodyL (c : Int) (nm : List UInt8) : List UInt8 := (if 1 < c.natAbs then decL c.natAbs ++ [42] else []) ++ nm
def nameL (v : Nat) : List UInt8 := [(105 + v).toUInt8]
/-- the program's way: a sign '+' only behind something -/
def sgI (o : List UInt8) (c : Int) : List UInt8 := if c < 0 then o ++ [45] else if o = [] then o else o ++ [43]
def stI (o : List UInt8) (c : Int) (v : Nat) : List UInt8 := if c = 0 then o else sgI o c ++ bodyL c (nameL v)
def foI (cs : List Int) : Nat → List UInt8
  | 0 => []
  | v + 1 => stI (foI cs v) (gi cs v) v
def cnI (o : List UInt8) (k : Int) : List UInt8 := if k = 0 then o else sgI o k ++ decL k.natAbs
def rawI (a : Aff) : List UInt8 := cnI (foI a.coefs a.coefs.length) a.const
def affI (a : Aff) : List UInt8 := if rawI a = [] then [48] else rawI a
/-- the reference's way: every term has a sign; a first '+' falls -/
def sgS (c : Int) : List UInt8 := if c < 0 then [45] else [43]
def stS (o : List UInt8) (c : Int) (v : Nat) : List UInt8 := if c = 0 then o else o ++ (sgS c ++ bodyL c (nameL v))
def foS (cs : List Int) : Nat → List UInt8
  | 0 => []
  | v + 1 => stS (foS cs v) (gi cs v) v
def cnS (o : List UInt8) (k : Int) : List UInt8 := if k = 0 then o else o ++ (sgS k ++ decL k.natAbs)
def rawS (a : Aff) : List UInt8 := cnS (foS a.coefs a.coefs.length) a.const
def cutL : List UInt8 → List UInt8
  | [] => [48]
  | c :: t => if c = 43 then t else c :: t
def affS (a : Aff) : List UInt8 := cutL (rawS a)
/-- the two agree on the way -/
def Agr (i s : List UInt8) : Prop := (i = [] ∧ s = []) ∨ (i ≠ [] ∧ ∃ c t, s = c :: t ∧ i = if c = 43 then t else c :: t)
theorem Agr.term {i s b : List UInt8} (h : Agr i s) (c : Int) (hb : b ≠ []) : Agr (sgI i c ++ b) (s ++ (sgS c ++ b)) := by
  rcases h with ⟨rfl, rfl⟩ | ⟨hi, d, t, rfl, he⟩
  · refine .inr ⟨by simp [hb], ?_⟩
    unfold sgI sgS
    by_cases h : c < 0
    · rw [if_pos h, if_pos h]; exact ⟨45, b, rfl, by simp⟩
    · rw [if_neg h, if_neg h, if_pos rfl]; exact ⟨43, b, rfl, by simp⟩
  · refine .inr ⟨by simp [hb], d, t ++ (sgS c ++ b), by simp, ?_⟩
    have hs : sgI i c = i ++ sgS c := by
      unfold sgI sgS
      rw [if_neg hi]
      split <;> rfl
    rw [hs, he]
    split <;> simp
theorem bodyL_ne {c : Int} {v : Nat} : bodyL c (nameL v) ≠ [] := by unfold bodyL nameL; simp
theorem agr_fo (cs : List Int) : ∀ v, Agr (foI cs v) (foS cs v)
  | 0 => .inl ⟨rfl, rfl⟩
  | v + 1 => by
    rw [foI, foS]
    unfold stI stS
    split
    · exact agr_fo cs v
    · exact (agr_fo cs v).term _ bodyL_ne
theorem affI_eq (a : Aff) : affI a = affS a := by
  have h : Agr (rawI a) (rawS a) := by
    unfold rawI rawS cnI cnS
    split
    · exact agr_fo _ _
    · exact (agr_fo _ _).term _ (decL_ne _)
  unfold affI affS
  rcases h with ⟨h1, h2⟩ | ⟨h1, c, t, h2, h3⟩
  · rw [h1, h2, if_pos rfl]; rfl
  · rw [if_neg h1, h2, h3]; rfl
theorem sgI_len (o : List UInt8) (c : Int) : (sgI o c).length ≤ o.length + 1 := by unfold sgI; split <;> (try split) <;> simp
theorem stI_len (o : List UInt8) (c : Int) (v : Nat) : (stI o c v).length ≤ o.length + 5 := by
  unfold stI
  split
  · omega
  · have h1 := sgI_len o c
    have h2 := decL_len c.natAbs
    unfold bodyL nameL
    rw [List.length_append, List.length_append]
    split <;> simp <;> omega
theorem foI_len (cs : List Int) : ∀ v, (foI cs v).length ≤ 5 * v
  | 0 => by simp [foI]
  | v + 1 => by rw [foI]; have := stI_len (foI cs v) (gi cs v) v; have := foI_len cs v; omega
theorem rawI_len {a : Aff} (h : a.coefs.length ≤ 4) : (rawI a).length ≤ 23 := by
  have h1 := foI_len a.coefs a.coefs.length
  unfold rawI cnI
  split
  · omega
  · rw [List.length_append]
    have h2 := sgI_len (foI a.coefs a.coefs.length) a.const
    have h3 := decL_len a.const.natAbs
    omega
theorem affI_len {a : Aff} (h : a.coefs.length ≤ 4) : (affI a).length ≤ 23 := by
  have := rawI_len h
  unfold affI; split
  · simp
  · exact this
def strOf (l : List UInt8) : ByteArray := ⟨l.toArray⟩
theorem strOf_eq {s : ByteArray} {l : List UInt8} (h : s.data.toList = l) : s = strOf l := by
  subst h; unfold strOf; apply ByteArray.ext; simp
theorem strOf_data (l : List UInt8) : (strOf l).data.toList = l := by simp [strOf]
theorem strOf_size (l : List UInt8) : (strOf l).size = l.length := by simp [strOf, ByteArray.size]
theorem data_app (s t : ByteArray) : (s ++ t).data.toList = s.data.toList ++ t.data.toList := by simp
def FormatAffineF (a : Aff) : ByteArray := if affOk a then strOf (affI a) else ⟨#[]⟩
/-- .. of bounds, of a nest -/
def sideL : List Aff → List UInt8
  | [] => []
  | [a] => affI a
  | a :: b :: l => affI a ++ (44 :: sideL (b :: l))
def loopL (x : Lp) : List UInt8 := [102, 111, 114, 32] ++ (sideL x.lo ++ ([32] ++ (sideL x.hi ++ [10])))
def nestL (xs : List Lp) : List UInt8 := xs.flatMap loopL
def FormatNestF (xs : List Lp) : ByteArray := if NestValidF xs then strOf (nestL xs) else ⟨#[]⟩
/-- .. of an access, an expression, a statement -/
def accL (x : Acc) : List UInt8 := x.arr.data.toList ++ ([91] ++ (sideL x.subs ++ [93]))
def opL (k : Int) : List UInt8 := if k = 4 then [43] else if k = 5 then [45] else [42]
mutual
def exL : Ex → List UInt8
  | ⟨k, n, i, r, ks⟩ => if k = 1 then decL n.toNat else if k = 2 then [123] ++ (affI i ++ [125]) else if k = 3 then accL r else [40] ++ (exsL (opL k) ks ++ [41])
def exsL (o : List UInt8) : List Ex → List UInt8
  | [] => []
  | x :: xs => exL x ++ exrL o xs
def exrL (o : List UInt8) : List Ex → List UInt8
  | [] => []
  | x :: xs => o ++ (exL x ++ exrL o xs)
end
def stmL (s : Stm) : List UInt8 := accL s.write ++ ([61] ++ exL s.value)
def FormatStmtF (s : Stm) : ByteArray := if StmtValidF s 4 then strOf (stmL s) else ⟨#[]⟩
end Go.Proofs.YtbhniobgaoncaaaDoor
