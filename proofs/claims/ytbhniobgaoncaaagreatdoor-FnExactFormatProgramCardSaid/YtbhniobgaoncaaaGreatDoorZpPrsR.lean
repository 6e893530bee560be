/- A program's text in plain Lean, line by line; a run over its lines by any reader that knows the four kinds of lines. -/
import Derived.Test.YtbhniobgaoncaaaGreatDoorZpTxtF
import Derived.Test.YtbhniobgaoncaaaGreatDoorZpStmtOk
import Derived.Test.YtbhniobgaoncaaaGreatDoorZpTxtA
import Derived.Test.YtbhniobgaoncaaaGreatDoorZpPoints
import Derived.Test.YtbhniobgaoncaaaGreatDoorZpScanI
set_option linter.all false
set_option linter.unusedSimpArgs false
set_option linter.unusedVariables false
namespace Go.Proofs.YtbhniobgaoncaaaGreatDoor
open Go.ChangeShapes Go.WideShapes Go.ChangeAt Go.RowKit Go.Deep

theorem stm_tx {x : Stm} {d : Int} (h : StmtValidF x d = true) : (x.write.arr.size ≤ 1 ∧ SdOk x.write.subs) ∧ exShape x.value d 5 = true := by
  unfold StmtValidF at h
  simp only [Bool.and_eq_true] at h
  exact ⟨acc_sd h.2.1, h.2.2.1⟩
set_option maxRecDepth 100000 in
set_option maxHeartbeats 4000000 in
theorem stmtText_c {w : World} {x : Stm} {cs : List Value} {bs : List Nat} {d : Int} (h : Rep w x.d cs bs) (hv : StmtValidF x d = true) :
    Calls Tryz.prog 57 #[.agg cs.toArray] w fun e w' => e = .returned (.string (strOf (stmL x))) ∧ Below w.heap.size w w' := by
  have HB := Lib.hid (stm_tx hv); clear hv
  obtain ⟨A2, c2, A5, c5, A8, c8, A9, c9, d2, d5, d8, d9, rfl, rfl, g1, g2, g3, g4, g5, g6, g7, g8, g9⟩ := Rep.stm_iff.1 h
  have Gwrite := Lib.hid ((Rep.acc_iff (x := x.write)).2 ⟨_, _, _, rfl, rfl, g1, g2⟩)
  have Gvalue := Lib.hid ((Rep.ex_iff (x := x.value)).2 ⟨_, _, _, _, _, _, _, _, _, rfl, rfl, g3, g4, g5, g6, g7, g8, g9⟩)
  clear h g1 g2 g3 g4 g5 g6 g7 g8 g9
  have hL1 : (strOf (accL x.write)).size ≤ 99 := by rw [strOf_size]; exact accL_bd HB.out.1.1 HB.out.1.2
  have hL2 : (strOf (exL x.value)).size ≤ 1760 := by rw [strOf_size]; exact exL_le HB.out.2 (by omega)
  obtain ⟨U, hU⟩ : ∃ u, u = strOf (accL x.write) := ⟨_, rfl⟩
  obtain ⟨V, hV⟩ : ∃ u, u = strOf (exL x.value) := ⟨_, rfl⟩
  have HD := Lib.hid (show strOf (stmL x) = (U ++ (⟨#[61]⟩ : ByteArray)) ++ V by
    rw [stmL, hU, hV, ← strOf_app, ← strOf_app, ByteArray.append_assoc]; rfl)
  rw [← hU] at hL1
  rw [← hV] at hL2
  have HU := Lib.hid hU; have HVV := Lib.hid hV
  clear hU hV
  have g1 : (9223372036854775807 < U.size + 1) = False := eq_false (by omega)
  have g2 : (9223372036854775807 < U.size + 1 + V.size) = False := eq_false (by omega)
  go_enter Tryz.func57, Tryz.ntmps57
  go_wp2_with fail
  refine wp_region_noPanic ?_
  refine wp_region_held_drew (S := fun w' => Below w.heap.size w w' ∧ Box9 w' w.heap.size (.string x.write.arr) (.slice A2 x.write.subs.length c2) (.int .i64 x.value.kind) (.int .i64 x.value.num) (.slice A5 x.value.index.coefs.length c5) (.int .i64 x.value.index.const) (.string x.value.read.arr) (.slice A8 x.value.read.subs.length c8) (.slice A9 x.value.kids.length c9)) (by kernel_rfl) (⟨bel, by go_simp, by go_simp, by go_simp, by go_simp, by go_simp, by go_simp, by go_simp, by go_simp, by go_simp⟩) (fun hHeld => ?_)
  refine goR 0 hHeld ?_
  refine goR 1 hHeld ?_
  refine goR 4 hHeld ?_
  refine goR 5 hHeld ?_
  refine stepR (i := 2) rfl (by kernel_rfl) (wanted_none rfl) (fun K hK => ?_)
  go_simp
  (refine (accessText_c (Gwrite.out.below bel) HB.out.1.1 HB.out.1.2).mono ?_; rintro e w4 ⟨rfl, b4⟩; rw [← HU.out]; have S4 : Below w.heap.size w w4 := bel; have B4 : Box9 w4 w.heap.size (.string x.write.arr) (.slice A2 x.write.subs.length c2) (.int .i64 x.value.kind) (.int .i64 x.value.num) (.slice A5 x.value.index.coefs.length c5) (.int .i64 x.value.index.const) (.string x.value.read.arr) (.slice A8 x.value.read.subs.length c8) (.slice A9 x.value.kids.length c9) := by (refine ⟨?_, ?_, ?_, ?_, ?_, ?_, ?_, ?_, ?_⟩ <;> (rw [b4.cell (by simp)]; go_simp)))
  go_wp2_with fail
  refine hK.out _ _ (⟨S4, B4⟩) (fun hHeld => ?_)
  clear hK K
  try simp only [Act.put, aq0, aq1, aq2]
  refine takeR (i := 3) (v := ?_) rfl rfl (by kernel_rfl) (by kernel_rfl) (by kernel_rfl) (fun _ _ _ h => h) ?_ hHeld ?_
  rotate_left 1
  · intro w hSw; (try dsimp only at hSw); go_simp
    try simp only [g1, g2, if_false]
    try with_reducible rfl
  simp only [Act.put, aq0, aq1, aq2]
  refine stepR (i := 6) rfl (by kernel_rfl) (wanted_none rfl) (fun K hK => ?_)
  go_simp
  (refine (exprText_c (Gvalue.out.below (by first | exact S4 | exact S4.drew)) (by omega) HB.out.2).mono ?_; rintro e w5 ⟨rfl, b5⟩; rw [← HVV.out]; replace b5 : Below w4.heap.size w4 w5 := (by first | exact b5 | exact of_drew b5); have S5 : Below w.heap.size w w5 := below_tr S4 b5)
  go_wp2_with fail
  refine hK.out _ _ (⟨S5, B4.to b5⟩) (fun hHeld => ?_)
  clear hK K
  try simp only [Act.put, aq0, aq1, aq2]
  refine takeR (i := 7) (v := ?_) rfl rfl (by kernel_rfl) (by kernel_rfl) (by kernel_rfl) (fun _ _ _ h => h) ?_ hHeld ?_
  rotate_left 1
  · intro w hSw; (try dsimp only at hSw); go_simp
    try simp only [g1, g2, if_false]
    try with_reducible rfl
  simp only [Act.put, aq0, aq1, aq2]
  refine goR 8 hHeld ?_
  refine wpAnyH_done (by kernel_rfl) ?_ _
  refine NoPanic.normal ?_
  go_wp2
  go_ret
  exact ⟨by rw [HD.out]; first | rfl | (simp only [ByteArray.append_assoc]; rfl), S5⟩
end Go.Proofs.YtbhniobgaoncaaaGreatDoor
set_option linter.all false
set_option linter.unusedSimpArgs false
set_option linter.unusedVariables false
namespace Go.Proofs.YtbhniobgaoncaaaGreatDoor
open Go.ChangeShapes Go.WideShapes Go.ChangeAt Go.RowKit Go.Deep

end Go.Proofs.YtbhniobgaoncaaaGreatDoor
set_option linter.all false
set_option linter.unusedSimpArgs false
set_option linter.unusedVariables false
namespace Go.Proofs.YtbhniobgaoncaaaGreatDoor
open Go.ChangeShapes Go.WideShapes Go.ChangeAt Go.RowKit Go.Deep

end Go.Proofs.YtbhniobgaoncaaaGreatDoor
set_option linter.all false
set_option linter.unusedSimpArgs false
set_option linter.unusedVariables false
namespace Go.Proofs.YtbhniobgaoncaaaGreatDoor
open Go.ChangeShapes Go.WideShapes Go.ChangeAt Go.RowKit Go.Deep

end Go.Proofs.YtbhniobgaoncaaaGreatDoor
set_option linter.all false
set_option linter.unusedSimpArgs false
set_option linter.unusedVariables false
namespace Go.Proofs.YtbhniobgaoncaaaGreatDoor
open Go.ChangeShapes Go.WideShapes Go.ChangeAt Go.RowKit Go.Deep

end Go.Proofs.YtbhniobgaoncaaaGreatDoor
set_option linter.all false
set_option linter.unusedSimpArgs false
set_option linter.unusedVariables false
namespace Go.Proofs.YtbhniobgaoncaaaGreatDoor
open Go.ChangeShapes Go.WideShapes Go.ChangeAt Go.RowKit Go.Deep

theorem affOk_parts {a : Aff} (h : affOk a = true) : a.coefs.length = 4 ∧ (∀ v, (gi a.coefs v).natAbs < 10) ∧ a.const.natAbs < 100 := by
  unfold affOk at h
  simp only [Bool.and_eq_true, decide_eq_true_iff, Bool.not_eq_true'] at h
  obtain ⟨⟨h4, hk⟩, hb⟩ := h
  have hk2 := inB_iff.1 hk
  refine ⟨h4, fun v => ?_, by have : -99 ≤ a.const ∧ a.const ≤ 99 := hk2; omega⟩
  rcases Nat.lt_or_ge v a.coefs.length with hv | hv
  · have h1 : coefBad a.coefs[v] = false := by
      cases e : coefBad a.coefs[v] with
      | false => rfl
      | true => rw [List.any_eq_true.2 ⟨_, List.getElem_mem hv, e⟩] at hb; cases hb
    unfold coefBad at h1
    have h2 := inB_iff.1 (show inB a.coefs[v] (-9) 9 = true by simpa using h1)
    rw [gi_eq hv]; omega
  · have : gi a.coefs v = 0 := by unfold gi; rw [List.getD_eq_getElem?_getD, List.getElem?_eq_none hv]; rfl
    rw [this]; decide
theorem side_len {al : List Aff} {d : Int} (h : sideOk al d = true) : 1 ≤ al.length ∧ al.length ≤ 2 := by
  unfold sideOk at h
  simp only [Bool.and_eq_true, decide_eq_true_iff] at h
  exact h.1
def bodyN (x : Lp) : List UInt8 := [102, 111, 114] ++ 32 :: (sideL x.lo ++ 32 :: sideL x.hi)
theorem loopL_eq (x : Lp) : loopL x = bodyN x ++ [10] := by unfold loopL bodyN; simp
/-- what a valid nest's loops are -/
structure LpW (x : Lp) : Prop where
  lo : ∀ a ∈ x.lo, affOk a = true
  hi : ∀ a ∈ x.hi, affOk a = true
  lo0 : x.lo ≠ []
  hi0 : x.hi ≠ []
  lo2 : x.lo.length ≤ 2
  hi2 : x.hi.length ≤ 2
theorem lpW_of {xs : List Lp} (h : NestValidF xs = true) : xs.length ≤ 4 ∧ ∀ x ∈ xs, LpW x := by
  have h1 := nest_ok h
  refine ⟨h1.1, fun x hx => ?_⟩
  have h2 := h1.2 x hx
  simp only [NestValidF, Bool.and_eq_true, decide_eq_true_iff] at h
  obtain ⟨i, hi, rfl⟩ := List.getElem_of_mem hx
  obtain ⟨k1, k2⟩ := nestFrom_at xs 0 h.2 i hi
  exact ⟨h2.1.2, h2.2.2, List.ne_nil_of_length_pos h2.1.1, List.ne_nil_of_length_pos h2.2.1, (side_len k1).2, (side_len k2).2⟩
end Go.Proofs.YtbhniobgaoncaaaGreatDoor
set_option linter.all false
set_option linter.unusedSimpArgs false
set_option linter.unusedVariables false
namespace Go.Proofs.YtbhniobgaoncaaaGreatDoor
open Go.ChangeShapes Go.WideShapes Go.ChangeAt Go.RowKit Go.Deep

def affN : Aff := ⟨[], 0⟩
theorem noAffN {a : Aff} (h : noAff a = true) : a = affN := by
  simp only [noAff, Bool.and_eq_true, decide_eq_true_iff] at h
  obtain ⟨c, k⟩ := a
  simp only at h
  rw [List.length_eq_zero_iff.1 h.1, h.2]; rfl
theorem arrOk_byte {s : ByteArray} (h : arrOk s = true) : ∃ c : UInt8, s = strOf [c] ∧ 65 ≤ c ∧ c ≤ 68 := by
  unfold arrOk at h
  rcases hx : s.data.toList with _ | ⟨c, _ | ⟨d, l⟩⟩
  · rw [hx] at h; cases h
  · rw [hx] at h
    simp only [arrL, Bool.and_eq_true, decide_eq_true_iff] at h
    exact ⟨c, strOf_eq hx, UInt8.le_iff_toNat_le.2 h.1, UInt8.le_iff_toNat_le.2 h.2⟩
  · rw [hx] at h; cases h
end Go.Proofs.YtbhniobgaoncaaaGreatDoor
set_option linter.all false
set_option linter.unusedSimpArgs false
set_option linter.unusedVariables false
namespace Go.Proofs.YtbhniobgaoncaaaGreatDoor
open Go.ChangeShapes Go.WideShapes Go.ChangeAt Go.RowKit Go.Deep

end Go.Proofs.YtbhniobgaoncaaaGreatDoor
set_option linter.all false
set_option linter.unusedSimpArgs false
set_option linter.unusedVariables false
namespace Go.Proofs.YtbhniobgaoncaaaGreatDoor
open Go.ChangeShapes Go.WideShapes Go.ChangeAt Go.RowKit Go.Deep

/-- validity at a depth, and at a greater one -/
theorem sideOk_mono {al : List Aff} {d e : Int} (hde : d ≤ e) (h : sideOk al d = true) : sideOk al e = true := by
  simp only [sideOk, Bool.and_eq_true, Bool.not_eq_true', List.any_eq_false] at h ⊢
  refine ⟨h.1, fun a ha => ?_⟩
  have := h.2 a ha
  simp only [affBad, Bool.or_eq_true, Bool.not_eq_true', decide_eq_true_iff, not_or, Bool.not_eq_false] at this ⊢
  exact ⟨this.1, by omega⟩
theorem accOk_mono {x : Acc} {d e : Int} (hde : d ≤ e) (h : accOk x d = true) : accOk x e = true := by
  simp only [accOk, Bool.and_eq_true] at h ⊢
  exact ⟨h.1, sideOk_mono hde h.2⟩
theorem exShape_mono {d e : Int} (hde : d ≤ e) (x : Ex) : ∀ (L : Nat), exShape x d L = true → exShape x e L = true :=
  Ex.ind (P := fun x => ∀ (L : Nat), exShape x d L = true → exShape x e L = true) (fun x hx L h => by
    rw [exShape_eq] at h ⊢
    simp only [Bool.and_eq_true, decide_eq_true_iff, List.all_eq_true] at h ⊢
    refine ⟨h.1, h.2.1, ?_, fun y hy => hx y hy _ (h.2.2.2 y hy)⟩
    have ho := h.2.2.1
    unfold ownF at ho ⊢
    split
    · rename_i hk
      rw [if_pos hk] at ho
      simp only [Bool.and_eq_true, decide_eq_true_iff] at ho ⊢
      exact ⟨ho.1, ho.2.1, ho.2.2.1, by omega⟩
    · rename_i hk
      rw [if_neg hk] at ho
      split
      · rename_i hk3
        rw [if_pos hk3] at ho
        simp only [Bool.and_eq_true, decide_eq_true_iff] at ho ⊢
        exact ⟨ho.1, ho.2.1, accOk_mono hde ho.2.2⟩
      · rename_i hk3
        rwa [if_neg hk3] at ho) x
theorem stmt_mono {s : Stm} {d : Int} (hd : d ≤ 4) (h : StmtValidF s d = true) : StmtValidF s 4 = true := by
  simp only [StmtValidF, Bool.and_eq_true] at h ⊢
  exact ⟨by decide, accOk_mono hd h.2.1, exShape_mono hd _ _ h.2.2.1, h.2.2.2⟩
/-- a program's lines -/
def prgB : List UInt8 := [112, 114, 111, 103, 114, 97, 109]
def arrB : List UInt8 := [97, 114, 114, 97, 121]
def prtB : List UInt8 := [112, 97, 114, 116]
def arB (a : Ar) : List UInt8 := arrB ++ 32 :: (a.name.data.toList ++ a.dims.flatMap fun d => 32 :: decL d.toNat)
def prLn (x : Prt) : List (List UInt8) := prtB :: (x.nest.map bodyN ++ x.body.map stmL)
def linesP (p : Pgm) : List (List UInt8) := p.arrays.map arB ++ p.parts.flatMap prLn
def endL (ls : List (List UInt8)) : List UInt8 := ls.flatMap fun l => l ++ [10]
def progL (p : Pgm) : List UInt8 := endL (prgB :: linesP p)
def FormatProgramF (p : Pgm) : ByteArray := if progOk p = true then strOf (progL p) else ⟨#[]⟩
/-- what a valid array is -/
structure ArW (a : Ar) : Prop where
  name : ∃ c : UInt8, a.name = strOf [c] ∧ 65 ≤ c ∧ c ≤ 68
  dim : ∀ d ∈ a.dims, 1 ≤ d ∧ d ≤ 6
  d2 : a.dims.length ≤ 2
structure PrW (x : Prt) : Prop where
  nest : ∀ l ∈ x.nest, LpW l
  n4 : x.nest.length ≤ 4
  body : ∀ s ∈ x.body, StmtValidF s 4 = true
  b4 : x.body.length ≤ 4
structure PgW (p : Pgm) : Prop where
  ar : ∀ a ∈ p.arrays, ArW a
  a4 : p.arrays.length ≤ 4
  pr : ∀ x ∈ p.parts, PrW x
  p4 : p.parts.length ≤ 4
theorem gi_mem {l : List Int} {d : Int} (h : d ∈ l) : ∃ j, j < l.length ∧ gi l j = d := by
  obtain ⟨j, hj, rfl⟩ := List.getElem_of_mem h
  exact ⟨j, hj, gi_eq hj⟩
theorem pgW_of {p : Pgm} (h : progOk p = true) : PgW p := by
  have hp : ∀ x ∈ p.parts, partOk p.arrays x = true := by
    simp only [progOk, progBase, Bool.and_eq_true, decide_eq_true_iff, List.all_eq_true] at h
    exact h.2.1
  simp only [progOk, progBase, Bool.and_eq_true, decide_eq_true_iff, List.all_eq_true] at h
  obtain ⟨⟨ha, h4⟩, _⟩ := h
  obtain ⟨a4, ad⟩ := arrsOk_at ha
  refine ⟨fun a hm => ?_, a4, fun x hx => ?_, h4⟩
  · obtain ⟨j, hj, rfl⟩ := List.getElem_of_mem hm
    have hall : arrAt p.arrays j = true := by
      simp only [arrsOk, Bool.and_eq_true] at ha
      exact allN_at _ _ ha.1 j (Nat.zero_le _) (by omega)
    simp only [arrAt, Bool.and_eq_true] at hall
    rw [nthA_eq hj] at hall
    obtain ⟨n1, n2⟩ := dims_bd hall.2.2
    refine ⟨arrOk_byte hall.1, fun d hd => ?_, n1.2⟩
    obtain ⟨i, hi, rfl⟩ := gi_mem hd
    exact n2 i hi
  · have h1 := hp x hx
    simp only [partOk, bodyOk, Bool.and_eq_true, List.all_eq_true] at h1
    obtain ⟨hn, ⟨hb, hs⟩, _⟩ := h1
    have hv := (npF_ok hn).1
    obtain ⟨n4, hw⟩ := lpW_of hv
    have := inB_iff.1 hb
    exact ⟨hw, n4, fun s hm => stmt_mono (d := (x.nest.length : Int)) (by omega) (hs s hm), by omega⟩
end Go.Proofs.YtbhniobgaoncaaaGreatDoor
