/- A transformation's beginning: begun with no loop asked for. -/
import Derived.Test.YtgogjbnneoadkaaGreatZtOwnG
import Derived.Test.YtgogjbnneoadkaaGreatZtTotal
import Derived.Test.YtgogjbnneoadkaaGreatZtActs
import Derived.Test.YtgogjbnneoadkaaGreatZtRectNest
import Derived.Test.YtgogjbnneoadkaaGreatZtCore
import Derived.Test.YtgogjbnneoadkaaGreatZtPointIn
import Derived.Test.YtgogjbnneoadkaaGreatZtBoxNest
set_option linter.all false
set_option maxHeartbeats 4000000
set_option maxRecDepth 100000
namespace Go.Proofs.YtgogjbnneoadkaaGreat
open Go.ChangeShapes Go.WideShapes Go.ChangeAt Go.RowKit Go.Deep
theorem LpSm.of {x : Lp} {i : Nat} (h1 : sideOk x.lo i = true) (h2 : sideOk x.hi i = true) : LpSm x := by
 obtain ⟨_, a2, a3⟩ := sideOk_iff h1
 obtain ⟨_, b2, b3⟩ := sideOk_iff h2
 refine ⟨by omega, by omega, fun a ha => ?_, fun a ha => ?_⟩
 ·have := (affOk_iff.1 (a3 a ha).1).1; omega
 ·have := (affOk_iff.1 (b3 a ha).1).1; omega
theorem nest_sm {xs : List Lp} (h : (NestPointsF xs).2 = true) : xs.length ≤ 4 ∧ ∀ x ∈ xs, LpSm x := by
 have hv : NestValidF xs = true := by
  cases hv : NestValidF xs with
  | true => rfl
  | false => simp [NestPointsF, hv] at h
 simp only [NestValidF, Bool.and_eq_true, decide_eq_true_iff] at hv
 refine ⟨hv.1, fun x hx => ?_⟩
 obtain ⟨j, hj, rfl⟩ := List.getElem_of_mem hx
 obtain ⟨h1, h2⟩ := nestFrom_at xs 0 hv.2 j hj
 exact LpSm.of h1 h2
theorem part_sm {xs : List Ar} {x : Prt} (h : partOk xs x = true) : PrtSm x := by
 simp only [partOk, bodyOk, Bool.and_eq_true, List.all_eq_true] at h
 obtain ⟨h1, ⟨h2, h3⟩, _⟩ := h
 obtain ⟨n1, n2⟩ := nest_sm h1
 have := (inB_iff.1 h2).2
 exact ⟨by omega, n2, by omega, fun s hs => ⟨_, h3 s hs⟩⟩
theorem pgm_sm {p : Pgm} (h : progOk p = true) : PgmSm p := by
 have hp := progOk_part h
 simp only [progOk, progBase, Bool.and_eq_true, decide_eq_true_iff] at h
 obtain ⟨⟨h1, h2⟩, _⟩ := h
 obtain ⟨a1, a2⟩ := arrsOk_at h1
 refine ⟨by omega, fun a ha => ?_, by omega, fun x hx => part_sm (hp x hx)⟩
 obtain ⟨j, hj, rfl⟩ := List.getElem_of_mem ha
 have := a2 j hj
 rw [nthA_eq hj, dimsOk, Bool.and_eq_true] at this
 have := (inB_iff.1 this.1).2
 omega
def finF (q : Pgm) : Pgm × Bool := if progOk q then (q, true) else (⟨[], []⟩, false)
def MadePgmB (w : World) (r : Pgm × Bool) (e : Ending) (w' : World) : Prop := ∃ (A1 : Option Addr) (c1 : Nat) (A2 : Option Addr) (c2 : Nat) (bs : List Nat), e = .returned (.tuple #[.agg #[.slice A1 r.1.arrays.length c1, .slice A2 r.1.parts.length c2], .bool r.2]) ∧ Rep w' r.1.d [.slice A1 r.1.arrays.length c1, .slice A2 r.1.parts.length c2] bs ∧ bs.Nodup ∧ (∀ b ∈ bs, w.heap.size ≤ b) ∧ Below w.heap.size w w'
theorem Rep.pgm_nil (w : World) : Rep w (⟨[], []⟩ : Pgm).d [.slice none 0 0, .slice none 0 0] [] := Rep.pgm_iff.2 ⟨_, _, _, _, [], [], rfl, rfl, Rep.sls_nil (Nat.zero_le _), Rep.sls_nil (Nat.zero_le _)⟩
theorem MadePgmB.nil {w w' : World} (hb : Below w.heap.size w w') : MadePgmB w (⟨[], []⟩, false) (.returned (.tuple #[.agg #[.slice none 0 0, .slice none 0 0], .bool false])) w' := ⟨none, 0, none, 0, [], rfl, Rep.pgm_nil _, by simp, by simp, hb⟩
theorem finished_c {w : World} {q : Pgm} {cs : List Value} {bs : List Nat} (h : Rep w q.d cs bs) : Calls Tryz.prog 41 #[.agg cs.toArray] w (MadePgmB w (finF q)) := by
 have HH := Lib.hid h
 obtain ⟨A1, c1, A2, c2, d1, d2, rfl, rfl, g1, g2⟩ := Rep.pgm_iff.1 h
 clear g1 g2 h
 cases hv : progOk q with
 | false =>
  have HF := Lib.hid (show finF q = (⟨[], []⟩, false) by simp [finF, hv])
  have HV := Lib.hid hv; clear hv
  rw [HF.out]
  go_enter Tryz.func41, Tryz.ntmps41
  go_wp2_with fail
  refine (implProgramValid_c (HH.out.below bel)).mono ?_
  rintro e w1 ⟨rfl, b1⟩
  rw [HV.out]
  have X1 : BoxW w1 (w.heap.size + 1) (.slice none 0 0) (.slice none 0 0) := BoxW.to ⟨⟨by go_simp, by go_simp⟩, by go_simp, by go_simp⟩ b1
  have S1 : Below w.heap.size w w1 := bel
  clear b1
  obtain ⟨⟨m1, m2⟩, m3, m4⟩ := X1
  have lt1 := lt_of_cell m1
  go_wp2
  exact bodyPost_ret (v := .tuple #[.agg #[.slice none 0 0, .slice none 0 0], .bool false]) (by simp [results, Tryz.results41, go_sem, m1, m2]) rfl (MadePgmB.nil ((S1.setCell (by simp) _).setCell (by simp) _))
 | true =>
  have HF := Lib.hid (show finF q = (q, true) by simp [finF, hv])
  have HS := Lib.hid (pgm_sm hv)
  have HV := Lib.hid hv; clear hv
  rw [HF.out]
  go_enter Tryz.func41, Tryz.ntmps41
  go_wp2_with fail
  refine (implProgramValid_c (HH.out.below bel)).mono ?_
  rintro e w1 ⟨rfl, b1⟩
  rw [HV.out]
  have X0 : BoxW w1 w.heap.size (.slice A1 q.arrays.length c1) (.slice A2 q.parts.length c2) := BoxW.to ⟨⟨by go_simp, by go_simp⟩, by go_simp, by go_simp⟩ b1
  have X1 : BoxW w1 (w.heap.size + 1) (.slice none 0 0) (.slice none 0 0) := BoxW.to ⟨⟨by go_simp, by go_simp⟩, by go_simp, by go_simp⟩ b1
  have S1 : Below w.heap.size w w1 := bel
  clear b1
  have HX1 := Lib.hid X1; clear X1
  obtain ⟨⟨p1, p2⟩, _, _⟩ := X0
  have lt0 := lt_of_cell p1
  go_wp2_with fail
  refine (own_c (HH.out.below S1) HS.out).mono ?_
  rintro e w2 ⟨cs2, bs2, rfl, r2, nd2, hb2, b2⟩
  obtain ⟨A1r, c1r, A2r, c2r, d1r, d2r, hcs2, _⟩ := Rep.pgm_iff.1 r2
  subst hcs2
  obtain ⟨⟨m1, m2⟩, m3, m4⟩ := HX1.out.to b2
  have z1 : w.heap.size + 2 ≤ w1.heap.size := lt_of_cell HX1.out.1.1
  have lt1 := lt_of_cell m1
  have S2 : Below w.heap.size w w2 := below_tr S1 b2
  have hge : ∀ y ∈ bs2, w.heap.size + 2 ≤ y := fun y hy => by have := hb2 y hy; omega
  have hnb : w.heap.size + 1 ∉ bs2 := fun hm => by have := hge _ hm; omega
  have R2 := Lib.hid r2
  clear r2 hb2 b2
  go_wp2
  exact bodyPost_ret (v := .tuple #[.agg #[.slice A1r q.arrays.length c1r, .slice A2r q.parts.length c2r], .bool true]) (by simp [results, Tryz.results41, go_sem, m1, m2]) rfl ⟨_, _, _, _, bs2, rfl, Rep.keep _ R2.out (((Keeps.refl _ _).setCell hnb _).setCell hnb _), nd2, fun y hy => by have := hge y hy; omega, (S2.setCell (by simp) _).setCell (by simp) _⟩
end Go.Proofs.YtgogjbnneoadkaaGreat
namespace Go.Proofs.YtgogjbnneoadkaaGreat
end Go.Proofs.YtgogjbnneoadkaaGreat
namespace Go.Proofs.YtgogjbnneoadkaaGreat
open Go.ChangeShapes Go.WideShapes Go.ChangeAt Go.RowKit Go.Deep
end Go.Proofs.YtgogjbnneoadkaaGreat
namespace Go.Proofs.YtgogjbnneoadkaaGreat
def loopThere (p : Pgm) (part loop : Int) : Prop := (0 ≤ part ∧ part < (p.parts.length : Int)) ∧ 0 ≤ loop ∧ loop < ((p.parts.getD part.toNat ⟨[], []⟩).nest.length : Int)
instance (p : Pgm) (part loop : Int) : Decidable (loopThere p part loop) := by unfold loopThere; infer_instance
end Go.Proofs.YtgogjbnneoadkaaGreat
namespace Go.Proofs.YtgogjbnneoadkaaGreat
open Go.ChangeShapes Go.WideShapes Go.ChangeAt Go.RowKit Go.Deep
theorem depTo_zero {xs : List Int} : ∀ j, j ≤ xs.length → depTo xs j = 0 → ∀ i, i < j → xs.getD i 0 = 0
 | 0, _, _, i, hi => by omega
 | j + 1, hj, h, i, hi => by
  unfold depTo at h
  split at h
  ·rename_i h0
   rcases Nat.lt_succ_iff_lt_or_eq.1 hi with h1 | rfl
   ·exact depTo_zero j (by omega) h i h1
   ·first | exact h0 | simpa [List.getD_eq_getElem?_getD] using h0 | (simp at h0; exact h0)
  ·omega
theorem flat_const {a : Aff} (h : affOk a = true) (hd : deepB a = false) : a = affConst a.const := by
 obtain ⟨cs, k⟩ := a
 have hl := (affOk_iff.1 h).1
 have h0 : depF cs = 0 := by simp only [deepB, decide_eq_false_iff_not] at hd; omega
 obtain ⟨c0, c1, c2, c3, rfl⟩ : ∃ c0 c1 c2 c3, cs = [c0, c1, c2, c3] := by
  match cs, hl with
  | [c0, c1, c2, c3], _ => exact ⟨c0, c1, c2, c3, rfl⟩
 have hz := depTo_zero (xs := [c0, c1, c2, c3]) 4 (by simp) h0
 have e0 := hz 0 (by omega); have e1 := hz 1 (by omega); have e2 := hz 2 (by omega); have e3 := hz 3 (by omega)
 simp at e0 e1 e2 e3
 subst e0 e1 e2 e3
 rfl
theorem fix_eq {x : Lp} {i j : Nat} (h1 : sideOk x.lo i = true) (h2 : sideOk x.hi j = true) (h : (fixF x).2.2 = true) : x = ⟨[affConst (fixF x).1], [affConst (fixF x).2.1]⟩ := by
 unfold fixF at h ⊢
 split at h
 case isFalse => cases h
 case isTrue hc =>
  obtain ⟨hl, hh, hf⟩ := hc
  rw [if_pos ⟨hl, hh, hf⟩]
  obtain ⟨lo, hi⟩ := x
  obtain ⟨a, rfl⟩ := List.length_eq_one_iff.1 hl
  obtain ⟨b, rfl⟩ := List.length_eq_one_iff.1 hh
  have ha := ((sideOk_iff h1).2.2 a (by simp)).1
  have hb := ((sideOk_iff h2).2.2 b (by simp)).1
  simp [flatF] at hf
  have e1 := flat_const ha hf.1
  have e2 := flat_const hb hf.2
  show (⟨[a], [b]⟩ : Lp) = ⟨[affConst a.const], [affConst b.const]⟩
  rw [← e1, ← e2]
def splitQ (p : Pgm) (k : Nat) (lo at_ hi : Int) : Pgm :=
 ⟨p.arrays, p.parts.take k ++ ⟨⟨[affConst lo], [affConst at_]⟩ :: (prtF p k).nest.tail, (prtF p k).body⟩ :: ⟨⟨[affConst at_], [affConst hi]⟩ :: (prtF p k).nest.tail, (prtF p k).body⟩ :: p.parts.drop (k + 1)⟩
def nthP (xs : List Lp) (j : Nat) : Lp := xs.getD j ⟨[], []⟩
def SplitLoopF (p : Pgm) (part at_ : Int) : Pgm × Bool :=
 if progOk p = true ∧ loopThere p part 0 then
  (if (fixF (nthP (prtF p part).nest 0)).2.2 = true ∧ (fixF (nthP (prtF p part).nest 0)).1 ≤ at_ ∧ at_ ≤ (fixF (nthP (prtF p part).nest 0)).2.1 then
   finF (splitQ p part.toNat (fixF (nthP (prtF p part).nest 0)).1 at_ (fixF (nthP (prtF p part).nest 0)).2.1) else (⟨[], []⟩, false))
 else (⟨[], []⟩, false)
theorem split_n1 {p : Pgm} {part at_ : Int} (h : ¬ (progOk p = true ∧ loopThere p part 0)) : SplitLoopF p part at_ = (⟨[], []⟩, false) := if_neg h
theorem outer_eq {p : Pgm} {k : Nat} (h : progOk p = true) (hk : k < p.parts.length) (hn : 0 < p.parts[k].nest.length) (hf : (fixF p.parts[k].nest[0]).2.2 = true) : p.parts[k].nest[0] = ⟨[affConst (fixF p.parts[k].nest[0]).1], [affConst (fixF p.parts[k].nest[0]).2.1]⟩ := by
 have h1 := progOk_part h _ (List.getElem_mem hk)
 simp only [partOk, Bool.and_eq_true] at h1
 have hv : NestValidF p.parts[k].nest = true := by
  cases hv : NestValidF p.parts[k].nest with
  | true => rfl
  | false => have := h1.1; simp [NestPointsF, hv] at this
 simp only [NestValidF, Bool.and_eq_true] at hv
 obtain ⟨s1, s2⟩ := nestFrom_at _ 0 hv.2 0 hn
 exact fix_eq s1 s2 hf
theorem split_bd {p : Pgm} {k : Nat} {lo hi : Int} (h : progOk p = true) (hk : k < p.parts.length) (hn : 0 < p.parts[k].nest.length) (hf : fixF p.parts[k].nest[0] = (lo, hi, true)) : (-99 ≤ lo ∧ lo ≤ 99) ∧ -99 ≤ hi ∧ hi ≤ 99 := by
 have h1 := progOk_part h _ (List.getElem_mem hk)
 simp only [partOk, Bool.and_eq_true] at h1
 have hv : NestValidF p.parts[k].nest = true := by
  cases hv : NestValidF p.parts[k].nest with
  | true => rfl
  | false => have := h1.1; simp [NestPointsF, hv] at this
 simp only [NestValidF, Bool.and_eq_true] at hv
 obtain ⟨s1, s2⟩ := nestFrom_at _ 0 hv.2 0 hn
 have e := fix_eq s1 s2 (by rw [hf])
 rw [hf] at e
 rw [e] at s1 s2
 have a1 := (affOk_iff.1 ((sideOk_iff s1).2.2 (affConst lo) (by simp)).1).2.1
 have a2 := (affOk_iff.1 ((sideOk_iff s2).2.2 (affConst hi) (by simp)).1).2.1
 simp only [affConst] at a1 a2
 exact ⟨by omega, by omega⟩
def All3 {α β γ : Type} (R : α → β → γ → Prop) : List α → List β → List γ → Prop
 | [], [], [] => True
 | a :: us, b :: bs, c :: cs => R a b c ∧ All3 R us bs cs
 | _, _, _ => False
abbrev Lies (α : Type) := World → Value → α → List Nat → Prop
def LI (B : Nat) (e : TypeId) : Lies (List Int) := fun w v xs bs => w.ownsRow B e 1 v xs.length (xs.map (Value.int .i64 ·)) ∧ (∀ x ∈ xs, I64 x) ∧ bs = ownL v
def LL {α : Type} (B : Nat) (e : TypeId) (T : Lies α) : Lies (List α) := fun w v xs bs => ∃ vs bss, w.ownsRow B e 1 v xs.length vs ∧ All3 (T w) vs xs bss ∧ bs = ownL v ++ bss.flatten
abbrev T1 (B : Nat) : Lies (List (List Int)) := LL B 39 (LI B 3)
abbrev T2 (B : Nat) : Lies (List (List (List Int))) := LL B 91 (T1 B)
theorem isPart_c {w : World} {p : Pgm} {cs : List Value} {bs : List Nat} {k : Int} (h : Rep w p.d cs bs) :
  Calls Tryz.prog 80 #[.agg cs.toArray, .int .i64 k] w fun e w' => e = .returned (.bool (inB k 0 ((p.parts.length : Int) - 1))) ∧ Below w.heap.size w w' := by
 obtain ⟨A1, c1, A2, c2, d1, d2, rfl, rfl, g1, g2⟩ := Rep.pgm_iff.1 h
 have Garrays := Lib.hid g1
 have Gparts := Lib.hid g2
 clear h g1 g2
 have hn : p.parts.length ≤ 9223372036854775807 := Nat.le_trans Gparts.out.sls_len.2.1 Gparts.out.sls_len.2.2
 go_enter Tryz.func80, Tryz.ntmps80
 go_wp2_with fail
 refine (within_c _ _ _ _).mono ?_
 rintro e w' ⟨rfl, rfl⟩
 go_wp2
 go_ret
 exact ⟨rfl, bel⟩
def Begun (w : World) (p : Pgm) (k : Nat) (e : Ending) (w' : World) : Prop := ∃ (A1 : Option Addr) (c1 g c2 : Nat) (d1 : List Nat) (B : Nat), e = .returned (.tuple #[.agg #[.slice A1 p.arrays.length c1, .slice (some ⟨g, 0, none⟩) p.parts.length c2], .pointer (some ⟨g, k * 2, none⟩), .bool true]) ∧ Rep w' (sls Ar.d p.arrays) [.slice A1 p.arrays.length c1] d1 ∧ (∀ y ∈ d1, w.heap.size ≤ y ∧ y < B) ∧ EGrow PrtO w' B 54 2 (.slice (some ⟨g, 0, none⟩) p.parts.length c2) p.parts ∧ w.heap.size ≤ B ∧ Below w.heap.size w w'
theorem begun_n {w : World} {p : Pgm} {k : Int} {cs : List Value} {bs : List Nat} (h : Rep w p.d cs bs) (hk : (progOk p && inB k 0 ((p.parts.length : Int) - 1)) = false) :
  Calls Tryz.prog 36 #[.agg cs.toArray, .int .i64 k, .int .i64 (-1)] w fun e w' => e = .returned (.tuple #[.agg #[.slice none 0 0, .slice none 0 0], .pointer none, .bool false]) ∧ Below w.heap.size w w' := by
 have HH := Lib.hid h
 obtain ⟨A1, c1, A2, c2, d1, d2, rfl, rfl, g1, g2⟩ := Rep.pgm_iff.1 h
 clear g1 g2 h
 cases hv : progOk p with
 | false =>
  have HV := Lib.hid hv; clear hv hk
  go_enter Tryz.func36, Tryz.ntmps36
  go_wp2_with fail
  refine (implProgramValid_c (HH.out.below bel)).mono ?_
  rintro e w1 ⟨rfl, b1⟩
  rw [HV.out]
  have X1 : BoxW w1 (w.heap.size + 1) (.slice none 0 0) (.slice none 0 0) := BoxW.to ⟨⟨by go_simp, by go_simp⟩, by go_simp, by go_simp⟩ b1
  have S1 : Below w.heap.size w w1 := bel
  clear b1
  obtain ⟨⟨m1, m2⟩, m3, m4⟩ := X1
  have lt1 := lt_of_cell m1
  go_wp2
  exact bodyPost_ret (v := .tuple #[.agg #[.slice none 0 0, .slice none 0 0], .pointer none, .bool false]) (by simp [results, Tryz.results36, go_sem, m1, m2]) rfl ⟨rfl, (S1.setCell (by simp) _).setCell (by simp) _⟩
 | true =>
  rw [hv, Bool.true_and] at hk
  have HV := Lib.hid hv; have HK := Lib.hid hk; clear hv hk
  go_enter Tryz.func36, Tryz.ntmps36
  go_wp2_with fail
  refine (implProgramValid_c (HH.out.below bel)).mono ?_
  rintro e w1 ⟨rfl, b1⟩
  rw [HV.out]
  have X0 : BoxW w1 w.heap.size (.slice A1 p.arrays.length c1) (.slice A2 p.parts.length c2) := BoxW.to ⟨⟨by go_simp, by go_simp⟩, by go_simp, by go_simp⟩ b1
  have X1 : BoxW w1 (w.heap.size + 1) (.slice none 0 0) (.slice none 0 0) := BoxW.to ⟨⟨by go_simp, by go_simp⟩, by go_simp, by go_simp⟩ b1
  have S1 : Below w.heap.size w w1 := bel
  clear b1
  have HX1 := Lib.hid X1; clear X1
  obtain ⟨⟨p1, p2⟩, _, _⟩ := X0
  have lt0 := lt_of_cell p1
  go_wp2_with fail
  refine (isPart_c (HH.out.below S1)).mono ?_
  rintro e w2 ⟨rfl, b2⟩
  rw [HK.out]
  have S2 : Below w.heap.size w w2 := below_tr S1 b2
  obtain ⟨⟨m1, m2⟩, m3, m4⟩ := HX1.out.to b2
  have lt1 := lt_of_cell m1
  clear b2
  go_wp2
  exact bodyPost_ret (v := .tuple #[.agg #[.slice none 0 0, .slice none 0 0], .pointer none, .bool false]) (by simp [results, Tryz.results36, go_sem, m1, m2]) rfl ⟨rfl, (S2.setCell (by simp) _).setCell (by simp) _⟩
theorem begun_y {w : World} {p : Pgm} {k : Nat} {cs : List Value} {bs : List Nat} (h : Rep w p.d cs bs) (hv : progOk p = true) (hk : k < p.parts.length) :
  Calls Tryz.prog 36 #[.agg cs.toArray, .int .i64 (k : Int), .int .i64 (-1)] w (Begun w p k) := by
 have HH := Lib.hid h
 obtain ⟨A1, c1, A2, c2, d1, d2, rfl, rfl, g1, g2⟩ := Rep.pgm_iff.1 h
 clear g1 g2 h
 have HK := Lib.hid (show inB (k : Int) 0 ((p.parts.length : Int) - 1) = true from inB_true (by omega) (by omega))
 have HS := Lib.hid (pgm_sm hv)
 have hpn : p.parts.length ≤ 1000000 := HS.out.2.2.1
 have HV := Lib.hid hv; clear hv
 go_enter Tryz.func36, Tryz.ntmps36
 go_wp2_with fail
 refine (implProgramValid_c (HH.out.below bel)).mono ?_
 rintro e w1 ⟨rfl, b1⟩
 rw [HV.out]
 have X0 : BoxW w1 w.heap.size (.slice A1 p.arrays.length c1) (.slice A2 p.parts.length c2) := BoxW.to ⟨⟨by go_simp, by go_simp⟩, by go_simp, by go_simp⟩ b1
 have X1 : BoxW w1 (w.heap.size + 1) (.slice none 0 0) (.slice none 0 0) := BoxW.to ⟨⟨by go_simp, by go_simp⟩, by go_simp, by go_simp⟩ b1
 have S1 : Below w.heap.size w w1 := bel
 clear b1
 have HX1 := Lib.hid X1; clear X1
 have HX0 := Lib.hid X0
 obtain ⟨⟨p1, p2⟩, _, _⟩ := X0
 have lt0 := lt_of_cell p1
 go_wp2_with fail
 refine (isPart_c (HH.out.below S1)).mono ?_
 rintro e w2 ⟨rfl, b2⟩
 rw [HK.out]
 have S2 : Below w.heap.size w w2 := below_tr S1 b2
 have HY1 := Lib.hid (HX1.out.to b2); clear HX1
 clear p1 p2 lt0
 obtain ⟨⟨p1, p2⟩, _, _⟩ := HX0.out.to b2
 have lt0 := lt_of_cell p1
 clear b2 HX0
 go_wp2_with fail
 refine (own_g (HH.out.below S2) HS.out).mono ?_
 rintro e w3 ⟨A1r, c1r, d1, vv, BB, rfl, r3, nd3, hd3, hG3, hBB, b3⟩
 obtain ⟨bb, c2r, rfl⟩ : ∃ bb c2r, vv = .slice (some ⟨bb, 0, none⟩) p.parts.length c2r := by
  obtain ⟨es, cb, h1, _⟩ := hG3
  rcases h1.2 with ⟨_, h0⟩ | ⟨g, cap, cur, h0, _⟩
  ·omega
  ·exact ⟨g, cap, h0⟩
 obtain ⟨⟨m1, m2⟩, m3, m4⟩ := HY1.out.to b3
 have z1 : w.heap.size + 2 ≤ w2.heap.size := lt_of_cell HY1.out.1.1
 have lt1 := lt_of_cell m1
 have S3 : Below w.heap.size w w3 := below_tr S2 b3
 have hnb : w.heap.size + 1 ∉ d1 := fun hm => by have := (hd3 _ hm).1; omega
 have HY3 := Lib.hid (HY1.out.to b3)
 clear m1 m2 m3 m4
 have R3 := Lib.hid r3
 obtain ⟨w4, hw4⟩ : ∃ w4, w4 = w3.alloc (.cells #[.slice A1r p.arrays.length c1r, .slice (some ⟨bb, 0, none⟩) p.parts.length c2r] 30) := ⟨_, rfl⟩
 have b4 : Below w3.heap.size w3 w4 := by rw [hw4]; exact (Below.refl _ _).alloc (Nat.le_refl _) _
 have Q3 : Box2 w4 w3.heap.size (.slice A1r p.arrays.length c1r) (.slice (some ⟨bb, 0, none⟩) p.parts.length c2r) := by rw [hw4]; exact Box2.new w3 _ _ _
 have Q1 := HY3.out.to b4
 have R4 := Lib.hid (R3.out.below b4)
 have G4 := Lib.hid (hG3.below PrtO.ek b4)
 have HB := Lib.hid (And.intro hd3 hBB)
 have S4 : Below w.heap.size w w4 := below_tr S3 b4
 clear hG3 hd3 hBB nd3
 clear r3 b3 R3 HY3 b4
 go_wp2_with fail
 rw [← hw4]
 clear hw4
 obtain ⟨⟨m1, m2⟩, m3, m4⟩ := Q1
 have lt1 := lt_of_cell m1
 obtain ⟨g, hg⟩ : ∃ g, g = w3.heap.size := ⟨_, rfl⟩
 have hne : w.heap.size + 1 ≠ g := by have := lt_of_cell HY1.out.1.1; have := S3.size; omega
 have hne2 : ¬ g = w.heap.size + 1 := fun h => hne h.symm
 rw [← hg] at Q3 ⊢
 clear hg
 refine wp_region_noPanic ?_
 refine wp_region_held_drew (S := fun w' => Box2 w' g (.slice A1r p.arrays.length c1r) (.slice (some ⟨bb, 0, none⟩) p.parts.length c2r)) (by kernel_rfl) (Q3) (fun hHeld => ?_)
 refine goR 0 hHeld ?_
 refine goR 1 hHeld ?_
 refine goR 2 hHeld ?_
 refine goR 3 hHeld ?_
 refine goR 4 hHeld ?_
 refine stepR (i := 5) rfl (by kernel_rfl) (wanted_none rfl) (fun K hK => ?_)
 (unfold Oper.wp; go_simp)
 refine hK.out _ _ ((Box2.set (Box2.set hHeld (by simp; omega) _) (by simp; omega) _)) (fun hHeld => ?_)
 clear hK K
 try simp only [Act.put, aq0, aq1, aq2]
 refine goR 6 hHeld ?_
 refine goR 7 hHeld ?_
 refine wpAnyH_done (by kernel_rfl) ?_ _
 refine NoPanic.normal ?_
 go_wp2
 exact bodyPost_ret (v := .tuple #[.agg #[.slice A1r p.arrays.length c1r, .slice (some ⟨bb, 0, none⟩) p.parts.length c2r], .pointer (some ⟨bb, k * 2, none⟩), .bool true]) (by simp [results, Tryz.results36, go_sem, m1, m2]) rfl ⟨A1r, c1r, bb, c2r, d1, BB, rfl, Rep.drewN (Rep.keep _ R4.out (((Keeps.refl _ _).setCell hnb _).setCell hnb _)) 1, fun y hy => ⟨by have := (HB.out.1 y hy).1; omega, (HB.out.1 y hy).2⟩, ((G4.out.set_low PrtO.ek (p := ⟨w.heap.size + 1, 0, none⟩) (by have := HB.out.2; simp; omega) _).set_low PrtO.ek (p := ⟨w.heap.size + 1, 1, none⟩) (by have := HB.out.2; simp; omega) _).kept PrtO.ek (Nat.le_refl _) (fun _ _ _ => rfl), by have := HB.out.2; omega, ((S4.setCell (by simp) _).setCell (by simp) _).drew⟩
end Go.Proofs.YtgogjbnneoadkaaGreat
