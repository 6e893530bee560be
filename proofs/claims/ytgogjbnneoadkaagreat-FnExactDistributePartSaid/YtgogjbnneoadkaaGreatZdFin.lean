/- A program's end: finished. -/
import Derived.Test.YtgogjbnneoadkaaGreatZdOwnG
import Derived.Test.YtgogjbnneoadkaaGreatZdTotal
import Derived.Test.YtgogjbnneoadkaaGreatZdActs
import Derived.Test.YtgogjbnneoadkaaGreatZdRange
set_option linter.all false
set_option maxHeartbeats 4000000
set_option maxRecDepth 100000
namespace Go.Proofs.YtgogjbnneoadkaaGreat
open Go.ChangeShapes Go.WideShapes Go.ChangeAt Go.RowKit Go.Deep
theorem LpSm.of {x : Lp} {i : Nat} (h1 : sideOk x.lo i = true) (h2 : sideOk x.hi i = true) : LpSm x := by
 obtain ⟨_, a2, a3⟩ := sideOk_iff h1
 obtain ⟨_, b2, b3⟩ := sideOk_iff h2
 refine ⟨by omega, by omega, fun a ha => ?_, fun a ha => ?_⟩
 ·have := (affOk_iff.1 (a3 a ha).1).1; omega
 ·have := (affOk_iff.1 (b3 a ha).1).1; omega
theorem nest_sm {xs : List Lp} (h : (NestPointsF xs).2 = true) : xs.length ≤ 4 ∧ ∀ x ∈ xs, LpSm x := by
 have hv : NestValidF xs = true := by
  cases hv : NestValidF xs with
  | true => rfl
  | false => simp [NestPointsF, hv] at h
 simp only [NestValidF, Bool.and_eq_true, decide_eq_true_iff] at hv
 refine ⟨hv.1, fun x hx => ?_⟩
 obtain ⟨j, hj, rfl⟩ := List.getElem_of_mem hx
 obtain ⟨h1, h2⟩ := nestFrom_at xs 0 hv.2 j hj
 exact LpSm.of h1 h2
theorem part_sm {xs : List Ar} {x : Prt} (h : partOk xs x = true) : PrtSm x := by
 simp only [partOk, bodyOk, Bool.and_eq_true, List.all_eq_true] at h
 obtain ⟨h1, ⟨h2, h3⟩, _⟩ := h
 obtain ⟨n1, n2⟩ := nest_sm h1
 have := (inB_iff.1 h2).2
 exact ⟨by omega, n2, by omega, fun s hs => ⟨_, h3 s hs⟩⟩
theorem pgm_sm {p : Pgm} (h : progOk p = true) : PgmSm p := by
 have hp := progOk_part h
 simp only [progOk, progBase, Bool.and_eq_true, decide_eq_true_iff] at h
 obtain ⟨⟨h1, h2⟩, _⟩ := h
 obtain ⟨a1, a2⟩ := arrsOk_at h1
 refine ⟨by omega, fun a ha => ?_, by omega, fun x hx => part_sm (hp x hx)⟩
 obtain ⟨j, hj, rfl⟩ := List.getElem_of_mem ha
 have := a2 j hj
 rw [nthA_eq hj, dimsOk, Bool.and_eq_true] at this
 have := (inB_iff.1 this.1).2
 omega
def finF (q : Pgm) : Pgm × Bool := if progOk q then (q, true) else (⟨[], []⟩, false)
def MadePgmB (w : World) (r : Pgm × Bool) (e : Ending) (w' : World) : Prop := ∃ (A1 : Option Addr) (c1 : Nat) (A2 : Option Addr) (c2 : Nat) (bs : List Nat), e = .returned (.tuple #[.agg #[.slice A1 r.1.arrays.length c1, .slice A2 r.1.parts.length c2], .bool r.2]) ∧ Rep w' r.1.d [.slice A1 r.1.arrays.length c1, .slice A2 r.1.parts.length c2] bs ∧ bs.Nodup ∧ (∀ b ∈ bs, w.heap.size ≤ b) ∧ Below w.heap.size w w'
theorem Rep.pgm_nil (w : World) : Rep w (⟨[], []⟩ : Pgm).d [.slice none 0 0, .slice none 0 0] [] := Rep.pgm_iff.2 ⟨_, _, _, _, [], [], rfl, rfl, Rep.sls_nil (Nat.zero_le _), Rep.sls_nil (Nat.zero_le _)⟩
theorem MadePgmB.nil {w w' : World} (hb : Below w.heap.size w w') : MadePgmB w (⟨[], []⟩, false) (.returned (.tuple #[.agg #[.slice none 0 0, .slice none 0 0], .bool false])) w' := ⟨none, 0, none, 0, [], rfl, Rep.pgm_nil _, by simp, by simp, hb⟩
theorem finished_c {w : World} {q : Pgm} {cs : List Value} {bs : List Nat} (h : Rep w q.d cs bs) : Calls Tryz.prog 41 #[.agg cs.toArray] w (MadePgmB w (finF q)) := by
 have HH := Lib.hid h
 obtain ⟨A1, c1, A2, c2, d1, d2, rfl, rfl, g1, g2⟩ := Rep.pgm_iff.1 h
 clear g1 g2 h
 cases hv : progOk q with
 | false =>
  have HF := Lib.hid (show finF q = (⟨[], []⟩, false) by simp [finF, hv])
  have HV := Lib.hid hv; clear hv
  rw [HF.out]
  go_enter Tryz.func41, Tryz.ntmps41
  go_wp2_with fail
  refine (implProgramValid_c (HH.out.below bel)).mono ?_
  rintro e w1 ⟨rfl, b1⟩
  rw [HV.out]
  have X1 : BoxW w1 (w.heap.size + 1) (.slice none 0 0) (.slice none 0 0) := BoxW.to ⟨⟨by go_simp, by go_simp⟩, by go_simp, by go_simp⟩ b1
  have S1 : Below w.heap.size w w1 := bel
  clear b1
  obtain ⟨⟨m1, m2⟩, m3, m4⟩ := X1
  have lt1 := lt_of_cell m1
  go_wp2
  exact bodyPost_ret (v := .tuple #[.agg #[.slice none 0 0, .slice none 0 0], .bool false]) (by simp [results, Tryz.results41, go_sem, m1, m2]) rfl (MadePgmB.nil ((S1.setCell (by simp) _).setCell (by simp) _))
 | true =>
  have HF := Lib.hid (show finF q = (q, true) by simp [finF, hv])
  have HS := Lib.hid (pgm_sm hv)
  have HV := Lib.hid hv; clear hv
  rw [HF.out]
  go_enter Tryz.func41, Tryz.ntmps41
  go_wp2_with fail
  refine (implProgramValid_c (HH.out.below bel)).mono ?_
  rintro e w1 ⟨rfl, b1⟩
  rw [HV.out]
  have X0 : BoxW w1 w.heap.size (.slice A1 q.arrays.length c1) (.slice A2 q.parts.length c2) := BoxW.to ⟨⟨by go_simp, by go_simp⟩, by go_simp, by go_simp⟩ b1
  have X1 : BoxW w1 (w.heap.size + 1) (.slice none 0 0) (.slice none 0 0) := BoxW.to ⟨⟨by go_simp, by go_simp⟩, by go_simp, by go_simp⟩ b1
  have S1 : Below w.heap.size w w1 := bel
  clear b1
  have HX1 := Lib.hid X1; clear X1
  obtain ⟨⟨p1, p2⟩, _, _⟩ := X0
  have lt0 := lt_of_cell p1
  go_wp2_with fail
  refine (own_c (HH.out.below S1) HS.out).mono ?_
  rintro e w2 ⟨cs2, bs2, rfl, r2, nd2, hb2, b2⟩
  obtain ⟨A1r, c1r, A2r, c2r, d1r, d2r, hcs2, _⟩ := Rep.pgm_iff.1 r2
  subst hcs2
  obtain ⟨⟨m1, m2⟩, m3, m4⟩ := HX1.out.to b2
  have z1 : w.heap.size + 2 ≤ w1.heap.size := lt_of_cell HX1.out.1.1
  have lt1 := lt_of_cell m1
  have S2 : Below w.heap.size w w2 := below_tr S1 b2
  have hge : ∀ y ∈ bs2, w.heap.size + 2 ≤ y := fun y hy => by have := hb2 y hy; omega
  have hnb : w.heap.size + 1 ∉ bs2 := fun hm => by have := hge _ hm; omega
  have R2 := Lib.hid r2
  clear r2 hb2 b2
  go_wp2
  exact bodyPost_ret (v := .tuple #[.agg #[.slice A1r q.arrays.length c1r, .slice A2r q.parts.length c2r], .bool true]) (by simp [results, Tryz.results41, go_sem, m1, m2]) rfl ⟨_, _, _, _, bs2, rfl, Rep.keep _ R2.out (((Keeps.refl _ _).setCell hnb _).setCell hnb _), nd2, fun y hy => by have := hge y hy; omega, (S2.setCell (by simp) _).setCell (by simp) _⟩
end Go.Proofs.YtgogjbnneoadkaaGreat
