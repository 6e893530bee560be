/- Constants and variables as affine expressions: constant, variable, VarAffine of the program; l1Zero, l1Const, l1Var, VarAffine of the reference. AffineSame of both. -/
import Derived.Test.YteocehclphnioaaValid
namespace Go.Proofs.Yteocehclphnioaa
open Go.ChangeShapes Go.WideShapes Go.ChangeAt Go.RowKit Go.Deep

/-- the call answers a new affine expression -/
def MadeAff (w : World) (a : Aff) (e : Ending) (w' : World) : Prop :=
  ∃ A n c k bs, e = .returned (.agg #[.slice A n c, .int .i64 k]) ∧ Rep w' a.d [.slice A n c, .int .i64 k] bs ∧ bs.Nodup ∧ (∀ b ∈ bs, w.heap.size ≤ b) ∧ Below w.heap.size w w'
/-- the call answers a new affine expression and a truth value -/
def MadeAffB (w : World) (a : Aff) (t : Bool) (e : Ending) (w' : World) : Prop :=
  ∃ A n c k bs, e = .returned (.tuple #[.agg #[.slice A n c, .int .i64 k], .bool t]) ∧ Rep w' a.d [.slice A n c, .int .i64 k] bs ∧ bs.Nodup ∧ (∀ b ∈ bs, w.heap.size ≤ b) ∧ Below w.heap.size w w'
def affZero : Aff := ⟨[], 0⟩
def affConst (k : Int) : Aff := ⟨[0, 0, 0, 0], k⟩
def affVar (v : Nat) (k : Int) : Aff := ⟨[0, 0, 0, 0].set v k, 0⟩
def VarAffineF (v : Int) : Aff := if 0 ≤ v ∧ v < 4 then affVar v.toNat 1 else affZero
def isVarB (v : Int) : Bool := inB v 0 3

theorem Rep.ints4 {w : World} {x0 x1 x2 x3 : Int} {b : Nat} (hb : b < w.heap.size) (hf : ∀ x ∈ [x0, x1, x2, x3], I64 x)
    (h0 : w.cell? ⟨b, 0, none⟩ = some (.int .i64 x0)) (h1 : w.cell? ⟨b, 1, none⟩ = some (.int .i64 x1)) (h2 : w.cell? ⟨b, 2, none⟩ = some (.int .i64 x2)) (h3 : w.cell? ⟨b, 3, none⟩ = some (.int .i64 x3))
    (hz : ∀ o, w.frozen? ⟨b, o, none⟩ = false) : Rep w (ints [x0, x1, x2, x3]) [.slice (some ⟨b, 0, none⟩) 4 4] [b] :=
  Rep.ints_mk (xs := [x0, x1, x2, x3]) (o := 0) (c := 4) (by simp) (by unfold maxLen; omega) hf hb (fun k hk => by
    refine ⟨?_, hz _⟩
    simp only [List.length_cons, List.length_nil] at hk
    rcases (show k = 0 ∨ k = 1 ∨ k = 2 ∨ k = 3 by omega) with rfl | rfl | rfl | rfl
    · exact h0
    · exact h1
    · exact h2
    · exact h3)
theorem Rep.affZero {w : World} : Rep w affZero.d [.slice none 0 0, .int .i64 0] [] :=
  Rep.aff_iff.2 ⟨_, _, _, rfl, Rep.ints_nil (Nat.zero_le _), i64z⟩

section
variable {w : World}

theorem constant_c (k : Int) (hk : I64 k) (w : World) : Calls Try.prog 74 #[.int .i64 k] w (MadeAff w (affConst k)) := by
  have hmk : ∀ W, (Instr.makeSlice 23 (.int .i64 4) (.int .i64 4)).run Try.prog W = .ok (.slice (some ⟨W.heap.size, 0, none⟩) 4 4) (W.alloc (.cells #[.int .i64 0, .int .i64 0, .int .i64 0, .int .i64 0] 3)) := fun _ => by kernel_rfl
  have HK := Lib.hid hk; clear hk
  go_enter Try.func74, Try.ntmps74
  go_wp2
  refine bodyPost_ret (v := .agg #[.slice (some ⟨w.heap.size + 1, 0, none⟩) 4 4, .int .i64 k]) (by simp [results, Try.results74, go_sem]) rfl ⟨_, _, _, _, [w.heap.size + 1], rfl, Rep.aff_iff.2 ⟨_, _, _, rfl, ?_, HK.out⟩, by simp, by simp, (by repeat (first | exact Below.refl _ _ | refine Below.setCell ?_ (by simp; try omega) _ | refine Below.alloc ?_ (by simp [World.setCell]; try omega) _ | refine below_drewN ?_ _ | refine Below.drew ?_ | refine below_tr ?_ ‹Below _ _ _›))⟩
  refine Rep.ints4 (by simp) (by intro x hx; simp at hx; subst hx; exact i64z) ?_ ?_ ?_ ?_ ?_
  all_goals simp

theorem variable_c (v k : Int) (hk : I64 k) (h0 : 0 ≤ v) (h4 : v < 4) (w : World) : Calls Try.prog 61 #[.int .i64 v, .int .i64 k] w (MadeAff w (affVar v.toNat k)) := by
  obtain ⟨j, rfl⟩ := Int.eq_ofNat_of_zero_le h0
  have hj : j < 4 := by omega
  clear h0 h4
  have HK := Lib.hid hk; clear hk
  go_enter Try.func61, Try.ntmps61
  go_wp2_with fail
  refine (constant_c 0 i64z _).mono ?_
  rintro e w1 ⟨A, n, c, q, bs, rfl, r1, nd, hbs, b1⟩
  obtain ⟨hq, r2, _⟩ := r1.aff
  obtain ⟨hn, _, _⟩ := r2.ints_len
  simp only [affConst, List.length_cons, List.length_nil] at hn hq
  subst hn hq
  obtain ⟨b, o, rfl, hb, hbl, hc, hf⟩ := r2.ints_at (k := j) (by simp [affConst]; omega)
  subst hb
  have hbs' : w.heap.size + 1 ≤ b := by have := hbs b (by simp); simpa using this
  obtain ⟨hc1, hf1⟩ := bcell b1
  have hz1 : w.heap.size < w1.heap.size := by have := b1.size; simp at this; omega
  clear hbs
  have HR := Lib.hid r2; clear r1 r2
  have hne : ¬ b = w.heap.size := by omega
  have hne' : ¬ w.heap.size = b := by omega
  go_wp2
  have r3 := HR.out.ints_set (j := j) (v := k) (by simp [affConst]; omega) HK.out
  refine bodyPost_ret (v := .agg #[.slice (some ⟨b, o, none⟩) 4 c, .int .i64 0]) (by simp [results, Try.results61, go_sem, hc1, hz1]) rfl ⟨_, _, _, _, [b], rfl, Rep.aff_iff.2 ⟨_, _, _, rfl, Rep.keep _ r3 (by repeat (first | exact Keeps.refl _ _ | refine Keeps.setCell ?_ (by simp; try omega) _ | refine Keeps.alloc ?_ (by simp [World.setCell]; try omega) _)), i64z⟩, by simp, by simp; omega, (by repeat (first | exact Below.refl _ _ | refine Below.setCell ?_ (by simp; try omega) _ | refine Below.alloc ?_ (by simp [World.setCell]; try omega) _ | refine below_drewN ?_ _ | refine Below.drew ?_ | refine below_tr ?_ ‹Below _ _ _›))⟩

theorem isVar_c (v : Int) (w : World) : Calls Try.prog 60 #[.int .i64 v] w fun e w' => e = .returned (.bool (isVarB v)) ∧ w = w' := by
  go_enter Try.func60, Try.ntmps60
  go_wp2_with fail
  refine (within_c _ _ _ _).mono ?_
  rintro e w' ⟨rfl, rfl⟩
  go_wp2
  go_ret
  exact ⟨rfl, rfl⟩

theorem implVarAffine_c (v : Int) (w : World) : Calls Try.prog 31 #[.int .i64 v] w (MadeAffB w (VarAffineF v) (isVarB v)) := by
  by_cases h0 : 0 ≤ v
  · by_cases h4 : v ≤ 3
    · have HB := Lib.hid (show isVarB v = true from inB_true h0 h4)
      have HV := Lib.hid (show VarAffineF v = affVar v.toNat 1 from if_pos ⟨h0, by omega⟩)
      go_enter Try.func31, Try.ntmps31
      go_wp2_with fail
      refine (isVar_c _ _).mono ?_
      rintro e w' ⟨rfl, rfl⟩
      rw [HB.out]
      go_wp2_with fail
      refine (variable_c v 1 (by unfold I64; omega) h0 (by omega) _).mono ?_
      rintro e w1 ⟨A, n, c, k, bs, rfl, r1, nd, hbs, b1⟩
      obtain ⟨hc1, hf1⟩ := bcell b1
      have hz1 : w.heap.size < w1.heap.size := by have := b1.size; simp at this; omega
      have hbs' : w.heap.size ∉ bs := fun h => by have := hbs _ h; simp at this; omega
      have HR := Lib.hid r1; clear r1
      go_wp2
      refine bodyPost_ret (v := .tuple #[.agg #[.slice A n c, .int .i64 k], .bool true]) (by simp [results, Try.results31, go_sem, hc1]) rfl ⟨_, _, _, _, bs, by rw [HB.out], by rw [HV.out]; exact Rep.keep _ HR.out (by repeat (first | exact Keeps.refl _ _ | refine Keeps.setCell ?_ (by simp; try omega) _ | refine Keeps.alloc ?_ (by simp [World.setCell]; try omega) _)), nd, fun b hb => by have := hbs b hb; simp at this; omega, (by repeat (first | exact Below.refl _ _ | refine Below.setCell ?_ (by simp; try omega) _ | refine Below.alloc ?_ (by simp [World.setCell]; try omega) _ | refine below_drewN ?_ _ | refine Below.drew ?_ | refine below_tr ?_ ‹Below _ _ _›))⟩
    · have HB := Lib.hid (show isVarB v = false from inB_hi h4)
      have HV := Lib.hid (show VarAffineF v = affZero from if_neg (by omega))
      go_enter Try.func31, Try.ntmps31
      go_wp2_with fail
      refine (isVar_c _ _).mono ?_
      rintro e w' ⟨rfl, rfl⟩
      rw [HB.out]
      go_wp2
      exact bodyPost_ret (v := .tuple #[.agg #[.slice none 0 0, .int .i64 0], .bool false]) (by simp [results, Try.results31, go_sem]) rfl ⟨_, _, _, _, [], by rw [HB.out], by rw [HV.out]; exact Rep.affZero, by simp, by simp, (by repeat (first | exact Below.refl _ _ | refine Below.setCell ?_ (by simp; try omega) _ | refine Below.alloc ?_ (by simp [World.setCell]; try omega) _ | refine below_drewN ?_ _ | refine Below.drew ?_ | refine below_tr ?_ ‹Below _ _ _›))⟩
  · have HB := Lib.hid (show isVarB v = false from inB_lo h0)
    have HV := Lib.hid (show VarAffineF v = affZero from if_neg (by omega))
    go_enter Try.func31, Try.ntmps31
    go_wp2_with fail
    refine (isVar_c _ _).mono ?_
    rintro e w' ⟨rfl, rfl⟩
    rw [HB.out]
    go_wp2
    exact bodyPost_ret (v := .tuple #[.agg #[.slice none 0 0, .int .i64 0], .bool false]) (by simp [results, Try.results31, go_sem]) rfl ⟨_, _, _, _, [], by rw [HB.out], by rw [HV.out]; exact Rep.affZero, by simp, by simp, (by repeat (first | exact Below.refl _ _ | refine Below.setCell ?_ (by simp; try omega) _ | refine Below.alloc ?_ (by simp [World.setCell]; try omega) _ | refine below_drewN ?_ _ | refine Below.drew ?_ | refine below_tr ?_ ‹Below _ _ _›))⟩

theorem l1Zero_c (w : World) : Calls Try.prog 73 #[] w (MadeAff w (affConst 0)) := by
  go_enter Try.func73, Try.ntmps73
  go_wp2
  refine bodyPost_ret (v := .agg #[.slice (some ⟨w.heap.size + 1, 0, none⟩) 4 4, .int .i64 0]) (by simp [results, Try.results73, go_sem]) rfl ⟨_, _, _, _, [w.heap.size + 1], rfl, Rep.aff_iff.2 ⟨_, _, _, rfl, ?_, i64z⟩, by simp, by simp, (by repeat (first | exact Below.refl _ _ | refine Below.setCell ?_ (by simp; try omega) _ | refine Below.alloc ?_ (by simp [World.setCell]; try omega) _ | refine below_drewN ?_ _ | refine Below.drew ?_ | refine below_tr ?_ ‹Below _ _ _›))⟩
  refine Rep.ints4 (by simp) (by intro x hx; simp at hx; subst hx; exact i64z) ?_ ?_ ?_ ?_ ?_
  all_goals simp

theorem l1Var_c (v : Int) (h0 : 0 ≤ v) (h4 : v < 4) (w : World) : Calls Try.prog 59 #[.int .i64 v] w (MadeAff w (affVar v.toNat 1)) := by
  obtain ⟨j, rfl⟩ := Int.eq_ofNat_of_zero_le h0
  have hj : j < 4 := by omega
  clear h0 h4
  go_enter Try.func59, Try.ntmps59
  go_wp2_with fail
  refine (l1Zero_c _).mono ?_
  rintro e w1 ⟨A, n, c, q, bs, rfl, r1, nd, hbs, b1⟩
  obtain ⟨hq, r2, _⟩ := r1.aff
  obtain ⟨hn, _, _⟩ := r2.ints_len
  simp only [affConst, List.length_cons, List.length_nil] at hn hq
  subst hn hq
  obtain ⟨b, o, rfl, hb, hbl, hc, hf⟩ := r2.ints_at (k := j) (by simp [affConst]; omega)
  subst hb
  have hbs' : w.heap.size + 1 ≤ b := by have := hbs b (by simp); simpa using this
  obtain ⟨hc1, hf1⟩ := bcell b1
  have hz1 : w.heap.size < w1.heap.size := by have := b1.size; simp at this; omega
  clear hbs
  have HR := Lib.hid r2; clear r1 r2
  have hne : ¬ b = w.heap.size := by omega
  have hne' : ¬ w.heap.size = b := by omega
  go_wp2
  have r3 := HR.out.ints_set (j := j) (v := 1) (by simp [affConst]; omega) (by unfold I64; omega)
  exact bodyPost_ret (v := .agg #[.slice (some ⟨b, o, none⟩) 4 c, .int .i64 0]) (by simp [results, Try.results59, go_sem, hc1, hz1]) rfl ⟨_, _, _, _, [b], rfl, Rep.aff_iff.2 ⟨_, _, _, rfl, Rep.keep _ r3 (by repeat (first | exact Keeps.refl _ _ | refine Keeps.setCell ?_ (by simp; try omega) _ | refine Keeps.alloc ?_ (by simp [World.setCell]; try omega) _)), i64z⟩, by simp, by simp; omega, (by repeat (first | exact Below.refl _ _ | refine Below.setCell ?_ (by simp; try omega) _ | refine Below.alloc ?_ (by simp [World.setCell]; try omega) _ | refine below_drewN ?_ _ | refine Below.drew ?_ | refine below_tr ?_ ‹Below _ _ _›))⟩

theorem specVarAffine_c (v : Int) (w : World) : Calls Try.prog 30 #[.int .i64 v] w (MadeAffB w (VarAffineF v) (isVarB v)) := by
  by_cases h0 : v < 0
  · have HB := Lib.hid (show isVarB v = false from inB_lo (by omega))
    have HV := Lib.hid (show VarAffineF v = affZero from if_neg (by omega))
    go_enter Try.func30, Try.ntmps30
    go_wp2
    exact bodyPost_ret (v := .tuple #[.agg #[.slice none 0 0, .int .i64 0], .bool false]) (by simp [results, Try.results30, go_sem]) rfl ⟨_, _, _, _, [], by rw [HB.out], by rw [HV.out]; exact Rep.affZero, by simp, by simp, (by repeat (first | exact Below.refl _ _ | refine Below.setCell ?_ (by simp; try omega) _ | refine Below.alloc ?_ (by simp [World.setCell]; try omega) _ | refine below_drewN ?_ _ | refine Below.drew ?_ | refine below_tr ?_ ‹Below _ _ _›))⟩
  · by_cases h4 : 4 ≤ v
    · have HB := Lib.hid (show isVarB v = false from inB_hi (by omega))
      have HV := Lib.hid (show VarAffineF v = affZero from if_neg (by omega))
      go_enter Try.func30, Try.ntmps30
      go_wp2
      exact bodyPost_ret (v := .tuple #[.agg #[.slice none 0 0, .int .i64 0], .bool false]) (by simp [results, Try.results30, go_sem]) rfl ⟨_, _, _, _, [], by rw [HB.out], by rw [HV.out]; exact Rep.affZero, by simp, by simp, (by repeat (first | exact Below.refl _ _ | refine Below.setCell ?_ (by simp; try omega) _ | refine Below.alloc ?_ (by simp [World.setCell]; try omega) _ | refine below_drewN ?_ _ | refine Below.drew ?_ | refine below_tr ?_ ‹Below _ _ _›))⟩
    · have HB := Lib.hid (show isVarB v = true from inB_true (by omega) (by omega))
      have HV := Lib.hid (show VarAffineF v = affVar v.toNat 1 from if_pos (by omega))
      go_enter Try.func30, Try.ntmps30
      go_wp2_with fail
      refine (l1Var_c v (by omega) (by omega) _).mono ?_
      rintro e w1 ⟨A, n, c, k, bs, rfl, r1, nd, hbs, b1⟩
      obtain ⟨hc1, hf1⟩ := bcell b1
      have hz1 : w.heap.size < w1.heap.size := by have := b1.size; simp at this; omega
      have hbs' : w.heap.size ∉ bs := fun h => by have := hbs _ h; simp at this; omega
      have HR := Lib.hid r1; clear r1
      go_wp2
      refine bodyPost_ret (v := .tuple #[.agg #[.slice A n c, .int .i64 k], .bool true]) (by simp [results, Try.results30, go_sem, hc1]) rfl ⟨_, _, _, _, bs, by rw [HB.out], by rw [HV.out]; exact Rep.keep _ HR.out (by repeat (first | exact Keeps.refl _ _ | refine Keeps.setCell ?_ (by simp; try omega) _ | refine Keeps.alloc ?_ (by simp [World.setCell]; try omega) _)), nd, fun b hb => by have := hbs b hb; simp at this; omega, (by repeat (first | exact Below.refl _ _ | refine Below.setCell ?_ (by simp; try omega) _ | refine Below.alloc ?_ (by simp [World.setCell]; try omega) _ | refine below_drewN ?_ _ | refine Below.drew ?_ | refine below_tr ?_ ‹Below _ _ _›))⟩

def affSame (a b : Aff) : Bool := decide (a.coefs = b.coefs) && decide (a.const = b.const)
theorem affSame_iff {a b : Aff} : affSame a b = true ↔ a = b := by
  cases a; cases b; simp [affSame]
end
end Go.Proofs.Yteocehclphnioaa
