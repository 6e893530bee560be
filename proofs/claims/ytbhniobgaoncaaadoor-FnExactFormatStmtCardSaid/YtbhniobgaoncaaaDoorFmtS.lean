/- FormatAffine of both. -/
import Derived.Test.YtbhniobgaoncaaaDoorTxtC
import Derived.Test.YtbhniobgaoncaaaDoorBasic
set_option linter.all false
set_option linter.unusedSimpArgs false
set_option linter.unusedVariables false
namespace Go.Proofs.YtbhniobgaoncaaaDoor
open Go.ChangeShapes Go.WideShapes Go.ChangeAt Go.RowKit Go.Deep

theorem affOk_bds {a : Aff} (h : affOk a = true) : a.coefs.length ≤ 4 ∧ (∀ v, (gi a.coefs v).natAbs < 100) ∧ a.const.natAbs < 100 := by
  unfold affOk at h
  simp only [Bool.and_eq_true, decide_eq_true_iff, Bool.not_eq_true'] at h
  obtain ⟨⟨h4, hk⟩, hb⟩ := h
  have hk2 := inB_iff.1 hk
  refine ⟨by omega, fun v => ?_, by have : -99 ≤ a.const ∧ a.const ≤ 99 := hk2; omega⟩
  rcases Nat.lt_or_ge v a.coefs.length with hv | hv
  · have h1 : coefBad a.coefs[v] = false := by
      cases e : coefBad a.coefs[v] with
      | false => rfl
      | true => rw [List.any_eq_true.2 ⟨_, List.getElem_mem hv, e⟩] at hb; cases hb
    unfold coefBad at h1
    have h2 := inB_iff.1 (show inB a.coefs[v] (-9) 9 = true by simpa using h1)
    have h3 : gi a.coefs v = a.coefs[v] := by simp [gi, List.getD_eq_getElem?_getD, hv]
    rw [h3]; omega
  · have h3 : gi a.coefs v = 0 := by simp [gi, List.getD_eq_getElem?_getD, hv]
    rw [h3]; simp
set_option maxRecDepth 100000 in
set_option maxHeartbeats 1000000 in
theorem specFormatAffine_c {w : World} {a : Aff} {A : Option Addr} {n c : Nat} {k : Int} {bs : List Nat} (h : Rep w a.d [.slice A n c, .int .i64 k] bs) :
    Calls Tryd.prog 8 #[.agg #[.slice A n c, .int .i64 k]] w fun e w' => e = .returned (.string (FormatAffineF a)) ∧ Below w.heap.size w w' := by
  have H := Lib.hid h; clear h
  cases hv : affOk a with
  | false =>
    have HF := Lib.hid (show FormatAffineF a = ⟨#[]⟩ by simp [FormatAffineF, hv])
    have HV := Lib.hid hv; clear hv
    go_enter Tryd.func8, Tryd.ntmps8
    go_wp2_with fail
    refine (specAffineValid_c (H.out.below bel)).mono ?_
    rintro e w1 ⟨rfl, b1⟩
    rw [HV.out]
    go_wp2
    go_ret
    exact ⟨by rw [HF.out]; rfl, bel⟩
  | true =>
    have HF := Lib.hid (show FormatAffineF a = strOf (affI a) by simp [FormatAffineF, hv])
    have HB := Lib.hid (affOk_bds hv)
    have HV := Lib.hid hv; clear hv
    go_enter Tryd.func8, Tryd.ntmps8
    go_wp2_with fail
    refine (specAffineValid_c (H.out.below bel)).mono ?_
    rintro e w1 ⟨rfl, b1⟩
    rw [HV.out]
    have P1 := (Box2.new w _ _ _).to b1
    have S1 : Below w.heap.size w w1 := bel
    go_wp2_with fail
    refine (l1Text_c (H.out.below S1) HB.out.1 HB.out.2.1 HB.out.2.2).mono ?_
    rintro e w2 ⟨rfl, b2⟩
    go_wp2
    go_ret
    exact ⟨by rw [HF.out, affI_eq]; rfl, bel⟩
set_option maxRecDepth 100000 in
set_option maxHeartbeats 1000000 in
theorem implFormatAffine_c {w : World} {a : Aff} {A : Option Addr} {n c : Nat} {k : Int} {bs : List Nat} (h : Rep w a.d [.slice A n c, .int .i64 k] bs) :
    Calls Tryd.prog 10 #[.agg #[.slice A n c, .int .i64 k]] w fun e w' => e = .returned (.string (FormatAffineF a)) ∧ Below w.heap.size w w' := by
  have H := Lib.hid h; clear h
  cases hv : affOk a with
  | false =>
    have HF := Lib.hid (show FormatAffineF a = ⟨#[]⟩ by simp [FormatAffineF, hv])
    have HV := Lib.hid hv; clear hv
    go_enter Tryd.func10, Tryd.ntmps10
    go_wp2_with fail
    refine (implAffineValid_c (H.out.below bel)).mono ?_
    rintro e w1 ⟨rfl, b1⟩
    rw [HV.out]
    go_wp2
    go_ret
    exact ⟨by rw [HF.out]; rfl, bel⟩
  | true =>
    have HF := Lib.hid (show FormatAffineF a = strOf (affI a) by simp [FormatAffineF, hv])
    have HB := Lib.hid (affOk_bds hv)
    have HV := Lib.hid hv; clear hv
    go_enter Tryd.func10, Tryd.ntmps10
    go_wp2_with fail
    refine (implAffineValid_c (H.out.below bel)).mono ?_
    rintro e w1 ⟨rfl, b1⟩
    rw [HV.out]
    have P1 := (Box2.new w _ _ _).to b1
    have S1 : Below w.heap.size w w1 := bel
    go_wp2_with fail
    refine (affineText_c (H.out.below S1) HB.out.1 HB.out.2.1 HB.out.2.2).mono ?_
    rintro e w2 ⟨rfl, b2⟩
    go_wp2
    go_ret
    exact ⟨by rw [HF.out]; rfl, bel⟩
end Go.Proofs.YtbhniobgaoncaaaDoor
