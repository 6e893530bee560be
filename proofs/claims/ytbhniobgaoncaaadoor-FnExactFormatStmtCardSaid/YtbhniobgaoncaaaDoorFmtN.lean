/- FormatNest of both. -/
import Derived.Test.YtbhniobgaoncaaaDoorTxtE
set_option linter.all false
set_option linter.unusedSimpArgs false
set_option linter.unusedVariables false
namespace Go.Proofs.YtbhniobgaoncaaaDoor
open Go.ChangeShapes Go.WideShapes Go.ChangeAt Go.RowKit Go.Deep

theorem side_sd {al : List Aff} {d : Int} (h : sideOk al d = true) : SdOk al := by
  unfold sideOk at h
  simp only [Bool.and_eq_true, decide_eq_true_iff, Bool.not_eq_true'] at h
  refine ⟨by omega, fun a ha => ?_⟩
  cases e : affOk a with
  | true => rfl
  | false => exact absurd (List.any_eq_true.2 ⟨a, ha, affBad_no e⟩) (by rw [h.2]; simp)
theorem nestFrom_sd : ∀ (xs : List Lp) (i : Nat), nestFrom xs i = true → ∀ x ∈ xs, SdOk x.lo ∧ SdOk x.hi
  | [], _, _, _, hx => by simp at hx
  | y :: ys, i, h, x, hx => by
    rw [nestFrom] at h
    simp only [Bool.and_eq_true] at h
    rcases List.mem_cons.1 hx with rfl | hx
    · exact ⟨side_sd h.1.1, side_sd h.1.2⟩
    · exact nestFrom_sd ys (i + 1) h.2 x hx
theorem nest_sd {xs : List Lp} (h : NestValidF xs = true) : xs.length ≤ 4 ∧ ∀ x ∈ xs, SdOk x.lo ∧ SdOk x.hi := by
  unfold NestValidF at h
  simp only [Bool.and_eq_true, decide_eq_true_iff] at h
  exact ⟨h.1, nestFrom_sd xs 0 h.2⟩
set_option maxRecDepth 100000 in
set_option maxHeartbeats 1000000 in
theorem specFormatNest_c {w : World} {xs : List Lp} {A : Option Addr} {n c : Nat} {bs : List Nat} (h : Rep w (sls Lp.d xs) [.slice A n c] bs) :
    Calls Tryd.prog 13 #[.slice A n c] w fun e w' => e = .returned (.string (FormatNestF xs)) ∧ Below w.heap.size w w' := by
  have H := Lib.hid h; clear h
  cases hv : NestValidF xs with
  | false =>
    have HF := Lib.hid (show FormatNestF xs = ⟨#[]⟩ by simp [FormatNestF, hv])
    have HV := Lib.hid hv; clear hv
    go_enter Tryd.func13, Tryd.ntmps13
    go_wp2_with fail
    refine (specNestValid_c (H.out.below bel)).mono ?_
    rintro e w1 ⟨rfl, b1⟩
    rw [HV.out]
    go_wp2
    go_ret
    exact ⟨by rw [HF.out]; rfl, bel⟩
  | true =>
    have HF := Lib.hid (show FormatNestF xs = strOf (nestL xs) by simp [FormatNestF, hv])
    have HB := Lib.hid (nest_sd hv)
    have HV := Lib.hid hv; clear hv
    go_enter Tryd.func13, Tryd.ntmps13
    go_wp2_with fail
    refine (specNestValid_c (H.out.below bel)).mono ?_
    rintro e w1 ⟨rfl, b1⟩
    rw [HV.out]
    have S1 : Below w.heap.size w w1 := bel
    go_wp2_with fail
    refine (l2Text_c (H.out.below S1) (by have := HB.out.1; omega) HB.out.2).mono ?_
    rintro e w2 ⟨rfl, b2⟩
    go_wp2
    go_ret
    exact ⟨by rw [HF.out]; rfl, bel⟩
set_option maxRecDepth 100000 in
set_option maxHeartbeats 1000000 in
theorem implFormatNest_c {w : World} {xs : List Lp} {A : Option Addr} {n c : Nat} {bs : List Nat} (h : Rep w (sls Lp.d xs) [.slice A n c] bs) :
    Calls Tryd.prog 15 #[.slice A n c] w fun e w' => e = .returned (.string (FormatNestF xs)) ∧ Below w.heap.size w w' := by
  have H := Lib.hid h; clear h
  cases hv : NestValidF xs with
  | false =>
    have HF := Lib.hid (show FormatNestF xs = ⟨#[]⟩ by simp [FormatNestF, hv])
    have HV := Lib.hid hv; clear hv
    go_enter Tryd.func15, Tryd.ntmps15
    go_wp2_with fail
    refine (implNestValid_c (H.out.below bel)).mono ?_
    rintro e w1 ⟨rfl, b1⟩
    rw [HV.out]
    go_wp2
    go_ret
    exact ⟨by rw [HF.out]; rfl, bel⟩
  | true =>
    have HF := Lib.hid (show FormatNestF xs = strOf (nestL xs) by simp [FormatNestF, hv])
    have HB := Lib.hid (nest_sd hv)
    have HV := Lib.hid hv; clear hv
    go_enter Tryd.func15, Tryd.ntmps15
    go_wp2_with fail
    refine (implNestValid_c (H.out.below bel)).mono ?_
    rintro e w1 ⟨rfl, b1⟩
    rw [HV.out]
    have S1 : Below w.heap.size w w1 := bel
    go_wp2_with fail
    refine (nestText_c (H.out.below S1) (by have := HB.out.1; omega) HB.out.2).mono ?_
    rintro e w2 ⟨rfl, b2⟩
    go_wp2
    go_ret
    exact ⟨by rw [HF.out]; rfl, bel⟩
end Go.Proofs.YtbhniobgaoncaaaDoor
