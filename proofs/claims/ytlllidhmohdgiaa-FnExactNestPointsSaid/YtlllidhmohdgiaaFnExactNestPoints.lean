/- Proved: whatever its arguments, the law FnExactNestPoints returns true and its arguments read afterwards as before: the program's NestPoints returns what the reference's NestPoints returns. No conditions. -/
import Derived.Test.YtlllidhmohdgiaaNestPointsW
import Derived.Test.YtlllidhmohdgiaaOpLoop
set_option linter.all false
set_option linter.unusedSimpArgs false
set_option linter.unusedVariables false
namespace Go.Proofs.Ytlllidhmohdgiaa.fnExactNestPoints
open Go.ChangeShapes Go.WideShapes Go.ChangeAt Go.RowKit Go.Deep

set_option maxRecDepth 100000 in
theorem lifted (os : Os) (started : os.Started) (H : Type) (enc : TypeId × Value → H) :
    ReturnsInHanded {} Try.checked os 10 .any (Rows.fnExactNestPointsSpec.pre6 enc Try.prog Try.f10 Rows.fnExactNestPointsRow.domain false) (Rows.fnExactNestPointsSpec.post enc Try.prog Try.f10 false true false false) := by
  refine returnsInHanded_of_change (C := Try.checked) own started (by kernel_rfl) Try.func10
    (ChangeSpec.witness6 (enc := enc) (C := Try.checked) false ⟨#[], #[.slice none 0 0], []⟩ 16 (by kernel_rfl) (by kernel_rfl) (by kernel_rfl) (by kernel_rfl)) ?_
  intro W base args ds gs before hval0 hW hcnd _
  have hval : ∀ (j : Nat) t v, Try.f10.params[j]? = some t → args[j]? = some v → Value.okWide Try.prog W .any base t v := hval0
  have hW' := hW
  obtain ⟨p, q, hA0, hV, rfl, hfz, hnd⟩ := hW
  have hA : DataW.TrodAll enc Try.prog W 0 (fun _ => true) true Try.f10.params.toList args.toList ds p := hA0
  rw [Try.params10] at hA hval
  obtain ⟨v0, d0, hargs, rfl, j0⟩ := trodAll_one hA
  have z0 := hfz
  obtain ⟨rfl, rfl⟩ := trodVars_none hV
  simp only [List.append_nil] at hW' hfz z0
  have hl : layB Try.prog [33, 96, 46, 24, 22, 3] = true := by kernel_rfl
  obtain ⟨A0, n0, c0, y0, b0, rfl, h0⟩ := opn_lps hl (by simp) (hval 0 _ v0 rfl (by rw [hargs]; rfl)) j0 z0
  subst hargs
  refine (FnExactNestPoints_walk h0).mono fun e W' ⟨he, hb⟩ => ?_
  subst he
  exact ⟨_, rfl, law_done rfl rfl hW' rfl rfl rfl hA0 (by decide +kernel) hb⟩

theorem proved : Rows.FnExactNestPointsSaid :=
  OpenClaim.holds_of_wide 10 Try.f10 rfl rfl rfl rfl rfl rfl rfl ⟨rfl, rfl, rfl, rfl, rfl⟩ rfl rfl rfl rfl rfl (by kernel_rfl) Try.func10 (by kernel_rfl)
    (of_decide_eq_true (by kernel_rfl)) (by unfold Func.isWrapper; first | (rw [if_pos (by decide +kernel)]; kernel_rfl) | (rw [if_neg (by decide +kernel)]; exact ⟨rfl, rfl⟩))
    (fun os started H enc _ => lifted os started H enc)

end Go.Proofs.Ytlllidhmohdgiaa.fnExactNestPoints
