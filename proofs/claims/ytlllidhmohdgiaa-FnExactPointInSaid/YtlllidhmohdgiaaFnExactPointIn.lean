/- Proved: whatever its arguments, the law FnExactPointIn returns true and its arguments read afterwards as before: the program's PointIn returns what the reference's PointIn returns. No conditions. -/
import Derived.Test.YtlllidhmohdgiaaPointInW
import Derived.Test.YtlllidhmohdgiaaOpLoop
namespace Go.Proofs.Ytlllidhmohdgiaa.fnExactPointIn
open Go.ChangeShapes Go.WideShapes Go.ChangeAt Go.RowKit Go.Deep

set_option maxRecDepth 100000 in
theorem lifted (os : Os) (started : os.Started) (H : Type) (enc : TypeId × Value → H) :
    ReturnsInHanded {} Try.checked os 9 .any (Rows.fnExactPointInSpec.pre6 enc Try.prog Try.f9 Rows.fnExactPointInRow.domain false) (Rows.fnExactPointInSpec.post enc Try.prog Try.f9 false true false false) := by
  refine returnsInHanded_of_change (C := Try.checked) own started (by kernel_rfl) Try.func9
    (ChangeSpec.witness6 (enc := enc) (C := Try.checked) false ⟨#[], #[.slice none 0 0, .slice none 0 0], []⟩ 16 (by kernel_rfl) (by kernel_rfl) (by kernel_rfl) (by kernel_rfl)) ?_
  intro W base args ds gs before hval0 hW hcnd _
  have hval : ∀ (j : Nat) t v, Try.f9.params[j]? = some t → args[j]? = some v → Value.okWide Try.prog W .any base t v := hval0
  have hW' := hW
  obtain ⟨p, q, hA0, hV, rfl, hfz, hnd⟩ := hW
  have hA : DataW.TrodAll enc Try.prog W 0 (fun _ => true) true Try.f9.params.toList args.toList ds p := hA0
  rw [Try.params9] at hA hval
  obtain ⟨v0, v1, d0, d1, p0, p1, hargs, rfl, rfl, j0, j1⟩ := trodAll_two hA
  obtain ⟨rfl, rfl⟩ := trodVars_none hV
  simp only [List.append_nil] at hW' hfz
  have z0 := (noneFrozen_left hfz)
  have z1 := (noneFrozen_right hfz)
  have hl : layB Try.prog [33, 96, 46, 24, 22, 3] = true := by kernel_rfl
  obtain ⟨A0, n0, c0, y0, b0, rfl, h0⟩ := opn_lps hl (by simp) (hval 0 _ v0 rfl (by rw [hargs]; rfl)) j0 z0
  obtain ⟨A1, n1, c1, x1, b1, rfl, h1, t1⟩ := open_sl hl (by simp) Try.underlying22 (hval 1 _ v1 rfl (by rw [hargs]; rfl)) j1 z1
  obtain ⟨y1, rfl⟩ := hasTyE_int Try.underlying3 _ t1
  subst hargs
  refine (FnExactPointIn_walk h0 h1).mono fun e W' ⟨he, hb⟩ => ?_
  subst he
  exact ⟨_, rfl, law_done rfl rfl hW' rfl rfl rfl hA0 (by decide +kernel) hb⟩

theorem proved : Rows.FnExactPointInSaid :=
  OpenClaim.holds_of_wide 9 Try.f9 rfl rfl rfl rfl rfl rfl rfl ⟨rfl, rfl, rfl, rfl, rfl⟩ rfl rfl rfl rfl rfl (by kernel_rfl) Try.func9 (by kernel_rfl)
    (of_decide_eq_true (by kernel_rfl)) (by unfold Func.isWrapper; first | (rw [if_pos (by decide +kernel)]; kernel_rfl) | (rw [if_neg (by decide +kernel)]; exact ⟨rfl, rfl⟩))
    (fun os started H enc _ => lifted os started H enc)

end Go.Proofs.Ytlllidhmohdgiaa.fnExactPointIn
