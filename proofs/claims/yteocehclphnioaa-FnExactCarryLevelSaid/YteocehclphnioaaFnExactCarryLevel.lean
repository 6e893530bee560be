/- Proved: for every list of integers, the program's CarryLevel returns what the reference's CarryLevel returns, and its argument reads afterwards as before (the law FnExactCarryLevel returns true). No conditions. -/
import Derived.Test.YteocehclphnioaaCarryLevel
namespace Go.Proofs.Yteocehclphnioaa.fnExactCarryLevel
open Go.ChangeShapes Go.WideShapes Go.ChangeAt Go.RowKit Go.Deep

set_option maxRecDepth 100000 in
theorem FnExactCarryLevel_lifted (os : Os) (started : os.Started) (H : Type) (enc : TypeId × Value → H) :
    ReturnsInHanded {} Try.checked os 4 .any (Rows.fnExactCarryLevelSpec.pre6 enc Try.prog Try.f4 Rows.fnExactCarryLevelRow.domain false) (Rows.fnExactCarryLevelSpec.post enc Try.prog Try.f4 false true false false) := by
  refine returnsInHanded_of_change (C := Try.checked) own started (by kernel_rfl) Try.func4
    (ChangeSpec.witness6 (enc := enc) (C := Try.checked) false ⟨#[], #[.slice none 0 0], []⟩ 8 (by kernel_rfl) (by kernel_rfl) (by kernel_rfl) (by kernel_rfl)) ?_
  intro W base args ds gs before hval0 hW hcnd _
  have hval : ∀ (j : Nat) t v, Try.f4.params[j]? = some t → args[j]? = some v → Value.okWide Try.prog W .any base t v := hval0
  have hW' := hW
  obtain ⟨p, q, hA0, hV, rfl, hfz, hnd⟩ := hW
  have hA : DataW.TrodAll enc Try.prog W 0 (fun _ => true) true Try.f4.params.toList args.toList ds p := hA0
  rw [Try.params4] at hA hval
  obtain ⟨v0, d0, hargs, rfl, h0⟩ := trodAll_one hA
  obtain ⟨rfl, rfl⟩ := trodVars_none hV
  simp only [List.append_nil] at hW' hfz
  have hl : layB Try.prog [3, 23] = true := by kernel_rfl
  obtain ⟨A0, n0, c0, x0, b0, rfl, hr0, ht0⟩ := open_sl hl (by simp) Try.underlying23 (hval 0 _ v0 rfl (by rw [hargs]; rfl)) h0 hfz
  obtain ⟨y0, rfl⟩ := hasTyE_int Try.underlying3 _ ht0
  subst hargs
  refine (FnExactCarryLevel_walk hr0).mono fun e W' ⟨he, hb⟩ => ?_
  subst he
  exact ⟨_, rfl, law_done rfl rfl hW' rfl rfl rfl hA0 (by decide +kernel) hb⟩

theorem proved : Rows.FnExactCarryLevelSaid :=
  OpenClaim.holds_of_wide 4 Try.f4 rfl rfl rfl rfl rfl rfl rfl ⟨rfl, rfl, rfl, rfl, rfl⟩ rfl rfl rfl rfl rfl (by kernel_rfl) Try.func4 (by kernel_rfl)
    (of_decide_eq_true (by kernel_rfl)) (by unfold Func.isWrapper; first | (rw [if_pos (by decide +kernel)]; kernel_rfl) | (rw [if_neg (by decide +kernel)]; exact ⟨rfl, rfl⟩))
    (fun os started H enc _ => FnExactCarryLevel_lifted os started H enc)

end Go.Proofs.Yteocehclphnioaa.fnExactCarryLevel
