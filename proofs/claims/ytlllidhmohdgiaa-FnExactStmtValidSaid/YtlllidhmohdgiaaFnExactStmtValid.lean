/- Proved: whatever its arguments, the law FnExactStmtValid returns true and its arguments read afterwards as before: the program's StmtValid returns what the reference's StmtValid returns. No conditions. -/
import Derived.Test.YtlllidhmohdgiaaStmtValidW
import Derived.Test.YtlllidhmohdgiaaOpStmt
set_option linter.all false
set_option linter.unusedSimpArgs false
set_option linter.unusedVariables false
namespace Go.Proofs.Ytlllidhmohdgiaa.fnExactStmtValid
open Go.ChangeShapes Go.WideShapes Go.ChangeAt Go.RowKit Go.Deep

set_option maxRecDepth 100000 in
theorem lifted (os : Os) (started : os.Started) (H : Type) (enc : TypeId × Value → H) :
    ReturnsInHanded {} Try.checked os 11 .any (Rows.fnExactStmtValidSpec.pre6 enc Try.prog Try.f11 Rows.fnExactStmtValidRow.domain false) (Rows.fnExactStmtValidSpec.post enc Try.prog Try.f11 false true false false) := by
  refine returnsInHanded_of_change (C := Try.checked) own started (by kernel_rfl) Try.func11
    (ChangeSpec.witness6 (enc := enc) (C := Try.checked) false ⟨#[], #[.agg #[.string ⟨#[]⟩, .slice none 0 0, .int .i64 0, .int .i64 0, .slice none 0 0, .int .i64 0, .string ⟨#[]⟩, .slice none 0 0, .slice none 0 0], .int .i64 0], []⟩ 16 (by kernel_rfl) (by kernel_rfl) (by kernel_rfl) (by kernel_rfl)) ?_
  intro W base args ds gs before hval0 hW hcnd _
  have hval : ∀ (j : Nat) t v, Try.f11.params[j]? = some t → args[j]? = some v → Value.okWide Try.prog W .any base t v := hval0
  have hW' := hW
  obtain ⟨p, q, hA0, hV, rfl, hfz, hnd⟩ := hW
  have hA : DataW.TrodAll enc Try.prog W 0 (fun _ => true) true Try.f11.params.toList args.toList ds p := hA0
  rw [Try.params11] at hA hval
  obtain ⟨v0, v1, d0, d1, p0, p1, hargs, rfl, rfl, j0, j1⟩ := trodAll_two hA
  obtain ⟨rfl, rfl⟩ := trodVars_none hV
  simp only [List.append_nil] at hW' hfz
  have z0 := (noneFrozen_left hfz)
  have z1 := (noneFrozen_right hfz)
  have hl : layB Try.prog [53, 48, 9, 46, 24, 22, 3, 51, 49] = true := by kernel_rfl
  obtain ⟨cs0, y0, b0, rfl, h0⟩ := opn_stm hl (by simp) (hval 0 _ v0 rfl (by rw [hargs]; rfl)) j0 z0
  obtain ⟨A2_0, c2_0, A5_0, c5_0, A8_0, c8_0, A9_0, c9_0, d2_0, d5_0, d8_0, d9_0, hc0, _⟩ := Rep.stm_iff.1 h0
  subst hc0
  obtain ⟨x1, rfl, rfl, rfl, u1⟩ := open_int Try.underlying3 (hval 1 _ v1 rfl (by rw [hargs]; rfl)) j1
  have h1 : I64 x1 := bounds_i64 u1
  subst hargs
  refine (FnExactStmtValid_walk h0).mono fun e W' ⟨he, hb⟩ => ?_
  subst he
  exact ⟨_, rfl, law_done rfl rfl hW' rfl rfl rfl hA0 (by decide +kernel) hb⟩

theorem proved : Rows.FnExactStmtValidSaid :=
  OpenClaim.holds_of_wide 11 Try.f11 rfl rfl rfl rfl rfl rfl rfl ⟨rfl, rfl, rfl, rfl, rfl⟩ rfl rfl rfl rfl rfl (by kernel_rfl) Try.func11 (by kernel_rfl)
    (of_decide_eq_true (by kernel_rfl)) (by unfold Func.isWrapper; first | (rw [if_pos (by decide +kernel)]; kernel_rfl) | (rw [if_neg (by decide +kernel)]; exact ⟨rfl, rfl⟩))
    (fun os started H enc _ => lifted os started H enc)

end Go.Proofs.Ytlllidhmohdgiaa.fnExactStmtValid
