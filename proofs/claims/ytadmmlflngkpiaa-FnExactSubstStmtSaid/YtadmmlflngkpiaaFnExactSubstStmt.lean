/- Proved: whatever its arguments, the law FnExactSubstStmt returns true and its arguments read afterwards as before: the program's SubstStmt returns what the reference's SubstStmt returns. No conditions. -/
import Derived.Test.YtadmmlflngkpiaaSubstStmtW
import Derived.Test.YtadmmlflngkpiaaWhole
import Derived.Test.YtadmmlflngkpiaaOps
set_option linter.all false
set_option linter.unusedSimpArgs false
set_option linter.unusedVariables false
namespace Go.Proofs.Ytadmmlflngkpiaa.fnExactSubstStmt
open Go.ChangeShapes Go.WideShapes Go.ChangeAt Go.RowKit Go.Deep

set_option maxRecDepth 100000 in
theorem lifted (os : Os) (started : os.Started) (H : Type) (enc : TypeId × Value → H) :
    ReturnsInHanded {} Try.checked os 6 .any (Rows.fnExactSubstStmtSpec.pre6 enc Try.prog Try.f6 Rows.fnExactSubstStmtRow.domain false) (Rows.fnExactSubstStmtSpec.post enc Try.prog Try.f6 false true false false) := by
  refine returnsInHanded_of_change (C := Try.checked) own started (by kernel_rfl) Try.func6
    (ChangeSpec.witness6 (enc := enc) (C := Try.checked) false ⟨#[], #[.agg #[.string ⟨#[]⟩, .slice none 0 0, .int .i64 0, .int .i64 0, .slice none 0 0, .int .i64 0, .string ⟨#[]⟩, .slice none 0 0, .slice none 0 0], .int .i64 0, .agg #[.slice none 0 0, .int .i64 0]], []⟩ 16 (by kernel_rfl) (by kernel_rfl) (by kernel_rfl) (by kernel_rfl)) ?_
  intro W base args ds gs before hval0 hW hcnd _
  have hval : ∀ (j : Nat) t v, Try.f6.params[j]? = some t → args[j]? = some v → Value.okWide Try.prog W .any base t v := hval0
  have hW' := hW
  obtain ⟨p, q, hA0, hV, rfl, hfz, hnd⟩ := hW
  have hA : DataW.TrodAll enc Try.prog W 0 (fun _ => true) true Try.f6.params.toList args.toList ds p := hA0
  rw [Try.params6] at hA hval
  obtain ⟨v0, v1, v2, d0, d1, d2, p0, p1, p2, hargs, rfl, rfl, j0, j1, j2⟩ := trodAll_three hA
  obtain ⟨rfl, rfl⟩ := trodVars_none hV
  simp only [List.append_nil] at hW' hfz
  have z0 := (noneFrozen_left (noneFrozen_left hfz))
  have z1 := (noneFrozen_right (noneFrozen_left hfz))
  have z2 := (noneFrozen_right hfz)
  have hl : layB Try.prog [41, 34, 9, 32, 36, 22, 3, 39, 37] = true := by kernel_rfl
  obtain ⟨cs0, y0, b0, rfl, h0⟩ := opn_stm hl (by simp) (hval 0 _ v0 rfl (by rw [hargs]; rfl)) j0 z0
  obtain ⟨A2_0, c2_0, A5_0, c5_0, A8_0, c8_0, A9_0, c9_0, d2_0, d5_0, d8_0, d9_0, hc0, _⟩ := Rep.stm_iff.1 h0
  subst hc0
  obtain ⟨x1, rfl, rfl, rfl, u1⟩ := open_int Try.underlying3 (hval 1 _ v1 rfl (by rw [hargs]; rfl)) j1
  have h1 : I64 x1 := bounds_i64 u1
  obtain ⟨cs2, y2, b2, rfl, h2⟩ := opn_aff hl (by simp) (hval 2 _ v2 rfl (by rw [hargs]; rfl)) j2 z2
  obtain ⟨A1_2, c1_2, d1_2, hc2, _⟩ := Rep.aff_iff2.1 h2
  subst hc2
  subst hargs
  refine (FnExactSubstStmt_walk h0 h2).mono fun e W' ⟨he, hb⟩ => ?_
  subst he
  exact ⟨_, rfl, law_done rfl rfl hW' rfl rfl rfl hA0 (by decide +kernel) hb⟩

theorem in_place : (Rows.fnExactSubstStmtRow.inPlace == Try.prog.inPlace 6) = true := by kernel_rfl
theorem unfollowed : (Rows.fnExactSubstStmtRow.unfollowed == Try.prog.unfollowed 6) = true := by kernel_rfl
theorem recurses : (Rows.fnExactSubstStmtRow.recurses == Try.prog.recurses 6) = true := by kernel_rfl
theorem vars_named : (Rows.fnExactSubstStmtRow.named == Try.prog.varsNamed 6) = true := by kernel_rfl
theorem lifts : (Rows.fnExactSubstStmtRow.lifted == Try.prog.liftsFinal) = true := whole_lifts
theorem makes : (Try.prog.make == some Rows.fnExactSubstStmtRow.make) = true := whole_make
theorem keys : (Rows.fnExactSubstStmtRow.plainKeys == Try.prog.plainKeys) = true := whole_keys
theorem closed : joinedFacts Try.prog 6 Try.f6 Rows.fnExactSubstStmtSpec Rows.fnExactSubstStmtRow = true := by
  simp only [joinedFacts, whole_laid, whole_maps, whole_stops, whole_knobs, whole_heard, whole_enter, in_place, unfollowed, recurses, vars_named, lifts, makes, keys, Bool.true_and, Bool.and_true]
  kernel_rfl
theorem proved : Rows.FnExactSubstStmtSaid :=
  OpenClaim.holds_of_wide 6 Try.f6 rfl rfl rfl rfl rfl rfl rfl ⟨rfl, rfl, rfl, rfl, rfl⟩ rfl rfl rfl rfl rfl (by kernel_rfl) Try.func6 closed
    (of_decide_eq_true (by kernel_rfl)) (by unfold Func.isWrapper; first | (rw [if_pos (by decide +kernel)]; kernel_rfl) | (rw [if_neg (by decide +kernel)]; exact ⟨rfl, rfl⟩))
    (fun os started H enc _ => lifted os started H enc)

end Go.Proofs.Ytadmmlflngkpiaa.fnExactSubstStmt
