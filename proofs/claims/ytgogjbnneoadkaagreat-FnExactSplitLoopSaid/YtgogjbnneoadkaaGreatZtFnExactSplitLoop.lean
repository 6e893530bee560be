/- Proved: whatever its arguments, the law FnExactSplitLoop returns true and its arguments read afterwards as before: the program's SplitLoop returns what the reference's SplitLoop returns. No conditions. -/
import Derived.Test.YtgogjbnneoadkaaGreatRows
import Derived.Test.YtgogjbnneoadkaaGreatChecked
import Derived.ProofKit
import Derived.JoinedOf
import Derived.Test.YtgogjbnneoadkaaGreatZtLaw
import Derived.Test.YtgogjbnneoadkaaGreatZtTyAffine
import Derived.Test.YtgogjbnneoadkaaGreatZtTyLoop
import Derived.Test.YtgogjbnneoadkaaGreatZtTyAccess
import Derived.Test.YtgogjbnneoadkaaGreatZtTyExpr
import Derived.Test.YtgogjbnneoadkaaGreatZtTyStmt
import Derived.Test.YtgogjbnneoadkaaGreatZtTyArray
import Derived.Test.YtgogjbnneoadkaaGreatZtTyPart
import Derived.Test.YtgogjbnneoadkaaGreatZtTyProgram
import Derived.Test.YtgogjbnneoadkaaGreatZtBasic
import Derived.Test.YtgogjbnneoadkaaGreatZtSplitLoopW
set_option linter.all false
set_option maxRecDepth 100000
namespace Go.Proofs.YtgogjbnneoadkaaGreat
open Go.RowKit
theorem whole_laid : laidOutB Tryz.prog = true := by kernel_rfl
theorem whole_maps : mapsRowed Tryz.prog = true := by kernel_rfl
theorem whole_stops : (Tryz.prog.stops == []) = true := by kernel_rfl
theorem whole_knobs : (Tryz.prog.stopKnobs == []) = true := by kernel_rfl
theorem whole_heard : Tryz.prog.stopsHeard = true := by kernel_rfl
theorem whole_enter : Tryz.prog.mayEnter = true := by kernel_rfl
theorem whole_lifts : (Rows.fnExactSplitLoopRow.lifted == Tryz.prog.liftsFinal) = true := by kernel_rfl
theorem whole_make : (Tryz.prog.make == some Rows.fnExactSplitLoopRow.make) = true := by kernel_rfl
theorem whole_keys : (Rows.fnExactSplitLoopRow.plainKeys == Tryz.prog.plainKeys) = true := by kernel_rfl
end Go.Proofs.YtgogjbnneoadkaaGreat
namespace Go.Proofs.YtgogjbnneoadkaaGreat
open Go.ChangeShapes Go.WideShapes Go.ChangeAt Go.RowKit Go.Deep
theorem hasTy_aff (d : D) (h : HasTy Tryz.prog 202 d) : ∃ x : Aff, d = x.d := by
 obtain ⟨fs, rfl, hq⟩ := hasTy_st Tryz.underlying202 h
 obtain ⟨d1, r1, rfl, q1, hq⟩ := hasTys_cons hq
 obtain ⟨d2, r2, rfl, q2, hq⟩ := hasTys_cons hq
 obtain rfl := hasTys_nil hq
 obtain ⟨x1, rfl⟩ := hasTy_ints Tryz.underlying39 Tryz.underlying3 q1
 obtain ⟨x2, rfl⟩ := hasTy_int Tryz.underlying3 q2
 exact ⟨⟨x1, x2⟩, rfl⟩
theorem hasTy_lp (d : D) (h : HasTy Tryz.prog 198 d) : ∃ x : Lp, d = x.d := by
 obtain ⟨fs, rfl, hq⟩ := hasTy_st Tryz.underlying198 h
 obtain ⟨d1, r1, rfl, q1, hq⟩ := hasTys_cons hq
 obtain ⟨d2, r2, rfl, q2, hq⟩ := hasTys_cons hq
 obtain rfl := hasTys_nil hq
 obtain ⟨x1, rfl⟩ := hasTy_sl Tryz.underlying196 hasTy_aff q1
 obtain ⟨x2, rfl⟩ := hasTy_sl Tryz.underlying196 hasTy_aff q2
 exact ⟨⟨x1, x2⟩, rfl⟩
theorem hasTy_acc (d : D) (h : HasTy Tryz.prog 201 d) : ∃ x : Acc, d = x.d := by
 obtain ⟨fs, rfl, hq⟩ := hasTy_st Tryz.underlying201 h
 obtain ⟨d1, r1, rfl, q1, hq⟩ := hasTys_cons hq
 obtain ⟨d2, r2, rfl, q2, hq⟩ := hasTys_cons hq
 obtain rfl := hasTys_nil hq
 obtain ⟨x1, rfl⟩ := hasTy_str Tryz.underlying9 q1
 obtain ⟨x2, rfl⟩ := hasTy_sl Tryz.underlying196 hasTy_aff q2
 exact ⟨⟨x1, x2⟩, rfl⟩
theorem hasTy_ex_n (n : Nat) : ∀ d : D, SizeOf.sizeOf d ≤ n → HasTy Tryz.prog 205 d → ∃ x : Ex, d = x.d := by
 induction n with
 | zero => intro d hd; cases d <;> simp at hd
 | succ n ih =>
 intro d hd h
 obtain ⟨fs, rfl, hq⟩ := hasTy_st Tryz.underlying205 h
 obtain ⟨d1, r1, rfl, q1, hq⟩ := hasTys_cons hq
 obtain ⟨d2, r2, rfl, q2, hq⟩ := hasTys_cons hq
 obtain ⟨d3, r3, rfl, q3, hq⟩ := hasTys_cons hq
 obtain ⟨d4, r4, rfl, q4, hq⟩ := hasTys_cons hq
 obtain ⟨d5, r5, rfl, q5, hq⟩ := hasTys_cons hq
 obtain rfl := hasTys_nil hq
 obtain ⟨x1, rfl⟩ := hasTy_int Tryz.underlying3 q1
 obtain ⟨x2, rfl⟩ := hasTy_int Tryz.underlying3 q2
 obtain ⟨x3, rfl⟩ := hasTy_aff _ q3
 obtain ⟨x4, rfl⟩ := hasTy_acc _ q4
 obtain ⟨x5, rfl⟩ := hasTy_sl_mem (f := Ex.d) Tryz.underlying203 (fun xs hxs y hy hty => ih y (by subst hxs; have := List.sizeOf_lt_of_mem hy; simp at hd; omega) hty) q5
 exact ⟨⟨x1, x2, x3, x4, x5⟩, by rw [Ex.d_eq]; rfl⟩
theorem hasTy_ex (d : D) (h : HasTy Tryz.prog 205 d) : ∃ x : Ex, d = x.d := hasTy_ex_n _ d (Nat.le_refl _) h
theorem hasTy_stm (d : D) (h : HasTy Tryz.prog 207 d) : ∃ x : Stm, d = x.d := by
 obtain ⟨fs, rfl, hq⟩ := hasTy_st Tryz.underlying207 h
 obtain ⟨d1, r1, rfl, q1, hq⟩ := hasTys_cons hq
 obtain ⟨d2, r2, rfl, q2, hq⟩ := hasTys_cons hq
 obtain rfl := hasTys_nil hq
 obtain ⟨x1, rfl⟩ := hasTy_acc _ q1
 obtain ⟨x2, rfl⟩ := hasTy_ex _ q2
 exact ⟨⟨x1, x2⟩, rfl⟩
theorem hasTy_ar (d : D) (h : HasTy Tryz.prog 115 d) : ∃ x : Ar, d = x.d := by
 obtain ⟨fs, rfl, hq⟩ := hasTy_st Tryz.underlying115 h
 obtain ⟨d1, r1, rfl, q1, hq⟩ := hasTys_cons hq
 obtain ⟨d2, r2, rfl, q2, hq⟩ := hasTys_cons hq
 obtain rfl := hasTys_nil hq
 obtain ⟨x1, rfl⟩ := hasTy_str Tryz.underlying9 q1
 obtain ⟨x2, rfl⟩ := hasTy_ints Tryz.underlying39 Tryz.underlying3 q2
 exact ⟨⟨x1, x2⟩, rfl⟩
theorem hasTy_prt (d : D) (h : HasTy Tryz.prog 120 d) : ∃ x : Prt, d = x.d := by
 obtain ⟨fs, rfl, hq⟩ := hasTy_st Tryz.underlying120 h
 obtain ⟨d1, r1, rfl, q1, hq⟩ := hasTys_cons hq
 obtain ⟨d2, r2, rfl, q2, hq⟩ := hasTys_cons hq
 obtain rfl := hasTys_nil hq
 obtain ⟨x1, rfl⟩ := hasTy_sl Tryz.underlying117 hasTy_lp q1
 obtain ⟨x2, rfl⟩ := hasTy_sl Tryz.underlying118 hasTy_stm q2
 exact ⟨⟨x1, x2⟩, rfl⟩
theorem hasTy_pgm (d : D) (h : HasTy Tryz.prog 25 d) : ∃ x : Pgm, d = x.d := by
 obtain ⟨fs, rfl, hq⟩ := hasTy_st Tryz.underlying25 h
 obtain ⟨d1, r1, rfl, q1, hq⟩ := hasTys_cons hq
 obtain ⟨d2, r2, rfl, q2, hq⟩ := hasTys_cons hq
 obtain rfl := hasTys_nil hq
 obtain ⟨x1, rfl⟩ := hasTy_sl Tryz.underlying22 hasTy_ar q1
 obtain ⟨x2, rfl⟩ := hasTy_sl Tryz.underlying23 hasTy_prt q2
 exact ⟨⟨x1, x2⟩, rfl⟩
theorem opn_pgm {H : Type} {enc : TypeId × Value → H} {W : World} {L : List TypeId} {base b0 : Nat} {spare : Nat → Bool} {held : Bool} {r : Reach} (hL : layB Tryz.prog L = true) (ht : 25 ∈ L) {v : Value} {d : DataW H} {p : List MemPlace}
  (hv : Value.okWide Tryz.prog W r b0 25 v) (h : DataW.Trod enc Tryz.prog W base spare held 25 v d p) (hz : W.noneFrozen p) :
  ∃ cs, ∃ y : Pgm, ∃ bs, v = .agg cs.toArray ∧ Rep W y.d cs bs := by
 obtain ⟨cs, fs, bs, rfl, h1, h2⟩ := open_st hL ht Tryz.underlying25 hv h hz
 obtain ⟨y, hy⟩ := hasTy_pgm (.st fs) ⟨_, Tryz.underlying25, h2⟩
 rw [hy] at h1
 exact ⟨cs, y, bs, rfl, h1⟩
end Go.Proofs.YtgogjbnneoadkaaGreat
namespace Go.Proofs.YtgogjbnneoadkaaGreat.fnExactSplitLoop
open Go.ChangeShapes Go.WideShapes Go.ChangeAt Go.RowKit Go.Deep
theorem lifted (os : Os) (started : os.Started) (H : Type) (enc : TypeId × Value → H) :
  ReturnsInHanded {} Tryz.checked os 3 .any (Rows.fnExactSplitLoopSpec.pre6 enc Tryz.prog Tryz.f3 Rows.fnExactSplitLoopRow.domain false) (Rows.fnExactSplitLoopSpec.post enc Tryz.prog Tryz.f3 false true false false) := by
 refine returnsInHanded_of_change (C := Tryz.checked) own started (by kernel_rfl) Tryz.func3
  (ChangeSpec.witness6 (enc := enc) (C := Tryz.checked) false ⟨#[], #[.agg #[.slice none 0 0, .slice none 0 0], .int .i64 0, .int .i64 0], []⟩ 16 (by kernel_rfl) (by kernel_rfl) (by kernel_rfl) (by kernel_rfl)) ?_
 intro W base args ds gs before hval0 hW hcnd _
 have hval : ∀ (j : Nat) t v, Tryz.f3.params[j]? = some t → args[j]? = some v → Value.okWide Tryz.prog W .any base t v := hval0
 have hW' := hW
 obtain ⟨p, q, hA0, hV, rfl, hfz, hnd⟩ := hW
 have hA : DataW.TrodAll enc Tryz.prog W 0 (fun _ => true) true Tryz.f3.params.toList args.toList ds p := hA0
 rw [Tryz.params3] at hA hval
 obtain ⟨v0, v1, v2, d0, d1, d2, p0, p1, p2, hargs, rfl, rfl, j0, j1, j2⟩ := trodAll_three hA
 obtain ⟨rfl, rfl⟩ := trodVars_none hV
 simp only [List.append_nil] at hW' hfz
 have z0 := (noneFrozen_left (noneFrozen_left hfz))
 have z1 := (noneFrozen_right (noneFrozen_left hfz))
 have z2 := (noneFrozen_right hfz)
 have hl : layB Tryz.prog [25, 22, 115, 9, 39, 3, 23, 120, 117, 198, 196, 202, 118, 207, 201, 205, 203] = true := by kernel_rfl
 obtain ⟨cs0, y0, b0, rfl, h0⟩ := opn_pgm hl (by simp) (hval 0 _ v0 rfl (by rw [hargs]; rfl)) j0 z0
 obtain ⟨A1_0, c1_0, A2_0, c2_0, d1_0, d2_0, hc0, _⟩ := Rep.pgm_iff.1 h0
 subst hc0
 obtain ⟨x1, rfl, rfl, rfl, u1⟩ := open_int Tryz.underlying3 (hval 1 _ v1 rfl (by rw [hargs]; rfl)) j1
 have h1 : I64 x1 := bounds_i64 u1
 obtain ⟨x2, rfl, rfl, rfl, u2⟩ := open_int Tryz.underlying3 (hval 2 _ v2 rfl (by rw [hargs]; rfl)) j2
 have h2 : I64 x2 := bounds_i64 u2
 subst hargs
 refine (FnExactSplitLoop_walk h0).mono fun e W' ⟨he, hb⟩ => ?_
 subst he
 exact ⟨_, rfl, law_done rfl rfl hW' rfl rfl rfl hA0 (by decide +kernel) hb⟩
theorem in_place : (Rows.fnExactSplitLoopRow.inPlace == Tryz.prog.inPlace 3) = true := by kernel_rfl
theorem unfollowed : (Rows.fnExactSplitLoopRow.unfollowed == Tryz.prog.unfollowed 3) = true := by kernel_rfl
theorem recurses : (Rows.fnExactSplitLoopRow.recurses == Tryz.prog.recurses 3) = true := by kernel_rfl
theorem vars_named : (Rows.fnExactSplitLoopRow.named == Tryz.prog.varsNamed 3) = true := by kernel_rfl
theorem lifts : (Rows.fnExactSplitLoopRow.lifted == Tryz.prog.liftsFinal) = true := whole_lifts
theorem makes : (Tryz.prog.make == some Rows.fnExactSplitLoopRow.make) = true := whole_make
theorem keys : (Rows.fnExactSplitLoopRow.plainKeys == Tryz.prog.plainKeys) = true := whole_keys
theorem closed : joinedFacts Tryz.prog 3 Tryz.f3 Rows.fnExactSplitLoopSpec Rows.fnExactSplitLoopRow = true := by
 simp only [joinedFacts, whole_laid, whole_maps, whole_stops, whole_knobs, whole_heard, whole_enter, in_place, unfollowed, recurses, vars_named, lifts, makes, keys, Bool.true_and, Bool.and_true]
 kernel_rfl
theorem proved : Rows.FnExactSplitLoopSaid :=
 OpenClaim.holds_of_wide 3 Tryz.f3 rfl rfl rfl rfl rfl rfl rfl ⟨rfl, rfl, rfl, rfl, rfl⟩ rfl rfl rfl rfl rfl (by kernel_rfl) Tryz.func3 closed
  (of_decide_eq_true (by kernel_rfl)) (by unfold Func.isWrapper; first | (rw [if_pos (by decide +kernel)]; kernel_rfl) | (rw [if_neg (by decide +kernel)]; exact ⟨rfl, rfl⟩))
  (fun os started H enc _ => lifted os started H enc)
end Go.Proofs.YtgogjbnneoadkaaGreat.fnExactSplitLoop
