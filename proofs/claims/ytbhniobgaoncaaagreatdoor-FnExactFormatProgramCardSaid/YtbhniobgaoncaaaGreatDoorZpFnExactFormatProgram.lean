/- Proved: whatever its arguments, the law FnExactFormatProgram returns true and its arguments read afterwards as before: the program's FormatProgram returns what the reference's FormatProgram returns. No conditions. -/
import Derived.Test.YtbhniobgaoncaaaGreatDoorZpLaw
import Derived.Test.YtbhniobgaoncaaaGreatDoorZpBasic
import Derived.Test.YtbhniobgaoncaaaGreatDoorZpFmtP
import Derived.Test.YtbhniobgaoncaaaGreatDoorZpTyProgram
import Derived.Test.YtbhniobgaoncaaaGreatDoorZpOps
import Derived.Test.YtbhniobgaoncaaaGreatDoorRows
import Derived.Test.YtbhniobgaoncaaaGreatDoorChecked
import Derived.ProofKit
import Derived.JoinedOf
import Derived.Test.YtbhniobgaoncaaaGreatDoorCards
import Derived.Test.YtbhniobgaoncaaaGreatDoorTie
import Derived.LaidMore
import Derived.SevenTiedAt
set_option linter.all false
set_option linter.unusedSimpArgs false
set_option linter.unusedVariables false
namespace Go.Proofs.YtbhniobgaoncaaaGreatDoor
open Go.ChangeShapes Go.WideShapes Go.ChangeAt Go.RowKit Go.Deep

set_option maxRecDepth 100000 in
set_option maxHeartbeats 2000000 in
theorem FnExactFormatProgram_walk {w : World} {x0 : Pgm} {A1_0 : Option Addr} {c1_0 : Nat} {A2_0 : Option Addr} {c2_0 : Nat} {bs0 : List Nat} (h0 : Rep w x0.d [.slice A1_0 x0.arrays.length c1_0, .slice A2_0 x0.parts.length c2_0] bs0) :
    Calls Tryz.prog 3 #[.agg #[.slice A1_0 x0.arrays.length c1_0, .slice A2_0 x0.parts.length c2_0]] w fun e w' => e = .returned (.bool true) ∧ Below w.heap.size w w' := by
  have H0 := Lib.hid h0; clear h0
  by_cases hs0 : (1048576 : Int) - ((szD x0.d : Nat) : Int) < 0
  · have HS0 := Lib.hid (szR_neg hs0)
    go_enter Tryz.func3, Tryz.ntmps3
    go_wp2_with fail
    refine (szProgram_t (H0.out.below bel) (by omega) (by omega)).mono ?_
    rintro e v1 ⟨rfl, bv1⟩
    rw [HS0.out]
    go_wp2
    go_ret
    exact ⟨rfl, bel⟩
  · have HS0 := Lib.hid (szR_pos (left := 1048576) (tot := szD x0.d) (by omega))
    have HN0 := Lib.hid (show szD x0.d ≤ 1048576 by omega)
    have hl0 : 0 ≤ (1048576 : Int) - ((szD x0.d : Nat) : Int) := by omega
    clear hs0
    go_enter Tryz.func3, Tryz.ntmps3
    have TA0 := Lib.hid (Rep.lt _ H0.out)
    go_wp2_with fail
    refine (szProgram_t (H0.out.below bel) (by omega) (by omega)).mono ?_
    rintro e w1 ⟨rfl, b1⟩
    rw [HS0.out]
    have P0_1n := (Box2.new w _ _ _).to b1
    have s1 : Below w.heap.size w w1 := bel
    have RA0_1 := Lib.hid (H0.out.below s1); clear H0
    have S1 : Below w.heap.size w w1 := s1
    have Z1 := Lib.hid (s1.size)
    have LP0 := Lib.hid (lt_of_cell P0_1n.1)
    go_wp2_with fail
    refine (toProgram_m (RA0_1.out.below bel) HN0.out).mono ?_
    rintro e w2 ⟨A1_2, c1_2, A2_2, c2_2, bs2, rfl, r2, nd2, hb2, b2⟩
    have Tc0 := Lib.hid (show ∀ y ∈ bs2, w1.heap.size + 0 ≤ y ∧ y < w2.heap.size from fun y hy => ⟨by have := hb2 y hy; (try simp at this); omega, Rep.lt _ r2 y hy⟩)
    have P0_2 := P0_1n.to b2; clear P0_1n
    have RA0_2 := Lib.hid (RA0_1.out.below b2); clear RA0_1
    have S2 : Below w.heap.size w w2 := below_tr S1 b2
    have Z2 := Lib.hid (b2.size)
    have r2h := Lib.hid r2; clear r2 hb2
    clear nd2
    go_wp2_with fail
    refine (specFormatProgram_c (r2h.out.below bel)).mono ?_
    rintro e w3 ⟨rfl, b3⟩
    have P0_3 := P0_2.to b3; clear P0_2
    have RA0_3 := Lib.hid (RA0_2.out.below b3); clear RA0_2
    have Rc0_3 := Lib.hid (r2h.out.below b3); clear r2h
    have S3 : Below w.heap.size w w3 := below_tr S2 b3
    have Z3 := Lib.hid (b3.size)
    go_wp2_with fail
    refine (toProgram_m (RA0_3.out.below bel) HN0.out).mono ?_
    rintro e w4 ⟨A1_4, c1_4, A2_4, c2_4, bs4, rfl, r4, nd4, hb4, b4⟩
    have Tx0 := Lib.hid (show ∀ y ∈ bs4, w3.heap.size + 0 ≤ y ∧ y < w4.heap.size from fun y hy => ⟨by have := hb4 y hy; (try simp at this); omega, Rep.lt _ r4 y hy⟩)
    have P0_4 := P0_3.to b4; clear P0_3
    have RA0_4 := Lib.hid (RA0_3.out.below b4); clear RA0_3
    have S4 : Below w.heap.size w w4 := below_tr S3 b4
    have Z4 := Lib.hid (b4.size)
    have r4h := Lib.hid r4; clear r4 hb4
    have ltP0_4 := lt_of_cell P0_4.1
    go_wp2_with fail
    refine (implFormatProgram_c (r4h.out.below bel)).mono ?_
    rintro e w5 ⟨rfl, b5⟩
    have X0_5n := (Box2.new w4 _ _ _).to b5
    have s5 : Below w4.heap.size w4 w5 := bel
    have P0_5 := P0_4.to s5; clear P0_4
    have RA0_5 := Lib.hid (RA0_4.out.below s5); clear RA0_4
    have Rx0_5 := Lib.hid (r4h.out.below s5); clear r4h
    have S5 : Below w.heap.size w w5 := below_tr S4 s5
    have Z5 := Lib.hid (s5.size)
    have LX0 := Lib.hid (lt_of_cell X0_5n.1)
    go_wp2_with fail
    go_region_held3 (fun w' => Box2 w' w.heap.size (.slice A1_0 x0.arrays.length c1_0) (.slice A2_0 x0.parts.length c2_0) ∧ Box2 w' w4.heap.size (.slice A1_4 x0.arrays.length c1_4) (.slice A2_4 x0.parts.length c2_4)) (first | exact ⟨P0_5, X0_5n⟩ | exact ⟨P0_5.to (of_drew b6), X0_5n.to (of_drew b6)⟩ | exact ⟨(P0_5.to (of_drew b6)).to b7, (X0_5n.to (of_drew b6)).to b7⟩ | skip)
      (first | (go_at_call 9; refine (toProgram_m (RA0_5.out.below (Below.refl _ _).drew) HN0.out).mono ?_; rintro e w6 ⟨A1_6, c1_6, A2_6, c2_6, bs6, rfl, r6, nd6, hb6, b6⟩) | (go_at_call 11; refine (eqProgram_c (Rx0_5.out.below (of_drew b6)) r6).mono ?_; rintro e w7 ⟨rfl, b7⟩))
    have t7 : Below w5.heap.size w5 w7 := below_tr (of_drew b6) b7
    clear b6 b7 r6 hb6 nd6
    have P0_7 := P0_5.to t7; clear P0_5
    have X0_7 := X0_5n.to t7; clear X0_5n
    have RA0_7 := Lib.hid (RA0_5.out.below t7); clear RA0_5
    have Rx0_7 := Lib.hid (Rx0_5.out.below t7); clear Rx0_5
    have S7 : Below w.heap.size w w7 := below_tr S5 t7
    have Z7 := Lib.hid (t7.size)
    go_wp2
    go_ret
    exact ⟨rfl, S7⟩
end Go.Proofs.YtbhniobgaoncaaaGreatDoor
set_option linter.all false
set_option linter.unusedSimpArgs false
set_option linter.unusedVariables false
namespace Go.Proofs.YtbhniobgaoncaaaGreatDoor
open Go.RowKit

theorem whole_laid : laidOutB Tryz.prog = true := by kernel_rfl
theorem whole_maps : mapsRowed Tryz.prog = true := by kernel_rfl
theorem whole_stops : (Tryz.prog.stops == []) = true := by kernel_rfl
theorem whole_knobs : (Tryz.prog.stopKnobs == []) = true := by kernel_rfl
theorem whole_heard : Tryz.prog.stopsHeard = true := by kernel_rfl
theorem whole_enter : Tryz.prog.mayEnter = true := by kernel_rfl
theorem whole_lifts : (Rows.fnExactFormatProgramRow.lifted == Tryz.prog.liftsFinal) = true := by kernel_rfl
theorem whole_make : (Tryz.prog.make == some Rows.fnExactFormatProgramRow.make) = true := by kernel_rfl
theorem whole_keys : (Rows.fnExactFormatProgramRow.plainKeys == Tryz.prog.plainKeys) = true := by kernel_rfl
end Go.Proofs.YtbhniobgaoncaaaGreatDoor
set_option linter.all false
set_option linter.unusedSimpArgs false
set_option linter.unusedVariables false
namespace Go.Proofs.YtbhniobgaoncaaaGreatDoor.fnExactFormatProgram
open Go.ChangeShapes Go.WideShapes Go.ChangeAt Go.RowKit Go.Deep

theorem door_met (os : Os) (args : Array Value) : laidMetH Tryz.prog Rows.fnExactFormatProgramRow.laid ((World.doorLaid Tryz.prog 72 os).forCall (fun _ _ => 0) ⟨#[], args, []⟩).memory :=
  laidMetH_of_parts3 (fuel := 8) (laidMet_of_run' 8 (by kernel_rfl) (by kernel_rfl)) (by kernel_rfl) (by kernel_rfl)
set_option maxRecDepth 100000 in
theorem lifted (os : Os) (started : os.Started) (H : Type) (enc : TypeId × Value → H) :
    ReturnsInHanded {} Tryz.checked os 3 .any (fun w args => (Rows.fnExactFormatProgramSpec.pre enc Tryz.prog Tryz.f3 [] false w args ∧ laidMetH Tryz.prog Rows.fnExactFormatProgramRow.laid w) ∧ sizedMet enc Tryz.prog Tryz.f3 (OpenSpec.ofChange Rows.fnExactFormatProgramSpec) false w args) (Rows.fnExactFormatProgramSpec.post enc Tryz.prog Tryz.f3 false true false false) := by
  refine returnsInHanded_of_change_and (C := Tryz.checked) (X := fun w _ => laidMetH Tryz.prog Rows.fnExactFormatProgramRow.laid w) (fun _ _ _ hh h => h.of_heap hh) own started (by kernel_rfl) Tryz.func3
    (ChangeSpec.witness_shaped (enc := enc) (C := Tryz.checked) (os := os) (X := fun w _ => laidMetH Tryz.prog Rows.fnExactFormatProgramRow.laid w) false (World.doorLaid Tryz.prog 72 os) #[.agg #[.slice none 0 0, .slice none 0 0]] 16 rfl (World.shaped_of_RefB (by kernel_rfl) (by kernel_rfl)) (by kernel_rfl) (by kernel_rfl) (by kernel_rfl) (door_met os _)) ?_
  intro W base args ds gs before hval0 hW hcnd hreach hL hmore
  have hval : ∀ (j : Nat) t v, Tryz.f3.params[j]? = some t → args[j]? = some v → Value.okWide Tryz.prog W .any base t v := hval0
  have hW' := hW
  obtain ⟨p, q, hA0, hV, rfl, hfz, hnd⟩ := hW
  have hA : DataW.TrodAll enc Tryz.prog W 0 (fun _ => true) true Tryz.f3.params.toList args.toList ds p := hA0
  rw [Tryz.params3] at hA hval
  obtain ⟨v0, d0, hargs, rfl, j0⟩ := trodAll_one hA
  have z0 := hfz
  obtain ⟨rfl, rfl⟩ := trodVars_none hV
  simp only [List.append_nil] at hW' hfz z0
  have hl : layB Tryz.prog [25, 22, 106, 9, 44, 3, 23, 111, 108, 195, 193, 199, 109, 204, 198, 202, 200] = true := by kernel_rfl
  obtain ⟨cs0, y0, b0, rfl, h0⟩ := opn_pgm hl (by simp) (hval 0 _ v0 rfl (by rw [hargs]; rfl)) j0 z0
  obtain ⟨A1_0, c1_0, A2_0, c2_0, d1_0, d2_0, hc0, _⟩ := Rep.pgm_iff.1 h0
  subst hc0
  subst hargs
  refine (FnExactFormatProgram_walk h0).mono fun e W' ⟨he, hb⟩ => ?_
  subst he
  exact ⟨_, rfl, law_done rfl rfl hW' rfl rfl rfl hA0 (by decide +kernel) hb⟩

theorem in_place : (Rows.fnExactFormatProgramRow.inPlace == Tryz.prog.inPlace 3) = true := by kernel_rfl
theorem unfollowed : (Rows.fnExactFormatProgramRow.unfollowed == Tryz.prog.unfollowed 3) = true := by kernel_rfl
theorem recurses : (Rows.fnExactFormatProgramRow.recurses == Tryz.prog.recurses 3) = true := by kernel_rfl
theorem vars_named : (Rows.fnExactFormatProgramRow.named == Tryz.prog.varsNamed 3) = true := by kernel_rfl
theorem lifts : (Rows.fnExactFormatProgramRow.lifted == Tryz.prog.liftsFinal) = true := whole_lifts
theorem makes : (Tryz.prog.make == some Rows.fnExactFormatProgramRow.make) = true := whole_make
theorem keys : (Rows.fnExactFormatProgramRow.plainKeys == Tryz.prog.plainKeys) = true := whole_keys
theorem closed : joinedFacts Tryz.prog 3 Tryz.f3 Rows.fnExactFormatProgramSpec Rows.fnExactFormatProgramRow = true := by
  simp only [joinedFacts, whole_laid, whole_maps, whole_stops, whole_knobs, whole_heard, whole_enter, in_place, unfollowed, recurses, vars_named, lifts, makes, keys, Bool.true_and, Bool.and_true]
  kernel_rfl
theorem proved : Rows.FnExactFormatProgramSaid :=
  OpenClaim.holds_of_wide 3 Tryz.f3 rfl rfl rfl rfl rfl rfl rfl ⟨rfl, rfl, rfl, rfl, rfl⟩ rfl rfl rfl rfl rfl (by kernel_rfl) Tryz.func3 closed
    (of_decide_eq_true (by kernel_rfl)) (by unfold Func.isWrapper; first | (rw [if_pos (by decide +kernel)]; kernel_rfl) | (rw [if_neg (by decide +kernel)]; exact ⟨rfl, rfl⟩))
    (fun os started H enc _ => lifted os started H enc)

theorem plain (g : FuncId) (fn : Func) (hg : Tryz.pinned.checked.prog.funcNamed Rows.fnExactFormatProgramRow.func = some g) (hfn : Tryz.pinned.checked.prog.funcs[g]? = some fn) :
    true = Tryz.pinned.checked.prog.looks [] ∧ ∀ (j : Nat) t, fn.params[j]? = some t → Tryz.pinned.checked.prog.wantsStandIn t = false := by
  obtain rfl : g = 3 := Option.some.inj ((show Tryz.prog.funcNamed Rows.fnExactFormatProgramRow.func = some 3 by kernel_rfl).symm.trans hg) |>.symm
  obtain rfl : fn = Tryz.f3 := (Option.some.inj (Tryz.func3.symm.trans hfn)).symm
  refine ⟨by kernel_rfl, fun j t ht => ?_⟩
  rw [Tryz.params3] at ht
  have hm : t ∈ [25] := by simpa using Array.mem_of_getElem? ht
  have hall : ([25].all fun u => !Tryz.prog.wantsStandIn u) = true := by kernel_rfl
  exact (show Tryz.prog.wantsStandIn t = false by simpa using List.all_eq_true.1 hall t hm)
theorem card : Rows.FnExactFormatProgramCardSaid :=
  Claim7.holds_tied_plain_at .later [] _ _ _ _ proved (fun _ h => by cases h) (by kernel_rfl) (fun _ h => by cases h) fnExactFormatProgram_row_tie rfl ⟨rfl, rfl⟩ (by kernel_rfl) rfl plain (by kernel_rfl)

end Go.Proofs.YtbhniobgaoncaaaGreatDoor.fnExactFormatProgram
