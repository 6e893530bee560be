/- Equality of programs: l4SamePart, ProgramSame of the reference; ProgramSame of the program. -/
import Derived.Test.YtlllidhmohdgiaaStmtSame
import Derived.Test.YtlllidhmohdgiaaTyProgram
import Derived.Test.YtlllidhmohdgiaaSqArray
import Derived.Test.YtlllidhmohdgiaaSqStmt
import Derived.Test.YtlllidhmohdgiaaSqPart
set_option linter.all false
set_option linter.unusedSimpArgs false
set_option linter.unusedVariables false
namespace Go.Proofs.Ytlllidhmohdgiaa
open Go.ChangeShapes Go.WideShapes Go.ChangeAt Go.RowKit Go.Deep

def arSame (a b : Ar) : Bool := decide (a.name.toList = b.name.toList) && decide (a.dims = b.dims)
def prtSame (a b : Prt) : Bool := NestSameF a.nest b.nest && allEq StmtSameF a.body b.body
def ProgramSameF (a b : Pgm) : Bool := allEq arSame a.arrays b.arrays && allEq prtSame a.parts b.parts

theorem progSame1_c {w : World} {x y : Ar} {cs cs' : List Value} {bs bs' : List Nat} (h : Rep w x.d cs bs) (h' : Rep w y.d cs' bs') :
    Calls Try.prog 114 (#[.agg cs.toArray, .agg cs'.toArray] ++ #[]) w fun e w' => e = .returned (.bool (arSame x y)) ∧ Below w.heap.size w w' := by
  show Calls Try.prog 114 #[.agg cs.toArray, .agg cs'.toArray] w _
  have HX := Lib.hid (show arSame x y = (decide (x.name.toList = y.name.toList) && decide (x.dims = y.dims)) from rfl)
  obtain ⟨A2, c2, d2, rfl, rfl, g1, g2⟩ := Rep.ar_iff.1 h
  have Gname := Lib.hid g1
  have Gdims := Lib.hid g2
  clear h g1 g2
  obtain ⟨A2', c2', d2', rfl, rfl, g1', g2'⟩ := Rep.ar_iff.1 h'
  have Gname' := Lib.hid g1'
  have Gdims' := Lib.hid g2'
  clear h' g1' g2'
  go_enter Try.func114, Try.ntmps114
  by_cases hp_ : x.name.toList = y.name.toList
  case neg =>
    have HF_ := Lib.hid (HX.out.trans (by rw [decide_eq_false hp_, Bool.false_and]))
    go_wp2
    go_ret
    exact ⟨ret_bool HF_.out.symm, (by repeat (first | with_reducible exact Below.refl _ _ | refine Below.setCell ?_ (by simp; try omega) _ | refine below_al ?_ _ | refine Below.alloc ?_ (by simp [World.setCell]; try omega) _ | refine below_drewN ?_ _ | refine Below.drew ?_ | refine below_tr ?_ ‹Below _ _ _›))⟩
  have HX1 := Lib.hid (HX.out.trans (by rw [decide_eq_true hp_, Bool.true_and])); have hdHX1 := hp_; clear hp_
  go_wp2_with fail
  refine (drewB (Equal_int_c (Gdims.out.below (by repeat (first | with_reducible exact Below.refl _ _ | refine Below.setCell ?_ (by simp; try omega) _ | refine below_al ?_ _ | refine Below.alloc ?_ (by simp [World.setCell]; try omega) _ | refine below_drewN ?_ _ | refine Below.drew ?_ | refine below_tr ?_ ‹Below _ _ _›))) (Gdims'.out.below (by repeat (first | with_reducible exact Below.refl _ _ | refine Below.setCell ?_ (by simp; try omega) _ | refine below_al ?_ _ | refine Below.alloc ?_ (by simp [World.setCell]; try omega) _ | refine below_drewN ?_ _ | refine Below.drew ?_ | refine below_tr ?_ ‹Below _ _ _›))))).mono ?_
  rintro e w1 ⟨rfl, b1⟩
  have S1 : Below w.heap.size w w1 := (by repeat (first | with_reducible exact Below.refl _ _ | refine Below.setCell ?_ (by simp; try omega) _ | refine below_al ?_ _ | refine Below.alloc ?_ (by simp [World.setCell]; try omega) _ | refine below_drewN ?_ _ | refine Below.drew ?_ | refine below_tr ?_ ‹Below _ _ _›))
  clear b1
  go_wp2
  go_ret
  exact ⟨ret_bool HX1.out.symm, (by repeat (first | with_reducible exact Below.refl _ _ | refine Below.setCell ?_ (by simp; try omega) _ | refine below_al ?_ _ | refine Below.alloc ?_ (by simp [World.setCell]; try omega) _ | refine below_drewN ?_ _ | refine Below.drew ?_ | refine below_tr ?_ ‹Below _ _ _›))⟩
theorem progSame1_e : Enters Try.prog 114 := fun args W => by go_simp
theorem progSame2_c {w : World} {x y : Prt} {cs cs' : List Value} {bs bs' : List Nat} (h : Rep w x.d cs bs) (h' : Rep w y.d cs' bs') :
    Calls Try.prog 116 (#[.agg cs.toArray, .agg cs'.toArray] ++ #[]) w fun e w' => e = .returned (.bool (prtSame x y)) ∧ Below w.heap.size w w' := by
  show Calls Try.prog 116 #[.agg cs.toArray, .agg cs'.toArray] w _
  have HX := Lib.hid (show prtSame x y = (NestSameF x.nest y.nest && allEq StmtSameF x.body y.body) from rfl)
  obtain ⟨A1, c1, A2, c2, d1, d2, rfl, rfl, g1, g2⟩ := Rep.prt_iff.1 h
  have Gnest := Lib.hid g1
  have Gbody := Lib.hid g2
  clear h g1 g2
  obtain ⟨A1', c1', A2', c2', d1', d2', rfl, rfl, g1', g2'⟩ := Rep.prt_iff.1 h'
  have Gnest' := Lib.hid g1'
  have Gbody' := Lib.hid g2'
  clear h' g1' g2'
  go_enter Try.func116, Try.ntmps116
  go_wp2_with fail
  refine (implNestSame_c (Gnest.out.below (by repeat (first | with_reducible exact Below.refl _ _ | refine Below.setCell ?_ (by simp; try omega) _ | refine below_al ?_ _ | refine Below.alloc ?_ (by simp [World.setCell]; try omega) _ | refine below_drewN ?_ _ | refine Below.drew ?_ | refine below_tr ?_ ‹Below _ _ _›))) (Gnest'.out.below (by repeat (first | with_reducible exact Below.refl _ _ | refine Below.setCell ?_ (by simp; try omega) _ | refine below_al ?_ _ | refine Below.alloc ?_ (by simp [World.setCell]; try omega) _ | refine below_drewN ?_ _ | refine Below.drew ?_ | refine below_tr ?_ ‹Below _ _ _›)))).mono ?_
  rintro e w1 ⟨rfl, b1⟩
  have P1 : Box2 w1 w.heap.size (.slice A1 x.nest.length c1) (.slice A2 x.body.length c2) := by
    refine ⟨?_, ?_⟩ <;> (rw [b1.cell (by simp [World.setCell]; try omega)]; go_simp)
  have Q1 : Box2 w1 (w.heap.size+1) (.slice A1' y.nest.length c1') (.slice A2' y.body.length c2') := by
    refine ⟨?_, ?_⟩ <;> (rw [b1.cell (by simp [World.setCell]; try omega)]; go_simp)
  have S1 : Below w.heap.size w w1 := (by repeat (first | with_reducible exact Below.refl _ _ | refine Below.setCell ?_ (by simp; try omega) _ | refine below_al ?_ _ | refine Below.alloc ?_ (by simp [World.setCell]; try omega) _ | refine below_drewN ?_ _ | refine Below.drew ?_ | refine below_tr ?_ ‹Below _ _ _›))
  clear b1
  cases hc_ : NestSameF x.nest y.nest with
  | false =>
    have HF_ := Lib.hid (HX.out.trans (by rw [hc_, Bool.false_and])); clear hc_
    go_wp2
    go_ret
    exact ⟨ret_bool HF_.out.symm, (by repeat (first | with_reducible exact Below.refl _ _ | refine Below.setCell ?_ (by simp; try omega) _ | refine below_al ?_ _ | refine Below.alloc ?_ (by simp [World.setCell]; try omega) _ | refine below_drewN ?_ _ | refine Below.drew ?_ | refine below_tr ?_ ‹Below _ _ _›))⟩
  | true =>
  have HX1 := Lib.hid (HX.out.trans (by rw [hc_, Bool.true_and])); clear hc_
  go_wp2_with fail
  refine (EqualFunc_Stmt_c (p := StmtSameF) (Gbody.out.below (by repeat (first | with_reducible exact Below.refl _ _ | refine Below.setCell ?_ (by simp; try omega) _ | refine below_al ?_ _ | refine Below.alloc ?_ (by simp [World.setCell]; try omega) _ | refine below_drewN ?_ _ | refine Below.drew ?_ | refine below_tr ?_ ‹Below _ _ _›))) (Gbody'.out.below (by repeat (first | with_reducible exact Below.refl _ _ | refine Below.setCell ?_ (by simp; try omega) _ | refine below_al ?_ _ | refine Below.alloc ?_ (by simp [World.setCell]; try omega) _ | refine below_drewN ?_ _ | refine Below.drew ?_ | refine below_tr ?_ ‹Below _ _ _›))) implStmtSame_e fun x y cs bs cs' bs' W _ _ _ r r' => implStmtSame_k r r').mono ?_
  rintro e w2 ⟨rfl, b2⟩
  have s2 : Below w1.heap.size w1 w2 := (by repeat (first | with_reducible exact Below.refl _ _ | refine Below.setCell ?_ (by simp; try omega) _ | refine below_al ?_ _ | refine Below.alloc ?_ (by simp [World.setCell]; try omega) _ | refine below_drewN ?_ _ | refine Below.drew ?_ | refine below_tr ?_ ‹Below _ _ _›))
  have P2 := P1.to s2; clear P1
  have Q2 := Q1.to s2; clear Q1
  have S2 : Below w.heap.size w w2 := below_tr S1 s2
  clear s2
  clear b2
  go_wp2
  go_ret
  exact ⟨ret_bool HX1.out.symm, (by repeat (first | with_reducible exact Below.refl _ _ | refine Below.setCell ?_ (by simp; try omega) _ | refine below_al ?_ _ | refine Below.alloc ?_ (by simp [World.setCell]; try omega) _ | refine below_drewN ?_ _ | refine Below.drew ?_ | refine below_tr ?_ ‹Below _ _ _›))⟩
theorem progSame2_e : Enters Try.prog 116 := fun args W => by go_simp
theorem implProgramSame_c {w : World} {x y : Pgm} {cs cs' : List Value} {bs bs' : List Nat} (h : Rep w x.d cs bs) (h' : Rep w y.d cs' bs') :
    Calls Try.prog 54 #[.agg cs.toArray, .agg cs'.toArray] w fun e w' => e = .returned (.bool (ProgramSameF x y)) ∧ Below w.heap.size w w' := by
  have HX := Lib.hid (show ProgramSameF x y = (allEq arSame x.arrays y.arrays && allEq prtSame x.parts y.parts) from rfl)
  obtain ⟨A1, c1, A2, c2, d1, d2, rfl, rfl, g1, g2⟩ := Rep.pgm_iff.1 h
  have Garrays := Lib.hid g1
  have Gparts := Lib.hid g2
  clear h g1 g2
  obtain ⟨A1', c1', A2', c2', d1', d2', rfl, rfl, g1', g2'⟩ := Rep.pgm_iff.1 h'
  have Garrays' := Lib.hid g1'
  have Gparts' := Lib.hid g2'
  clear h' g1' g2'
  go_enter Try.func54, Try.ntmps54
  go_wp2_with fail
  refine (EqualFunc_Array_c (p := arSame) (Garrays.out.below (by repeat (first | with_reducible exact Below.refl _ _ | refine Below.setCell ?_ (by simp; try omega) _ | refine below_al ?_ _ | refine Below.alloc ?_ (by simp [World.setCell]; try omega) _ | refine below_drewN ?_ _ | refine Below.drew ?_ | refine below_tr ?_ ‹Below _ _ _›))) (Garrays'.out.below (by repeat (first | with_reducible exact Below.refl _ _ | refine Below.setCell ?_ (by simp; try omega) _ | refine below_al ?_ _ | refine Below.alloc ?_ (by simp [World.setCell]; try omega) _ | refine below_drewN ?_ _ | refine Below.drew ?_ | refine below_tr ?_ ‹Below _ _ _›))) progSame1_e fun x y cs bs cs' bs' W _ _ _ r r' => progSame1_c r r').mono ?_
  rintro e w1 ⟨rfl, b1⟩
  have P1 : Box2 w1 w.heap.size (.slice A1 x.arrays.length c1) (.slice A2 x.parts.length c2) := by
    refine ⟨?_, ?_⟩ <;> (rw [b1.cell (by simp [World.setCell]; try omega)]; go_simp)
  have Q1 : Box2 w1 (w.heap.size+1) (.slice A1' y.arrays.length c1') (.slice A2' y.parts.length c2') := by
    refine ⟨?_, ?_⟩ <;> (rw [b1.cell (by simp [World.setCell]; try omega)]; go_simp)
  have S1 : Below w.heap.size w w1 := (by repeat (first | with_reducible exact Below.refl _ _ | refine Below.setCell ?_ (by simp; try omega) _ | refine below_al ?_ _ | refine Below.alloc ?_ (by simp [World.setCell]; try omega) _ | refine below_drewN ?_ _ | refine Below.drew ?_ | refine below_tr ?_ ‹Below _ _ _›))
  clear b1
  cases hc_ : allEq arSame x.arrays y.arrays with
  | false =>
    have HF_ := Lib.hid (HX.out.trans (by rw [hc_, Bool.false_and])); clear hc_
    go_wp2
    go_ret
    exact ⟨ret_bool HF_.out.symm, (by repeat (first | with_reducible exact Below.refl _ _ | refine Below.setCell ?_ (by simp; try omega) _ | refine below_al ?_ _ | refine Below.alloc ?_ (by simp [World.setCell]; try omega) _ | refine below_drewN ?_ _ | refine Below.drew ?_ | refine below_tr ?_ ‹Below _ _ _›))⟩
  | true =>
  have HX1 := Lib.hid (HX.out.trans (by rw [hc_, Bool.true_and])); clear hc_
  go_wp2_with fail
  refine (EqualFunc_Part_c (p := prtSame) (Gparts.out.below (by repeat (first | with_reducible exact Below.refl _ _ | refine Below.setCell ?_ (by simp; try omega) _ | refine below_al ?_ _ | refine Below.alloc ?_ (by simp [World.setCell]; try omega) _ | refine below_drewN ?_ _ | refine Below.drew ?_ | refine below_tr ?_ ‹Below _ _ _›))) (Gparts'.out.below (by repeat (first | with_reducible exact Below.refl _ _ | refine Below.setCell ?_ (by simp; try omega) _ | refine below_al ?_ _ | refine Below.alloc ?_ (by simp [World.setCell]; try omega) _ | refine below_drewN ?_ _ | refine Below.drew ?_ | refine below_tr ?_ ‹Below _ _ _›))) progSame2_e fun x y cs bs cs' bs' W _ _ _ r r' => progSame2_c r r').mono ?_
  rintro e w2 ⟨rfl, b2⟩
  have s2 : Below w1.heap.size w1 w2 := (by repeat (first | with_reducible exact Below.refl _ _ | refine Below.setCell ?_ (by simp; try omega) _ | refine below_al ?_ _ | refine Below.alloc ?_ (by simp [World.setCell]; try omega) _ | refine below_drewN ?_ _ | refine Below.drew ?_ | refine below_tr ?_ ‹Below _ _ _›))
  have P2 := P1.to s2; clear P1
  have Q2 := Q1.to s2; clear Q1
  have S2 : Below w.heap.size w w2 := below_tr S1 s2
  clear s2
  clear b2
  go_wp2
  go_ret
  exact ⟨ret_bool HX1.out.symm, (by repeat (first | with_reducible exact Below.refl _ _ | refine Below.setCell ?_ (by simp; try omega) _ | refine below_al ?_ _ | refine Below.alloc ?_ (by simp [World.setCell]; try omega) _ | refine below_drewN ?_ _ | refine Below.drew ?_ | refine below_tr ?_ ‹Below _ _ _›))⟩

set_option maxRecDepth 100000 in
set_option maxHeartbeats 4000000 in
theorem l4SamePart_c {w : World} {x y : Prt} {cs cs' : List Value} {bs bs' : List Nat} (h : Rep w x.d cs bs) (h' : Rep w y.d cs' bs') :
    Calls Try.prog 111 #[.agg cs.toArray, .agg cs'.toArray] w fun e w' => e = .returned (.bool (prtSame x y)) ∧ Below w.heap.size w w' := by
  have HX := Lib.hid (show prtSame x y = (NestSameF x.nest y.nest && allEq StmtSameF x.body y.body) from rfl)
  obtain ⟨A1, c1, A2, c2, d1, d2, rfl, rfl, g1, g2⟩ := Rep.prt_iff.1 h
  have Gnest := Lib.hid g1
  have Gbody := Lib.hid g2
  clear h g1 g2
  obtain ⟨A1', c1', A2', c2', d1', d2', rfl, rfl, g1', g2'⟩ := Rep.prt_iff.1 h'
  have Gnest' := Lib.hid g1'
  have Gbody' := Lib.hid g2'
  clear h' g1' g2'
  have hn : x.body.length ≤ 9223372036854775807 := Nat.le_trans Gbody.out.sls_len.2.1 Gbody.out.sls_len.2.2
  have hm : y.body.length ≤ 9223372036854775807 := Nat.le_trans Gbody'.out.sls_len.2.1 Gbody'.out.sls_len.2.2
  go_enter Try.func111, Try.ntmps111
  go_wp2_with fail
  refine (specNestSame_c (Gnest.out.below (by repeat (first | with_reducible exact Below.refl _ _ | refine Below.setCell ?_ (by simp; try omega) _ | refine below_al ?_ _ | refine Below.alloc ?_ (by simp [World.setCell]; try omega) _ | refine below_drewN ?_ _ | refine Below.drew ?_ | refine below_tr ?_ ‹Below _ _ _›))) (Gnest'.out.below (by repeat (first | with_reducible exact Below.refl _ _ | refine Below.setCell ?_ (by simp; try omega) _ | refine below_al ?_ _ | refine Below.alloc ?_ (by simp [World.setCell]; try omega) _ | refine below_drewN ?_ _ | refine Below.drew ?_ | refine below_tr ?_ ‹Below _ _ _›)))).mono ?_
  rintro e w1 ⟨rfl, b1⟩
  have P1 : Box2 w1 w.heap.size (.slice A1 x.nest.length c1) (.slice A2 x.body.length c2) := by
    refine ⟨?_, ?_⟩ <;> (rw [b1.cell (by simp [World.setCell]; try omega)]; go_simp)
  have Q1 : Box2 w1 (w.heap.size+1) (.slice A1' y.nest.length c1') (.slice A2' y.body.length c2') := by
    refine ⟨?_, ?_⟩ <;> (rw [b1.cell (by simp [World.setCell]; try omega)]; go_simp)
  have S1 : Below w.heap.size w w1 := (by repeat (first | with_reducible exact Below.refl _ _ | refine Below.setCell ?_ (by simp; try omega) _ | refine below_al ?_ _ | refine Below.alloc ?_ (by simp [World.setCell]; try omega) _ | refine below_drewN ?_ _ | refine Below.drew ?_ | refine below_tr ?_ ‹Below _ _ _›))
  clear b1
  cases hc_ : NestSameF x.nest y.nest with
  | false =>
    have HF_ := Lib.hid (HX.out.trans (by rw [hc_, Bool.false_and])); clear hc_
    go_wp2
    go_ret
    exact ⟨ret_bool HF_.out.symm, (by repeat (first | with_reducible exact Below.refl _ _ | refine Below.setCell ?_ (by simp; try omega) _ | refine below_al ?_ _ | refine Below.alloc ?_ (by simp [World.setCell]; try omega) _ | refine below_drewN ?_ _ | refine Below.drew ?_ | refine below_tr ?_ ‹Below _ _ _›))⟩
  | true =>
  have HX1 := Lib.hid (HX.out.trans (by rw [hc_, Bool.true_and])); clear hc_
  by_cases hl : x.body.length = y.body.length
  case neg =>
    have hq3 : ((x.body.length : Int) != (y.body.length : Int)) = true := ine_t (by omega)
    have HF := Lib.hid (HX1.out.trans (allEq_ne _ _ _ hl))
    go_wp2
    go_ret
    exact ⟨ret_bool HF.out.symm, (by repeat (first | with_reducible exact Below.refl _ _ | refine Below.setCell ?_ (by simp; try omega) _ | refine below_al ?_ _ | refine Below.alloc ?_ (by simp [World.setCell]; try omega) _ | refine below_drewN ?_ _ | refine Below.drew ?_ | refine below_tr ?_ ‹Below _ _ _›))⟩
  have hq3 : ((x.body.length : Int) != (y.body.length : Int)) = false := ine_f (by omega)
  have HL := Lib.hid hl; clear hl
  go_wp2
  go_loopw [5] (fun i wr => ∃ j : Nat, j ≤ x.body.length ∧ i = .int .i64 j ∧ allEq StmtSameF x.body y.body = allEq StmtSameF (x.body.drop j) (y.body.drop j) ∧ Box2 wr w.heap.size (.slice A1 x.nest.length c1) (.slice A2 x.body.length c2) ∧ Box2 wr (w.heap.size+1) (.slice A1' y.nest.length c1') (.slice A2' y.body.length c2') ∧ Below w.heap.size w wr) (fun i _ => x.body.length - (intOf i).toNat)
  case atStart => exact ⟨0, Nat.zero_le _, rfl, by simp, P1, Q1, S1⟩
  case round =>
    clear P1 Q1 S1
    obtain ⟨j, hj, rfl, hi, Pr, Qr, hb⟩ := hrel
    have HI := Lib.hid hi; clear hi
    by_cases hlt : j < x.body.length
    · have hlt2 : j < y.body.length := by rw [← HL.out]; exact hlt
      have hd := Lib.hid (allEq_drop StmtSameF x.body y.body j hlt hlt2)
      obtain ⟨be, oe, cse, le, rfl, hble, hre, _, _, hce⟩ := (Gbody.out.below hb).sls_at Stm.d_size (k := j) hlt
      have Ge := Lib.hid hre
      obtain ⟨A2e, c2e, A5e, c5e, A8e, c8e, A9e, c9e, d2e, d5e, d8e, d9e, rfl, rfl, g1e, g2e, g3e, g4e, g5e, g6e, g7e, g8e, g9e⟩ := Rep.stm_iff.1 hre
      have k0e := (hce 0 _ rfl).1; rw [Nat.add_zero] at k0e
      have k1e := (hce 1 _ rfl).1
      have k2e := (hce 2 _ rfl).1
      have k3e := (hce 3 _ rfl).1
      have k4e := (hce 4 _ rfl).1
      have k5e := (hce 5 _ rfl).1
      have k6e := (hce 6 _ rfl).1
      have k7e := (hce 7 _ rfl).1
      have k8e := (hce 8 _ rfl).1
      have Q1e := Lib.hid g1e
      have Q2e := Lib.hid g2e
      have Q3e := Lib.hid g3e
      have Q4e := Lib.hid g4e
      have Q5e := Lib.hid g5e
      have Q6e := Lib.hid g6e
      have Q7e := Lib.hid g7e
      have Q8e := Lib.hid g8e
      have Q9e := Lib.hid g9e
      clear hce hre g1e g2e g3e g4e g5e g6e g7e g8e g9e
      obtain ⟨bf, of, csf, lf, rfl, hblf, hrf, _, _, hcf⟩ := (Gbody'.out.below hb).sls_at Stm.d_size (k := j) hlt2
      have Gf := Lib.hid hrf
      obtain ⟨A2f, c2f, A5f, c5f, A8f, c8f, A9f, c9f, d2f, d5f, d8f, d9f, rfl, rfl, g1f, g2f, g3f, g4f, g5f, g6f, g7f, g8f, g9f⟩ := Rep.stm_iff.1 hrf
      have k0f := (hcf 0 _ rfl).1; rw [Nat.add_zero] at k0f
      have k1f := (hcf 1 _ rfl).1
      have k2f := (hcf 2 _ rfl).1
      have k3f := (hcf 3 _ rfl).1
      have k4f := (hcf 4 _ rfl).1
      have k5f := (hcf 5 _ rfl).1
      have k6f := (hcf 6 _ rfl).1
      have k7f := (hcf 7 _ rfl).1
      have k8f := (hcf 8 _ rfl).1
      have Q1f := Lib.hid g1f
      have Q2f := Lib.hid g2f
      have Q3f := Lib.hid g3f
      have Q4f := Lib.hid g4f
      have Q5f := Lib.hid g5f
      have Q6f := Lib.hid g6f
      have Q7f := Lib.hid g7f
      have Q8f := Lib.hid g8f
      have Q9f := Lib.hid g9f
      clear hcf hrf g1f g2f g3f g4f g5f g6f g7f g8f g9f
      have hja : (j : Int) < (y.body.length : Int) := by omega
      go_wp2_with fail
      refine wp_region_noPanic ?_
      refine wp_region_held_drew (S := fun w' => Box2 w' w.heap.size (.slice A1 x.nest.length c1) (.slice (some ⟨be, oe, none⟩) x.body.length c2) ∧ Box2 w' (w.heap.size+1) (.slice A1' y.nest.length c1') (.slice (some ⟨bf, of, none⟩) y.body.length c2') ∧ (w'.cell? ⟨be, oe + j * 9, none⟩ = some (.string x.body[j].write.arr) ∧ w'.cell? ⟨be, oe + j * 9 + 1, none⟩ = some (.slice A2e x.body[j].write.subs.length c2e) ∧ w'.cell? ⟨be, oe + j * 9 + 2, none⟩ = some (.int .i64 x.body[j].value.kind) ∧ w'.cell? ⟨be, oe + j * 9 + 3, none⟩ = some (.int .i64 x.body[j].value.num) ∧ w'.cell? ⟨be, oe + j * 9 + 4, none⟩ = some (.slice A5e x.body[j].value.index.coefs.length c5e) ∧ w'.cell? ⟨be, oe + j * 9 + 5, none⟩ = some (.int .i64 x.body[j].value.index.const) ∧ w'.cell? ⟨be, oe + j * 9 + 6, none⟩ = some (.string x.body[j].value.read.arr) ∧ w'.cell? ⟨be, oe + j * 9 + 7, none⟩ = some (.slice A8e x.body[j].value.read.subs.length c8e) ∧ w'.cell? ⟨be, oe + j * 9 + 8, none⟩ = some (.slice A9e x.body[j].value.kids.length c9e)) ∧ (w'.cell? ⟨bf, of + j * 9, none⟩ = some (.string y.body[j].write.arr) ∧ w'.cell? ⟨bf, of + j * 9 + 1, none⟩ = some (.slice A2f y.body[j].write.subs.length c2f) ∧ w'.cell? ⟨bf, of + j * 9 + 2, none⟩ = some (.int .i64 y.body[j].value.kind) ∧ w'.cell? ⟨bf, of + j * 9 + 3, none⟩ = some (.int .i64 y.body[j].value.num) ∧ w'.cell? ⟨bf, of + j * 9 + 4, none⟩ = some (.slice A5f y.body[j].value.index.coefs.length c5f) ∧ w'.cell? ⟨bf, of + j * 9 + 5, none⟩ = some (.int .i64 y.body[j].value.index.const) ∧ w'.cell? ⟨bf, of + j * 9 + 6, none⟩ = some (.string y.body[j].value.read.arr) ∧ w'.cell? ⟨bf, of + j * 9 + 7, none⟩ = some (.slice A8f y.body[j].value.read.subs.length c8f) ∧ w'.cell? ⟨bf, of + j * 9 + 8, none⟩ = some (.slice A9f y.body[j].value.kids.length c9f))) (by kernel_rfl) (⟨Pr, Qr, ⟨k0e, k1e, k2e, k3e, k4e, k5e, k6e, k7e, k8e⟩, ⟨k0f, k1f, k2f, k3f, k4f, k5f, k6f, k7f, k8f⟩⟩) (fun hHeld => ?_)
      refine takeR (i := 0) (v := ?_) rfl rfl (by kernel_rfl) (by kernel_rfl) (by kernel_rfl) (fun _ _ _ h => h) ?_ hHeld ?_
      rotate_left 1
      · intro w hSw; (try dsimp only at hSw); go_simp
        try with_reducible rfl
      simp only [Act.put, List.setIfInBounds_toArray, List.set_cons_zero, List.set_cons_succ]
      refine takeR (i := 1) (v := ?_) rfl rfl (by kernel_rfl) (by kernel_rfl) (by kernel_rfl) (fun _ _ _ h => h) ?_ hHeld ?_
      rotate_left 1
      · intro w hSw; (try dsimp only at hSw); go_simp
        try with_reducible rfl
      simp only [Act.put, List.setIfInBounds_toArray, List.set_cons_zero, List.set_cons_succ]
      refine takeR (i := 2) (v := ?_) rfl rfl (by kernel_rfl) (by kernel_rfl) (by kernel_rfl) (fun _ _ _ h => h) ?_ hHeld ?_
      rotate_left 1
      · intro w hSw; (try dsimp only at hSw); go_simp
        try with_reducible rfl
      simp only [Act.put, List.setIfInBounds_toArray, List.set_cons_zero, List.set_cons_succ]
      refine takeR (i := 3) (v := ?_) rfl rfl (by kernel_rfl) (by kernel_rfl) (by kernel_rfl) (fun _ _ _ h => h) ?_ hHeld ?_
      rotate_left 1
      · intro w hSw; (try dsimp only at hSw); go_simp
        try with_reducible rfl
      simp only [Act.put, List.setIfInBounds_toArray, List.set_cons_zero, List.set_cons_succ]
      refine takeR (i := 4) (v := ?_) rfl rfl (by kernel_rfl) (by kernel_rfl) (by kernel_rfl) (fun _ _ _ h => h) ?_ hHeld ?_
      rotate_left 1
      · intro w hSw; (try dsimp only at hSw); go_simp
        try with_reducible rfl
      simp only [Act.put, List.setIfInBounds_toArray, List.set_cons_zero, List.set_cons_succ]
      refine takeR (i := 5) (v := ?_) rfl rfl (by kernel_rfl) (by kernel_rfl) (by kernel_rfl) (fun _ _ _ h => h) ?_ hHeld ?_
      rotate_left 1
      · intro w hSw; (try dsimp only at hSw); go_simp
        try with_reducible rfl
      simp only [Act.put, List.setIfInBounds_toArray, List.set_cons_zero, List.set_cons_succ]
      refine takeR (i := 6) (v := ?_) rfl rfl (by kernel_rfl) (by kernel_rfl) (by kernel_rfl) (fun _ _ _ h => h) ?_ hHeld ?_
      rotate_left 1
      · intro w hSw; (try dsimp only at hSw); go_simp
        try with_reducible rfl
      simp only [Act.put, List.setIfInBounds_toArray, List.set_cons_zero, List.set_cons_succ]
      refine takeR (i := 7) (v := ?_) rfl rfl (by kernel_rfl) (by kernel_rfl) (by kernel_rfl) (fun _ _ _ h => h) ?_ hHeld ?_
      rotate_left 1
      · intro w hSw; (try dsimp only at hSw); go_simp
        try with_reducible rfl
      simp only [Act.put, List.setIfInBounds_toArray, List.set_cons_zero, List.set_cons_succ]
      refine takeR (i := 8) (v := ?_) rfl rfl (by kernel_rfl) (by kernel_rfl) (by kernel_rfl) (fun _ _ _ h => h) ?_ hHeld ?_
      rotate_left 1
      · intro w hSw; (try dsimp only at hSw); go_simp
        try with_reducible rfl
      simp only [Act.put, List.setIfInBounds_toArray, List.set_cons_zero, List.set_cons_succ]
      refine takeR (i := 9) (v := ?_) rfl rfl (by kernel_rfl) (by kernel_rfl) (by kernel_rfl) (fun _ _ _ h => h) ?_ hHeld ?_
      rotate_left 1
      · intro w hSw; (try dsimp only at hSw); go_simp
        try with_reducible rfl
      simp only [Act.put, List.setIfInBounds_toArray, List.set_cons_zero, List.set_cons_succ]
      refine stepR (i := 10) rfl (by kernel_rfl) (wanted_none rfl) (fun K hK => ?_)
      go_simp
      (refine (specStmtSame_c (Ge.out.drewN 1) (Gf.out.drewN 1)).mono ?_; rintro e v1 ⟨rfl, bv⟩; replace bv := of_drew bv)
      go_wp2_with fail
      refine hK.out _ _ (by refine ⟨Pr.to bv, Qr.to bv, ⟨?_, ?_, ?_, ?_, ?_, ?_, ?_, ?_, ?_⟩, ⟨?_, ?_, ?_, ?_, ?_, ?_, ?_, ?_, ?_⟩⟩ <;> (first | (rw [bv.cell hble]; assumption) | (rw [bv.cell hblf]; assumption))) (fun hHeld => ?_)
      clear hK K
      try simp only [Act.put, List.setIfInBounds_toArray, List.set_cons_zero, List.set_cons_succ]
      refine takeR (i := 11) (v := ?_) rfl rfl (by kernel_rfl) (by kernel_rfl) (by kernel_rfl) (fun _ _ _ h => h) ?_ hHeld ?_
      rotate_left 1
      · intro w hSw; (try dsimp only at hSw); go_simp
        try with_reducible rfl
      simp only [Act.put, List.setIfInBounds_toArray, List.set_cons_zero, List.set_cons_succ]
      refine wpAnyH_done (by kernel_rfl) ?_ _
      refine NoPanic.normal ?_
      have S3 := below_tr hb bv
      have P3 := Pr.to bv
      have Q3 := Qr.to bv
      clear bv Pr Qr
      cases hp : StmtSameF x.body[j] y.body[j] with
      | false =>
        have HF := Lib.hid (hd.out.trans (by rw [hp, Bool.false_and])); clear hp
        go_wp2
        go_ret
        exact ⟨ret_bool (by rw [HX1.out, HI.out, HF.out]), S3⟩
      | true =>
        have HF := Lib.hid (hd.out.trans (by rw [hp, Bool.true_and])); clear hp
        go_wp2
        go_roundw
        case rel => exact ⟨j + 1, by omega, by go_num, by rw [HI.out, HF.out], P3, Q3, S3⟩
        case measure => simp [intOf]; omega
    · have hjj : j = x.body.length := by omega
      subst hjj
      go_wp2
      go_ret
      exact ⟨ret_bool (by rw [HX1.out, HI.out, List.drop_length, HL.out, List.drop_length]; rfl), hb⟩

set_option maxRecDepth 100000 in
set_option maxHeartbeats 4000000 in
theorem specProgramSame_c {w : World} {x y : Pgm} {cs cs' : List Value} {bs bs' : List Nat} (h : Rep w x.d cs bs) (h' : Rep w y.d cs' bs') :
    Calls Try.prog 52 #[.agg cs.toArray, .agg cs'.toArray] w fun e w' => e = .returned (.bool (ProgramSameF x y)) ∧ Below w.heap.size w w' := by
  have HX := Lib.hid (show ProgramSameF x y = (allEq arSame x.arrays y.arrays && allEq prtSame x.parts y.parts) from rfl)
  obtain ⟨A1, c1, A2, c2, d1, d2, rfl, rfl, g1, g2⟩ := Rep.pgm_iff.1 h
  have Garrays := Lib.hid g1
  have Gparts := Lib.hid g2
  clear h g1 g2
  obtain ⟨A1', c1', A2', c2', d1', d2', rfl, rfl, g1', g2'⟩ := Rep.pgm_iff.1 h'
  have Garrays' := Lib.hid g1'
  have Gparts' := Lib.hid g2'
  clear h' g1' g2'
  have hn : x.arrays.length ≤ 9223372036854775807 := Nat.le_trans Garrays.out.sls_len.2.1 Garrays.out.sls_len.2.2
  have hm : y.arrays.length ≤ 9223372036854775807 := Nat.le_trans Garrays'.out.sls_len.2.1 Garrays'.out.sls_len.2.2
  have hn2 : x.parts.length ≤ 9223372036854775807 := Nat.le_trans Gparts.out.sls_len.2.1 Gparts.out.sls_len.2.2
  have hm2 : y.parts.length ≤ 9223372036854775807 := Nat.le_trans Gparts'.out.sls_len.2.1 Gparts'.out.sls_len.2.2
  by_cases hl : x.arrays.length = y.arrays.length
  case neg =>
    have hq3 : ((x.arrays.length : Int) != (y.arrays.length : Int)) = true := ine_t (by omega)
    have HF := Lib.hid (HX.out.trans (by rw [allEq_ne _ _ _ hl, Bool.false_and]))
    go_enter Try.func52, Try.ntmps52
    go_wp2
    go_ret
    exact ⟨ret_bool HF.out.symm, (by repeat (first | with_reducible exact Below.refl _ _ | refine Below.setCell ?_ (by simp; try omega) _ | refine below_al ?_ _ | refine Below.alloc ?_ (by simp [World.setCell]; try omega) _ | refine below_drewN ?_ _ | refine Below.drew ?_ | refine below_tr ?_ ‹Below _ _ _›))⟩
  have hq3 : ((x.arrays.length : Int) != (y.arrays.length : Int)) = false := ine_f (by omega)
  have HL := Lib.hid hl; clear hl
  by_cases hl2 : x.parts.length = y.parts.length
  case neg =>
    have hq4 : ((x.parts.length : Int) != (y.parts.length : Int)) = true := ine_t (by omega)
    have HF := Lib.hid (HX.out.trans (by rw [allEq_ne prtSame _ _ hl2, Bool.and_false]))
    go_enter Try.func52, Try.ntmps52
    go_wp2
    go_ret
    exact ⟨ret_bool HF.out.symm, (by repeat (first | with_reducible exact Below.refl _ _ | refine Below.setCell ?_ (by simp; try omega) _ | refine below_al ?_ _ | refine Below.alloc ?_ (by simp [World.setCell]; try omega) _ | refine below_drewN ?_ _ | refine Below.drew ?_ | refine below_tr ?_ ‹Below _ _ _›))⟩
  have hq4 : ((x.parts.length : Int) != (y.parts.length : Int)) = false := ine_f (by omega)
  have HL2 := Lib.hid hl2; clear hl2
  go_enter Try.func52, Try.ntmps52
  go_wp2
  go_loopw [5] (fun i wr => ∃ j : Nat, j ≤ x.arrays.length ∧ i = .int .i64 j ∧ allEq arSame x.arrays y.arrays = allEq arSame (x.arrays.drop j) (y.arrays.drop j) ∧ Box2 wr w.heap.size (.slice A1 x.arrays.length c1) (.slice A2 x.parts.length c2) ∧ Box2 wr (w.heap.size+1) (.slice A1' y.arrays.length c1') (.slice A2' y.parts.length c2') ∧ Below w.heap.size w wr) (fun i _ => x.arrays.length - (intOf i).toNat)
  case atStart => exact ⟨0, Nat.zero_le _, rfl, by simp, ⟨by go_simp, by go_simp⟩, ⟨by go_simp, by go_simp⟩, (by repeat (first | with_reducible exact Below.refl _ _ | refine Below.setCell ?_ (by simp; try omega) _ | refine below_al ?_ _ | refine Below.alloc ?_ (by simp [World.setCell]; try omega) _ | refine below_drewN ?_ _ | refine Below.drew ?_ | refine below_tr ?_ ‹Below _ _ _›))⟩
  case round =>
    obtain ⟨j, hj, rfl, hi, Pr, Qr, hb⟩ := hrel
    have HI := Lib.hid hi; clear hi
    by_cases hlt : j < x.arrays.length
    · have hlt2 : j < y.arrays.length := by rw [← HL.out]; exact hlt
      have hd := Lib.hid (allEq_drop arSame x.arrays y.arrays j hlt hlt2)
      obtain ⟨be, oe, cse, le, rfl, hble, hre, _, _, hce⟩ := (Garrays.out.below hb).sls_at Ar.d_size (k := j) hlt
      have Ge := Lib.hid hre
      obtain ⟨A2e, c2e, d2e, rfl, rfl, g1e, g2e⟩ := Rep.ar_iff.1 hre
      have k0e := (hce 0 _ rfl).1; rw [Nat.add_zero] at k0e
      have k1e := (hce 1 _ rfl).1
      have Q1e := Lib.hid g1e
      have Q2e := Lib.hid g2e
      clear hce hre g1e g2e
      obtain ⟨bf, of, csf, lf, rfl, hblf, hrf, _, _, hcf⟩ := (Garrays'.out.below hb).sls_at Ar.d_size (k := j) hlt2
      have Gf := Lib.hid hrf
      obtain ⟨A2f, c2f, d2f, rfl, rfl, g1f, g2f⟩ := Rep.ar_iff.1 hrf
      have k0f := (hcf 0 _ rfl).1; rw [Nat.add_zero] at k0f
      have k1f := (hcf 1 _ rfl).1
      have Q1f := Lib.hid g1f
      have Q2f := Lib.hid g2f
      clear hcf hrf g1f g2f
      have hja : (j : Int) < (y.arrays.length : Int) := by omega
      by_cases hnm : x.arrays[j].name.toList = y.arrays[j].name.toList
      case neg =>
        have hqn : (x.arrays[j].name.toList == y.arrays[j].name.toList) = false := beq_eq_false_iff_ne.2 hnm
        have HF := Lib.hid (hd.out.trans (by rw [arSame, decide_eq_false hnm, Bool.false_and, Bool.false_and]))
        go_wp2_with fail
        refine wp_region_noPanic ?_
        refine wp_region_held_drew (S := fun w' => Box2 w' w.heap.size (.slice (some ⟨be, oe, none⟩) x.arrays.length c1) (.slice A2 x.parts.length c2) ∧ Box2 w' (w.heap.size+1) (.slice (some ⟨bf, of, none⟩) y.arrays.length c1') (.slice A2' y.parts.length c2') ∧ (w'.cell? ⟨be, oe + j * 2, none⟩ = some (.string x.arrays[j].name) ∧ w'.cell? ⟨be, oe + j * 2 + 1, none⟩ = some (.slice A2e x.arrays[j].dims.length c2e)) ∧ (w'.cell? ⟨bf, of + j * 2, none⟩ = some (.string y.arrays[j].name) ∧ w'.cell? ⟨bf, of + j * 2 + 1, none⟩ = some (.slice A2f y.arrays[j].dims.length c2f))) (by kernel_rfl) (⟨Pr, Qr, ⟨k0e, k1e⟩, ⟨k0f, k1f⟩⟩) (fun hHeld => ?_)
        refine takeR (i := 0) (v := ?_) rfl rfl (by kernel_rfl) (by kernel_rfl) (by kernel_rfl) (fun _ _ _ h => h) ?_ hHeld ?_
        rotate_left 1
        · intro w hSw; (try dsimp only at hSw); go_simp
          try simp only [hqn, Bool.not_false]
          try with_reducible rfl
        simp only [Act.put, List.setIfInBounds_toArray, List.set_cons_zero, List.set_cons_succ]
        refine takeR (i := 1) (v := ?_) rfl rfl (by kernel_rfl) (by kernel_rfl) (by kernel_rfl) (fun _ _ _ h => h) ?_ hHeld ?_
        rotate_left 1
        · intro w hSw; (try dsimp only at hSw); go_simp
          try simp only [hqn, Bool.not_false]
          try with_reducible rfl
        simp only [Act.put, List.setIfInBounds_toArray, List.set_cons_zero, List.set_cons_succ]
        refine takeR (i := 2) (v := ?_) rfl rfl (by kernel_rfl) (by kernel_rfl) (by kernel_rfl) (fun _ _ _ h => h) ?_ hHeld ?_
        rotate_left 1
        · intro w hSw; (try dsimp only at hSw); go_simp
          try simp only [hqn, Bool.not_false]
          try with_reducible rfl
        simp only [Act.put, List.setIfInBounds_toArray, List.set_cons_zero, List.set_cons_succ]
        refine takeR (i := 3) (v := ?_) rfl rfl (by kernel_rfl) (by kernel_rfl) (by kernel_rfl) (fun _ _ _ h => h) ?_ hHeld ?_
        rotate_left 1
        · intro w hSw; (try dsimp only at hSw); go_simp
          try simp only [hqn, Bool.not_false]
          try with_reducible rfl
        simp only [Act.put, List.setIfInBounds_toArray, List.set_cons_zero, List.set_cons_succ]
        refine takeR (i := 4) (v := ?_) rfl rfl (by kernel_rfl) (by kernel_rfl) (by kernel_rfl) (fun _ _ _ h => h) ?_ hHeld ?_
        rotate_left 1
        · intro w hSw; (try dsimp only at hSw); go_simp
          try simp only [hqn, Bool.not_false]
          try with_reducible rfl
        simp only [Act.put, List.setIfInBounds_toArray, List.set_cons_zero, List.set_cons_succ]
        refine takeR (i := 5) (v := ?_) rfl rfl (by kernel_rfl) (by kernel_rfl) (by kernel_rfl) (fun _ _ _ h => h) ?_ hHeld ?_
        rotate_left 1
        · intro w hSw; (try dsimp only at hSw); go_simp
          try simp only [hqn, Bool.not_false]
          try with_reducible rfl
        simp only [Act.put, List.setIfInBounds_toArray, List.set_cons_zero, List.set_cons_succ]
        refine takeR (i := 6) (v := ?_) rfl rfl (by kernel_rfl) (by kernel_rfl) (by kernel_rfl) (fun _ _ _ h => h) ?_ hHeld ?_
        rotate_left 1
        · intro w hSw; (try dsimp only at hSw); go_simp
          try simp only [hqn, Bool.not_false]
          try with_reducible rfl
        simp only [Act.put, List.setIfInBounds_toArray, List.set_cons_zero, List.set_cons_succ]
        refine takeR (i := 7) (v := ?_) rfl rfl (by kernel_rfl) (by kernel_rfl) (by kernel_rfl) (fun _ _ _ h => h) ?_ hHeld ?_
        rotate_left 1
        · intro w hSw; (try dsimp only at hSw); go_simp
          try simp only [hqn, Bool.not_false]
          try with_reducible rfl
        simp only [Act.put, List.setIfInBounds_toArray, List.set_cons_zero, List.set_cons_succ]
        refine takeR (i := 8) (v := ?_) rfl rfl (by kernel_rfl) (by kernel_rfl) (by kernel_rfl) (fun _ _ _ h => h) ?_ hHeld ?_
        rotate_left 1
        · intro w hSw; (try dsimp only at hSw); go_simp
          try simp only [hqn, Bool.not_false]
          try with_reducible rfl
        simp only [Act.put, List.setIfInBounds_toArray, List.set_cons_zero, List.set_cons_succ]
        refine takeR (i := 9) (v := ?_) rfl rfl (by kernel_rfl) (by kernel_rfl) (by kernel_rfl) (fun _ _ _ h => h) ?_ hHeld ?_
        rotate_left 1
        · intro w hSw; (try dsimp only at hSw); go_simp
          try simp only [hqn, Bool.not_false]
          try with_reducible rfl
        simp only [Act.put, List.setIfInBounds_toArray, List.set_cons_zero, List.set_cons_succ]
        refine takeR (i := 10) (v := ?_) rfl rfl (by kernel_rfl) (by kernel_rfl) (by kernel_rfl) (fun _ _ _ h => h) ?_ hHeld ?_
        rotate_left 1
        · intro w hSw; (try dsimp only at hSw); go_simp
          try simp only [hqn, Bool.not_false]
          try with_reducible rfl
        simp only [Act.put, List.setIfInBounds_toArray, List.set_cons_zero, List.set_cons_succ]
        refine takeR (i := 11) (v := ?_) rfl rfl (by kernel_rfl) (by kernel_rfl) (by kernel_rfl) (fun _ _ _ h => h) ?_ hHeld ?_
        rotate_left 1
        · intro w hSw; (try dsimp only at hSw); go_simp
          try simp only [hqn, Bool.not_false]
          try with_reducible rfl
        simp only [Act.put, List.setIfInBounds_toArray, List.set_cons_zero, List.set_cons_succ]
        refine takeR (i := 12) (v := ?_) rfl rfl (by kernel_rfl) (by kernel_rfl) (by kernel_rfl) (fun _ _ _ h => h) ?_ hHeld ?_
        rotate_left 1
        · intro w hSw; (try dsimp only at hSw); go_simp
          try simp only [hqn, Bool.not_false]
          try with_reducible rfl
        simp only [Act.put, List.setIfInBounds_toArray, List.set_cons_zero, List.set_cons_succ]
        refine takeR (i := 13) (v := ?_) rfl rfl (by kernel_rfl) (by kernel_rfl) (by kernel_rfl) (fun _ _ _ h => h) ?_ hHeld ?_
        rotate_left 1
        · intro w hSw; (try dsimp only at hSw); go_simp
          try simp only [hqn, Bool.not_false]
          try with_reducible rfl
        simp only [Act.put, List.setIfInBounds_toArray, List.set_cons_zero, List.set_cons_succ]
        refine takeS (i := 14) rfl (by kernel_rfl) (by kernel_rfl) (by kernel_rfl) (by kernel_rfl) (fun _ _ _ h => h) hHeld ?_
        simp only [Act.put, List.setIfInBounds_toArray, List.set_cons_zero, List.set_cons_succ]
        refine takeS (i := 15) rfl (by kernel_rfl) (by kernel_rfl) (by kernel_rfl) (by kernel_rfl) (fun _ _ _ h => h) hHeld ?_
        simp only [Act.put, List.setIfInBounds_toArray, List.set_cons_zero, List.set_cons_succ]
        refine takeS (i := 16) rfl (by kernel_rfl) (by kernel_rfl) (by kernel_rfl) (by kernel_rfl) (fun _ _ _ h => h) hHeld ?_
        simp only [Act.put, List.setIfInBounds_toArray, List.set_cons_zero, List.set_cons_succ]
        refine takeS (i := 17) rfl (by kernel_rfl) (by kernel_rfl) (by kernel_rfl) (by kernel_rfl) (fun _ _ _ h => h) hHeld ?_
        simp only [Act.put, List.setIfInBounds_toArray, List.set_cons_zero, List.set_cons_succ]
        refine takeS (i := 18) rfl (by kernel_rfl) (by kernel_rfl) (by kernel_rfl) (by kernel_rfl) (fun _ _ _ h => h) hHeld ?_
        simp only [Act.put, List.setIfInBounds_toArray, List.set_cons_zero, List.set_cons_succ]
        refine takeS (i := 19) rfl (by kernel_rfl) (by kernel_rfl) (by kernel_rfl) (by kernel_rfl) (fun _ _ _ h => h) hHeld ?_
        simp only [Act.put, List.setIfInBounds_toArray, List.set_cons_zero, List.set_cons_succ]
        refine takeS (i := 20) rfl (by kernel_rfl) (by kernel_rfl) (by kernel_rfl) (by kernel_rfl) (fun _ _ _ h => h) hHeld ?_
        simp only [Act.put, List.setIfInBounds_toArray, List.set_cons_zero, List.set_cons_succ]
        refine takeS (i := 21) rfl (by kernel_rfl) (by kernel_rfl) (by kernel_rfl) (by kernel_rfl) (fun _ _ _ h => h) hHeld ?_
        simp only [Act.put, List.setIfInBounds_toArray, List.set_cons_zero, List.set_cons_succ]
        refine takeS (i := 22) rfl (by kernel_rfl) (by kernel_rfl) (by kernel_rfl) (by kernel_rfl) (fun _ _ _ h => h) hHeld ?_
        simp only [Act.put, List.setIfInBounds_toArray, List.set_cons_zero, List.set_cons_succ]
        refine takeS (i := 23) rfl (by kernel_rfl) (by kernel_rfl) (by kernel_rfl) (by kernel_rfl) (fun _ _ _ h => h) hHeld ?_
        simp only [Act.put, List.setIfInBounds_toArray, List.set_cons_zero, List.set_cons_succ]
        refine takeS (i := 24) rfl (by kernel_rfl) (by kernel_rfl) (by kernel_rfl) (by kernel_rfl) (fun _ _ _ h => h) hHeld ?_
        simp only [Act.put, List.setIfInBounds_toArray, List.set_cons_zero, List.set_cons_succ]
        refine takeS (i := 25) rfl (by kernel_rfl) (by kernel_rfl) (by kernel_rfl) (by kernel_rfl) (fun _ _ _ h => h) hHeld ?_
        simp only [Act.put, List.setIfInBounds_toArray, List.set_cons_zero, List.set_cons_succ]
        refine takeS (i := 26) rfl (by kernel_rfl) (by kernel_rfl) (by kernel_rfl) (by kernel_rfl) (fun _ _ _ h => h) hHeld ?_
        simp only [Act.put, List.setIfInBounds_toArray, List.set_cons_zero, List.set_cons_succ]
        refine takeS (i := 27) rfl (by kernel_rfl) (by kernel_rfl) (by kernel_rfl) (by kernel_rfl) (fun _ _ _ h => h) hHeld ?_
        simp only [Act.put, List.setIfInBounds_toArray, List.set_cons_zero, List.set_cons_succ]
        refine takeR (i := 28) (v := ?_) rfl rfl (by kernel_rfl) (by kernel_rfl) (by kernel_rfl) (fun _ _ _ h => h) ?_ hHeld ?_
        rotate_left 1
        · intro w hSw; (try dsimp only at hSw); go_simp
          try simp only [hqn, Bool.not_false]
          try with_reducible rfl
        simp only [Act.put, List.setIfInBounds_toArray, List.set_cons_zero, List.set_cons_succ]
        refine wpAnyH_done (by kernel_rfl) ?_ _
        refine NoPanic.normal ?_
        go_wp2
        go_ret
        exact ⟨ret_bool (by rw [HX.out, HI.out, HF.out, Bool.false_and]), hb.drew⟩
      have hqn : (x.arrays[j].name.toList == y.arrays[j].name.toList) = true := beq_iff_eq.2 hnm
      have HF := Lib.hid (hd.out.trans (by rw [arSame, decide_eq_true hnm, Bool.true_and]))
      go_wp2_with fail
      refine wp_region_noPanic ?_
      refine wp_region_held_drew (S := fun w' => Box2 w' w.heap.size (.slice (some ⟨be, oe, none⟩) x.arrays.length c1) (.slice A2 x.parts.length c2) ∧ Box2 w' (w.heap.size+1) (.slice (some ⟨bf, of, none⟩) y.arrays.length c1') (.slice A2' y.parts.length c2') ∧ (w'.cell? ⟨be, oe + j * 2, none⟩ = some (.string x.arrays[j].name) ∧ w'.cell? ⟨be, oe + j * 2 + 1, none⟩ = some (.slice A2e x.arrays[j].dims.length c2e)) ∧ (w'.cell? ⟨bf, of + j * 2, none⟩ = some (.string y.arrays[j].name) ∧ w'.cell? ⟨bf, of + j * 2 + 1, none⟩ = some (.slice A2f y.arrays[j].dims.length c2f))) (by kernel_rfl) (⟨Pr, Qr, ⟨k0e, k1e⟩, ⟨k0f, k1f⟩⟩) (fun hHeld => ?_)
      refine takeR (i := 0) (v := ?_) rfl rfl (by kernel_rfl) (by kernel_rfl) (by kernel_rfl) (fun _ _ _ h => h) ?_ hHeld ?_
      rotate_left 1
      · intro w hSw; (try dsimp only at hSw); go_simp
        try simp only [hqn, Bool.not_true]
        try with_reducible rfl
      simp only [Act.put, List.setIfInBounds_toArray, List.set_cons_zero, List.set_cons_succ]
      refine takeR (i := 1) (v := ?_) rfl rfl (by kernel_rfl) (by kernel_rfl) (by kernel_rfl) (fun _ _ _ h => h) ?_ hHeld ?_
      rotate_left 1
      · intro w hSw; (try dsimp only at hSw); go_simp
        try simp only [hqn, Bool.not_true]
        try with_reducible rfl
      simp only [Act.put, List.setIfInBounds_toArray, List.set_cons_zero, List.set_cons_succ]
      refine takeR (i := 2) (v := ?_) rfl rfl (by kernel_rfl) (by kernel_rfl) (by kernel_rfl) (fun _ _ _ h => h) ?_ hHeld ?_
      rotate_left 1
      · intro w hSw; (try dsimp only at hSw); go_simp
        try simp only [hqn, Bool.not_true]
        try with_reducible rfl
      simp only [Act.put, List.setIfInBounds_toArray, List.set_cons_zero, List.set_cons_succ]
      refine takeR (i := 3) (v := ?_) rfl rfl (by kernel_rfl) (by kernel_rfl) (by kernel_rfl) (fun _ _ _ h => h) ?_ hHeld ?_
      rotate_left 1
      · intro w hSw; (try dsimp only at hSw); go_simp
        try simp only [hqn, Bool.not_true]
        try with_reducible rfl
      simp only [Act.put, List.setIfInBounds_toArray, List.set_cons_zero, List.set_cons_succ]
      refine takeR (i := 4) (v := ?_) rfl rfl (by kernel_rfl) (by kernel_rfl) (by kernel_rfl) (fun _ _ _ h => h) ?_ hHeld ?_
      rotate_left 1
      · intro w hSw; (try dsimp only at hSw); go_simp
        try simp only [hqn, Bool.not_true]
        try with_reducible rfl
      simp only [Act.put, List.setIfInBounds_toArray, List.set_cons_zero, List.set_cons_succ]
      refine takeR (i := 5) (v := ?_) rfl rfl (by kernel_rfl) (by kernel_rfl) (by kernel_rfl) (fun _ _ _ h => h) ?_ hHeld ?_
      rotate_left 1
      · intro w hSw; (try dsimp only at hSw); go_simp
        try simp only [hqn, Bool.not_true]
        try with_reducible rfl
      simp only [Act.put, List.setIfInBounds_toArray, List.set_cons_zero, List.set_cons_succ]
      refine takeR (i := 6) (v := ?_) rfl rfl (by kernel_rfl) (by kernel_rfl) (by kernel_rfl) (fun _ _ _ h => h) ?_ hHeld ?_
      rotate_left 1
      · intro w hSw; (try dsimp only at hSw); go_simp
        try simp only [hqn, Bool.not_true]
        try with_reducible rfl
      simp only [Act.put, List.setIfInBounds_toArray, List.set_cons_zero, List.set_cons_succ]
      refine takeR (i := 7) (v := ?_) rfl rfl (by kernel_rfl) (by kernel_rfl) (by kernel_rfl) (fun _ _ _ h => h) ?_ hHeld ?_
      rotate_left 1
      · intro w hSw; (try dsimp only at hSw); go_simp
        try simp only [hqn, Bool.not_true]
        try with_reducible rfl
      simp only [Act.put, List.setIfInBounds_toArray, List.set_cons_zero, List.set_cons_succ]
      refine takeR (i := 8) (v := ?_) rfl rfl (by kernel_rfl) (by kernel_rfl) (by kernel_rfl) (fun _ _ _ h => h) ?_ hHeld ?_
      rotate_left 1
      · intro w hSw; (try dsimp only at hSw); go_simp
        try simp only [hqn, Bool.not_true]
        try with_reducible rfl
      simp only [Act.put, List.setIfInBounds_toArray, List.set_cons_zero, List.set_cons_succ]
      refine takeR (i := 9) (v := ?_) rfl rfl (by kernel_rfl) (by kernel_rfl) (by kernel_rfl) (fun _ _ _ h => h) ?_ hHeld ?_
      rotate_left 1
      · intro w hSw; (try dsimp only at hSw); go_simp
        try simp only [hqn, Bool.not_true]
        try with_reducible rfl
      simp only [Act.put, List.setIfInBounds_toArray, List.set_cons_zero, List.set_cons_succ]
      refine takeR (i := 10) (v := ?_) rfl rfl (by kernel_rfl) (by kernel_rfl) (by kernel_rfl) (fun _ _ _ h => h) ?_ hHeld ?_
      rotate_left 1
      · intro w hSw; (try dsimp only at hSw); go_simp
        try simp only [hqn, Bool.not_true]
        try with_reducible rfl
      simp only [Act.put, List.setIfInBounds_toArray, List.set_cons_zero, List.set_cons_succ]
      refine takeR (i := 11) (v := ?_) rfl rfl (by kernel_rfl) (by kernel_rfl) (by kernel_rfl) (fun _ _ _ h => h) ?_ hHeld ?_
      rotate_left 1
      · intro w hSw; (try dsimp only at hSw); go_simp
        try simp only [hqn, Bool.not_true]
        try with_reducible rfl
      simp only [Act.put, List.setIfInBounds_toArray, List.set_cons_zero, List.set_cons_succ]
      refine takeR (i := 12) (v := ?_) rfl rfl (by kernel_rfl) (by kernel_rfl) (by kernel_rfl) (fun _ _ _ h => h) ?_ hHeld ?_
      rotate_left 1
      · intro w hSw; (try dsimp only at hSw); go_simp
        try simp only [hqn, Bool.not_true]
        try with_reducible rfl
      simp only [Act.put, List.setIfInBounds_toArray, List.set_cons_zero, List.set_cons_succ]
      refine takeR (i := 13) (v := ?_) rfl rfl (by kernel_rfl) (by kernel_rfl) (by kernel_rfl) (fun _ _ _ h => h) ?_ hHeld ?_
      rotate_left 1
      · intro w hSw; (try dsimp only at hSw); go_simp
        try simp only [hqn, Bool.not_true]
        try with_reducible rfl
      simp only [Act.put, List.setIfInBounds_toArray, List.set_cons_zero, List.set_cons_succ]
      refine takeG (i := 14) (v := ?_) rfl (by kernel_rfl) (by kernel_rfl) (by kernel_rfl) (by kernel_rfl) (fun _ _ _ h => h) ?_ hHeld ?_
      rotate_left 1
      · intro w hSw; (try dsimp only at hSw); go_simp
        try simp only [hqn, Bool.not_true]
        try with_reducible rfl
      simp only [Act.put, List.setIfInBounds_toArray, List.set_cons_zero, List.set_cons_succ]
      refine takeG (i := 15) (v := ?_) rfl (by kernel_rfl) (by kernel_rfl) (by kernel_rfl) (by kernel_rfl) (fun _ _ _ h => h) ?_ hHeld ?_
      rotate_left 1
      · intro w hSw; (try dsimp only at hSw); go_simp
        try simp only [hqn, Bool.not_true]
        try with_reducible rfl
      simp only [Act.put, List.setIfInBounds_toArray, List.set_cons_zero, List.set_cons_succ]
      refine takeG (i := 16) (v := ?_) rfl (by kernel_rfl) (by kernel_rfl) (by kernel_rfl) (by kernel_rfl) (fun _ _ _ h => h) ?_ hHeld ?_
      rotate_left 1
      · intro w hSw; (try dsimp only at hSw); go_simp
        try simp only [hqn, Bool.not_true]
        try with_reducible rfl
      simp only [Act.put, List.setIfInBounds_toArray, List.set_cons_zero, List.set_cons_succ]
      refine takeG (i := 17) (v := ?_) rfl (by kernel_rfl) (by kernel_rfl) (by kernel_rfl) (by kernel_rfl) (fun _ _ _ h => h) ?_ hHeld ?_
      rotate_left 1
      · intro w hSw; (try dsimp only at hSw); go_simp
        try simp only [hqn, Bool.not_true]
        try with_reducible rfl
      simp only [Act.put, List.setIfInBounds_toArray, List.set_cons_zero, List.set_cons_succ]
      refine takeG (i := 18) (v := ?_) rfl (by kernel_rfl) (by kernel_rfl) (by kernel_rfl) (by kernel_rfl) (fun _ _ _ h => h) ?_ hHeld ?_
      rotate_left 1
      · intro w hSw; (try dsimp only at hSw); go_simp
        try simp only [hqn, Bool.not_true]
        try with_reducible rfl
      simp only [Act.put, List.setIfInBounds_toArray, List.set_cons_zero, List.set_cons_succ]
      refine takeG (i := 19) (v := ?_) rfl (by kernel_rfl) (by kernel_rfl) (by kernel_rfl) (by kernel_rfl) (fun _ _ _ h => h) ?_ hHeld ?_
      rotate_left 1
      · intro w hSw; (try dsimp only at hSw); go_simp
        try simp only [hqn, Bool.not_true]
        try with_reducible rfl
      simp only [Act.put, List.setIfInBounds_toArray, List.set_cons_zero, List.set_cons_succ]
      refine takeG (i := 20) (v := ?_) rfl (by kernel_rfl) (by kernel_rfl) (by kernel_rfl) (by kernel_rfl) (fun _ _ _ h => h) ?_ hHeld ?_
      rotate_left 1
      · intro w hSw; (try dsimp only at hSw); go_simp
        try simp only [hqn, Bool.not_true]
        try with_reducible rfl
      simp only [Act.put, List.setIfInBounds_toArray, List.set_cons_zero, List.set_cons_succ]
      refine takeG (i := 21) (v := ?_) rfl (by kernel_rfl) (by kernel_rfl) (by kernel_rfl) (by kernel_rfl) (fun _ _ _ h => h) ?_ hHeld ?_
      rotate_left 1
      · intro w hSw; (try dsimp only at hSw); go_simp
        try simp only [hqn, Bool.not_true]
        try with_reducible rfl
      simp only [Act.put, List.setIfInBounds_toArray, List.set_cons_zero, List.set_cons_succ]
      refine takeG (i := 22) (v := ?_) rfl (by kernel_rfl) (by kernel_rfl) (by kernel_rfl) (by kernel_rfl) (fun _ _ _ h => h) ?_ hHeld ?_
      rotate_left 1
      · intro w hSw; (try dsimp only at hSw); go_simp
        try simp only [hqn, Bool.not_true]
        try with_reducible rfl
      simp only [Act.put, List.setIfInBounds_toArray, List.set_cons_zero, List.set_cons_succ]
      refine takeG (i := 23) (v := ?_) rfl (by kernel_rfl) (by kernel_rfl) (by kernel_rfl) (by kernel_rfl) (fun _ _ _ h => h) ?_ hHeld ?_
      rotate_left 1
      · intro w hSw; (try dsimp only at hSw); go_simp
        try simp only [hqn, Bool.not_true]
        try with_reducible rfl
      simp only [Act.put, List.setIfInBounds_toArray, List.set_cons_zero, List.set_cons_succ]
      refine takeG (i := 24) (v := ?_) rfl (by kernel_rfl) (by kernel_rfl) (by kernel_rfl) (by kernel_rfl) (fun _ _ _ h => h) ?_ hHeld ?_
      rotate_left 1
      · intro w hSw; (try dsimp only at hSw); go_simp
        try simp only [hqn, Bool.not_true]
        try with_reducible rfl
      simp only [Act.put, List.setIfInBounds_toArray, List.set_cons_zero, List.set_cons_succ]
      refine takeG (i := 25) (v := ?_) rfl (by kernel_rfl) (by kernel_rfl) (by kernel_rfl) (by kernel_rfl) (fun _ _ _ h => h) ?_ hHeld ?_
      rotate_left 1
      · intro w hSw; (try dsimp only at hSw); go_simp
        try simp only [hqn, Bool.not_true]
        try with_reducible rfl
      simp only [Act.put, List.setIfInBounds_toArray, List.set_cons_zero, List.set_cons_succ]
      refine stepR (i := 26) rfl (by kernel_rfl) (by kernel_rfl) (fun K hK => ?_)
      go_simp
      (refine (drewB (l1Ints_c (Q2e.out.drewN 1) (Q2f.out.drewN 1))).mono ?_; rintro e v1 ⟨rfl, bv⟩; replace bv := of_drew bv)
      go_wp2_with fail
      refine hK.out _ _ (by refine ⟨Pr.to bv, Qr.to bv, ⟨?_, ?_⟩, ⟨?_, ?_⟩⟩ <;> (first | (rw [bv.cell hble]; assumption) | (rw [bv.cell hblf]; assumption))) (fun hHeld => ?_)
      clear hK K
      try simp only [Act.put, List.setIfInBounds_toArray, List.set_cons_zero, List.set_cons_succ]
      refine takeG (i := 27) (v := ?_) rfl (by kernel_rfl) (by kernel_rfl) (by kernel_rfl) (by kernel_rfl) (fun _ _ _ h => h) ?_ hHeld ?_
      rotate_left 1
      · intro w hSw; (try dsimp only at hSw); go_simp
        try simp only [hqn, Bool.not_true]
        try with_reducible rfl
      simp only [Act.put, List.setIfInBounds_toArray, List.set_cons_zero, List.set_cons_succ]
      refine takeR (i := 28) (v := ?_) rfl rfl (by kernel_rfl) (by kernel_rfl) (by kernel_rfl) (fun _ _ _ h => h) ?_ hHeld ?_
      rotate_left 1
      · intro w hSw; (try dsimp only at hSw); go_simp
        try simp only [hqn, Bool.not_true]
        try with_reducible rfl
      simp only [Act.put, List.setIfInBounds_toArray, List.set_cons_zero, List.set_cons_succ]
      refine wpAnyH_done (by kernel_rfl) ?_ _
      refine NoPanic.normal ?_
      have S3 := below_tr hb bv
      have P3 := Pr.to bv
      have Q3 := Qr.to bv
      clear bv Pr Qr
      cases hp : decide (x.arrays[j].dims = y.arrays[j].dims) with
      | false =>
        have HG := Lib.hid (HF.out.trans (by rw [hp, Bool.false_and])); clear hp
        go_wp2
        go_ret
        exact ⟨ret_bool (by rw [HX.out, HI.out, HG.out, Bool.false_and]), S3⟩
      | true =>
        have HG := Lib.hid (HF.out.trans (by rw [hp, Bool.true_and])); clear hp
        go_wp2
        go_roundw
        case rel => exact ⟨j + 1, by omega, by go_num, by rw [HI.out, HG.out], P3, Q3, S3⟩
        case measure => simp [intOf]; omega
    · have hjj : j = x.arrays.length := by omega
      subst hjj
      have HX1 := Lib.hid (show ProgramSameF x y = allEq prtSame x.parts y.parts by rw [HX.out, HI.out, List.drop_length, HL.out, List.drop_length]; rfl)
      clear HX HI
      go_wp2
      go_loopw [6] (fun i wr => ∃ j : Nat, j ≤ x.parts.length ∧ i = .int .i64 j ∧ allEq prtSame x.parts y.parts = allEq prtSame (x.parts.drop j) (y.parts.drop j) ∧ Box2 wr w.heap.size (.slice A1 x.arrays.length c1) (.slice A2 x.parts.length c2) ∧ Box2 wr (w.heap.size+1) (.slice A1' y.arrays.length c1') (.slice A2' y.parts.length c2') ∧ Below w.heap.size w wr) (fun i _ => x.parts.length - (intOf i).toNat)
      case atStart => exact ⟨0, Nat.zero_le _, rfl, by simp, Pr, Qr, hb⟩
      case round =>
        clear Pr Qr hb
        obtain ⟨j, hj, rfl, hi, Pr, Qr, hb⟩ := hrel
        have HI := Lib.hid hi; clear hi
        by_cases hlt : j < x.parts.length
        · have hlt2 : j < y.parts.length := by rw [← HL2.out]; exact hlt
          have hd := Lib.hid (allEq_drop prtSame x.parts y.parts j hlt hlt2)
          obtain ⟨be, oe, cse, le, rfl, hble, hre, _, _, hce⟩ := (Gparts.out.below hb).sls_at Prt.d_size (k := j) hlt
          have Ge := Lib.hid hre
          obtain ⟨A1e, c1e, A2e, c2e, d1e, d2e, rfl, rfl, g1e, g2e⟩ := Rep.prt_iff.1 hre
          have k0e := (hce 0 _ rfl).1; rw [Nat.add_zero] at k0e
          have k1e := (hce 1 _ rfl).1
          have Q1e := Lib.hid g1e
          have Q2e := Lib.hid g2e
          clear hce hre g1e g2e
          obtain ⟨bf, of, csf, lf, rfl, hblf, hrf, _, _, hcf⟩ := (Gparts'.out.below hb).sls_at Prt.d_size (k := j) hlt2
          have Gf := Lib.hid hrf
          obtain ⟨A1f, c1f, A2f, c2f, d1f, d2f, rfl, rfl, g1f, g2f⟩ := Rep.prt_iff.1 hrf
          have k0f := (hcf 0 _ rfl).1; rw [Nat.add_zero] at k0f
          have k1f := (hcf 1 _ rfl).1
          have Q1f := Lib.hid g1f
          have Q2f := Lib.hid g2f
          clear hcf hrf g1f g2f
          have hja : (j : Int) < (y.parts.length : Int) := by omega
          go_wp2_with fail
          refine wp_region_noPanic ?_
          refine wp_region_held_drew (S := fun w' => Box2 w' w.heap.size (.slice A1 x.arrays.length c1) (.slice (some ⟨be, oe, none⟩) x.parts.length c2) ∧ Box2 w' (w.heap.size+1) (.slice A1' y.arrays.length c1') (.slice (some ⟨bf, of, none⟩) y.parts.length c2') ∧ (w'.cell? ⟨be, oe + j * 2, none⟩ = some (.slice A1e x.parts[j].nest.length c1e) ∧ w'.cell? ⟨be, oe + j * 2 + 1, none⟩ = some (.slice A2e x.parts[j].body.length c2e)) ∧ (w'.cell? ⟨bf, of + j * 2, none⟩ = some (.slice A1f y.parts[j].nest.length c1f) ∧ w'.cell? ⟨bf, of + j * 2 + 1, none⟩ = some (.slice A2f y.parts[j].body.length c2f))) (by kernel_rfl) (⟨Pr, Qr, ⟨k0e, k1e⟩, ⟨k0f, k1f⟩⟩) (fun hHeld => ?_)
          refine takeR (i := 0) (v := ?_) rfl rfl (by kernel_rfl) (by kernel_rfl) (by kernel_rfl) (fun _ _ _ h => h) ?_ hHeld ?_
          rotate_left 1
          · intro w hSw; (try dsimp only at hSw); go_simp
            try with_reducible rfl
          simp only [Act.put, List.setIfInBounds_toArray, List.set_cons_zero, List.set_cons_succ]
          refine takeR (i := 1) (v := ?_) rfl rfl (by kernel_rfl) (by kernel_rfl) (by kernel_rfl) (fun _ _ _ h => h) ?_ hHeld ?_
          rotate_left 1
          · intro w hSw; (try dsimp only at hSw); go_simp
            try with_reducible rfl
          simp only [Act.put, List.setIfInBounds_toArray, List.set_cons_zero, List.set_cons_succ]
          refine takeR (i := 2) (v := ?_) rfl rfl (by kernel_rfl) (by kernel_rfl) (by kernel_rfl) (fun _ _ _ h => h) ?_ hHeld ?_
          rotate_left 1
          · intro w hSw; (try dsimp only at hSw); go_simp
            try with_reducible rfl
          simp only [Act.put, List.setIfInBounds_toArray, List.set_cons_zero, List.set_cons_succ]
          refine takeR (i := 3) (v := ?_) rfl rfl (by kernel_rfl) (by kernel_rfl) (by kernel_rfl) (fun _ _ _ h => h) ?_ hHeld ?_
          rotate_left 1
          · intro w hSw; (try dsimp only at hSw); go_simp
            try with_reducible rfl
          simp only [Act.put, List.setIfInBounds_toArray, List.set_cons_zero, List.set_cons_succ]
          refine takeR (i := 4) (v := ?_) rfl rfl (by kernel_rfl) (by kernel_rfl) (by kernel_rfl) (fun _ _ _ h => h) ?_ hHeld ?_
          rotate_left 1
          · intro w hSw; (try dsimp only at hSw); go_simp
            try with_reducible rfl
          simp only [Act.put, List.setIfInBounds_toArray, List.set_cons_zero, List.set_cons_succ]
          refine takeR (i := 5) (v := ?_) rfl rfl (by kernel_rfl) (by kernel_rfl) (by kernel_rfl) (fun _ _ _ h => h) ?_ hHeld ?_
          rotate_left 1
          · intro w hSw; (try dsimp only at hSw); go_simp
            try with_reducible rfl
          simp only [Act.put, List.setIfInBounds_toArray, List.set_cons_zero, List.set_cons_succ]
          refine takeR (i := 6) (v := ?_) rfl rfl (by kernel_rfl) (by kernel_rfl) (by kernel_rfl) (fun _ _ _ h => h) ?_ hHeld ?_
          rotate_left 1
          · intro w hSw; (try dsimp only at hSw); go_simp
            try with_reducible rfl
          simp only [Act.put, List.setIfInBounds_toArray, List.set_cons_zero, List.set_cons_succ]
          refine takeR (i := 7) (v := ?_) rfl rfl (by kernel_rfl) (by kernel_rfl) (by kernel_rfl) (fun _ _ _ h => h) ?_ hHeld ?_
          rotate_left 1
          · intro w hSw; (try dsimp only at hSw); go_simp
            try with_reducible rfl
          simp only [Act.put, List.setIfInBounds_toArray, List.set_cons_zero, List.set_cons_succ]
          refine takeR (i := 8) (v := ?_) rfl rfl (by kernel_rfl) (by kernel_rfl) (by kernel_rfl) (fun _ _ _ h => h) ?_ hHeld ?_
          rotate_left 1
          · intro w hSw; (try dsimp only at hSw); go_simp
            try with_reducible rfl
          simp only [Act.put, List.setIfInBounds_toArray, List.set_cons_zero, List.set_cons_succ]
          refine takeR (i := 9) (v := ?_) rfl rfl (by kernel_rfl) (by kernel_rfl) (by kernel_rfl) (fun _ _ _ h => h) ?_ hHeld ?_
          rotate_left 1
          · intro w hSw; (try dsimp only at hSw); go_simp
            try with_reducible rfl
          simp only [Act.put, List.setIfInBounds_toArray, List.set_cons_zero, List.set_cons_succ]
          refine stepR (i := 10) rfl (by kernel_rfl) (wanted_none rfl) (fun K hK => ?_)
          go_simp
          (refine (l4SamePart_c (Ge.out.drewN 1) (Gf.out.drewN 1)).mono ?_; rintro e v1 ⟨rfl, bv⟩; replace bv := of_drew bv)
          go_wp2_with fail
          refine hK.out _ _ (by refine ⟨Pr.to bv, Qr.to bv, ⟨?_, ?_⟩, ⟨?_, ?_⟩⟩ <;> (first | (rw [bv.cell hble]; assumption) | (rw [bv.cell hblf]; assumption))) (fun hHeld => ?_)
          clear hK K
          try simp only [Act.put, List.setIfInBounds_toArray, List.set_cons_zero, List.set_cons_succ]
          refine takeR (i := 11) (v := ?_) rfl rfl (by kernel_rfl) (by kernel_rfl) (by kernel_rfl) (fun _ _ _ h => h) ?_ hHeld ?_
          rotate_left 1
          · intro w hSw; (try dsimp only at hSw); go_simp
            try with_reducible rfl
          simp only [Act.put, List.setIfInBounds_toArray, List.set_cons_zero, List.set_cons_succ]
          refine wpAnyH_done (by kernel_rfl) ?_ _
          refine NoPanic.normal ?_
          have S3 := below_tr hb bv
          have P3 := Pr.to bv
          have Q3 := Qr.to bv
          clear bv Pr Qr
          cases hp : prtSame x.parts[j] y.parts[j] with
          | false =>
            have HF := Lib.hid (hd.out.trans (by rw [hp, Bool.false_and])); clear hp
            go_wp2
            go_ret
            exact ⟨ret_bool (by rw [HX1.out, HI.out, HF.out]), S3⟩
          | true =>
            have HF := Lib.hid (hd.out.trans (by rw [hp, Bool.true_and])); clear hp
            go_wp2
            go_roundw
            case rel => exact ⟨j + 1, by omega, by go_num, by rw [HI.out, HF.out], P3, Q3, S3⟩
            case measure => simp [intOf]; omega
        · have hjj : j = x.parts.length := by omega
          subst hjj
          go_wp2
          go_ret
          exact ⟨ret_bool (by rw [HX1.out, HI.out, List.drop_length, HL2.out, List.drop_length]; rfl), hb⟩
end Go.Proofs.Ytlllidhmohdgiaa
