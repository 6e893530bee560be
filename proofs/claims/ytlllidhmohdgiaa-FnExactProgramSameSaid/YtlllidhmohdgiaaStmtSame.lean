/- Equality of statements: l3SameAccess, l3SameExpr, StmtSame of the reference; accessSame, exprSame, StmtSame of the program. -/
import Derived.Test.YtlllidhmohdgiaaNestSame
import Derived.Test.YtlllidhmohdgiaaTyStmt
import Derived.Test.YtlllidhmohdgiaaSqExpr
set_option linter.all false
set_option linter.unusedSimpArgs false
set_option linter.unusedVariables false
namespace Go.Proofs.Ytlllidhmohdgiaa
open Go.ChangeShapes Go.WideShapes Go.ChangeAt Go.RowKit Go.Deep

def accSame (a b : Acc) : Bool := decide (a.arr.toList = b.arr.toList) && sideSame a.subs b.subs
mutual
def exSame : Ex → Ex → Bool
  | ⟨k, n, i, r, ks⟩, y => k == y.kind && (n == y.num && (affSame i y.index && (accSame r y.read && exsSame ks y.kids)))
def exsSame : List Ex → List Ex → Bool
  | [], [] => true
  | x :: xs, y :: ys => exSame x y && exsSame xs ys
  | [], _ :: _ => false
  | _ :: _, [] => false
end
theorem exsSame_eq : (xs ys : List Ex) → exsSame xs ys = allEq exSame xs ys
  | [], [] => rfl
  | x :: xs, y :: ys => by simp only [exsSame, allEq, exsSame_eq xs ys]
  | [], _ :: _ => rfl
  | _ :: _, [] => rfl
theorem exSame_eq (x y : Ex) : exSame x y = (x.kind == y.kind && (x.num == y.num && (affSame x.index y.index && (accSame x.read y.read && allEq exSame x.kids y.kids)))) := by
  cases x; simp only [exSame, exsSame_eq]
def StmtSameF (a b : Stm) : Bool := accSame a.write b.write && exSame a.value b.value

theorem l3SameAccess_c {w : World} {x y : Acc} {cs cs' : List Value} {bs bs' : List Nat} (h : Rep w x.d cs bs) (h' : Rep w y.d cs' bs') :
    Calls Try.prog 86 #[.agg cs.toArray, .agg cs'.toArray] w fun e w' => e = .returned (.bool (accSame x y)) ∧ Below w.heap.size w w' := by
  unfold accSame
  obtain ⟨A2, c2, d2, rfl, rfl, g1, g2⟩ := Rep.acc_iff.1 h
  have Garr := Lib.hid g1
  have Gsubs := Lib.hid g2
  clear h g1 g2
  obtain ⟨A2', c2', d2', rfl, rfl, g1', g2'⟩ := Rep.acc_iff.1 h'
  have Garr' := Lib.hid g1'
  have Gsubs' := Lib.hid g2'
  clear h' g1' g2'
  by_cases ha : x.arr.toList = y.arr.toList
  case neg =>
    rw [decide_eq_false ha]
    go_enter Try.func86, Try.ntmps86
    go_wp2
    go_ret
    exact ⟨rfl, (by repeat (first | with_reducible exact Below.refl _ _ | refine Below.setCell ?_ (by simp; try omega) _ | refine below_al ?_ _ | refine Below.alloc ?_ (by simp [World.setCell]; try omega) _ | refine below_drewN ?_ _ | refine Below.drew ?_ | refine below_tr ?_ ‹Below _ _ _›))⟩
  case pos =>
    rw [decide_eq_true ha]
    go_enter Try.func86, Try.ntmps86
    go_wp2_with fail
    refine (l2SideSame_c (Gsubs.out.below (by repeat (first | with_reducible exact Below.refl _ _ | refine Below.setCell ?_ (by simp; try omega) _ | refine below_al ?_ _ | refine Below.alloc ?_ (by simp [World.setCell]; try omega) _ | refine below_drewN ?_ _ | refine Below.drew ?_ | refine below_tr ?_ ‹Below _ _ _›))) (Gsubs'.out.below (by repeat (first | with_reducible exact Below.refl _ _ | refine Below.setCell ?_ (by simp; try omega) _ | refine below_al ?_ _ | refine Below.alloc ?_ (by simp [World.setCell]; try omega) _ | refine below_drewN ?_ _ | refine Below.drew ?_ | refine below_tr ?_ ‹Below _ _ _›)))).mono ?_
    rintro e w1 ⟨rfl, b1⟩
    have S1 : Below w.heap.size w w1 := (by repeat (first | with_reducible exact Below.refl _ _ | refine Below.setCell ?_ (by simp; try omega) _ | refine below_al ?_ _ | refine Below.alloc ?_ (by simp [World.setCell]; try omega) _ | refine below_drewN ?_ _ | refine Below.drew ?_ | refine below_tr ?_ ‹Below _ _ _›))
    clear b1
    go_wp2
    go_ret
    exact ⟨rfl, (by repeat (first | with_reducible exact Below.refl _ _ | refine Below.setCell ?_ (by simp; try omega) _ | refine below_al ?_ _ | refine Below.alloc ?_ (by simp [World.setCell]; try omega) _ | refine below_drewN ?_ _ | refine Below.drew ?_ | refine below_tr ?_ ‹Below _ _ _›))⟩
theorem accessSame_c {w : World} {x y : Acc} {cs cs' : List Value} {bs bs' : List Nat} (h : Rep w x.d cs bs) (h' : Rep w y.d cs' bs') :
    Calls Try.prog 90 #[.agg cs.toArray, .agg cs'.toArray] w fun e w' => e = .returned (.bool (accSame x y)) ∧ Below w.heap.size w w' := by
  unfold accSame
  obtain ⟨A2, c2, d2, rfl, rfl, g1, g2⟩ := Rep.acc_iff.1 h
  have Garr := Lib.hid g1
  have Gsubs := Lib.hid g2
  clear h g1 g2
  obtain ⟨A2', c2', d2', rfl, rfl, g1', g2'⟩ := Rep.acc_iff.1 h'
  have Garr' := Lib.hid g1'
  have Gsubs' := Lib.hid g2'
  clear h' g1' g2'
  by_cases ha : x.arr.toList = y.arr.toList
  case neg =>
    rw [decide_eq_false ha]
    go_enter Try.func90, Try.ntmps90
    go_wp2
    go_ret
    exact ⟨rfl, (by repeat (first | with_reducible exact Below.refl _ _ | refine Below.setCell ?_ (by simp; try omega) _ | refine below_al ?_ _ | refine Below.alloc ?_ (by simp [World.setCell]; try omega) _ | refine below_drewN ?_ _ | refine Below.drew ?_ | refine below_tr ?_ ‹Below _ _ _›))⟩
  case pos =>
    rw [decide_eq_true ha]
    go_enter Try.func90, Try.ntmps90
    go_wp2_with fail
    refine (EqualFunc_Affine_c (p := affSame) (Gsubs.out.below (by repeat (first | with_reducible exact Below.refl _ _ | refine Below.setCell ?_ (by simp; try omega) _ | refine below_al ?_ _ | refine Below.alloc ?_ (by simp [World.setCell]; try omega) _ | refine below_drewN ?_ _ | refine Below.drew ?_ | refine below_tr ?_ ‹Below _ _ _›))) (Gsubs'.out.below (by repeat (first | with_reducible exact Below.refl _ _ | refine Below.setCell ?_ (by simp; try omega) _ | refine below_al ?_ _ | refine Below.alloc ?_ (by simp [World.setCell]; try omega) _ | refine below_drewN ?_ _ | refine Below.drew ?_ | refine below_tr ?_ ‹Below _ _ _›))) implAffineSame_e fun x y cs bs cs' bs' W _ _ _ r r' => implAffineSame_k r r').mono ?_
    rintro e w1 ⟨rfl, b1⟩
    have S1 : Below w.heap.size w w1 := (by repeat (first | with_reducible exact Below.refl _ _ | refine Below.setCell ?_ (by simp; try omega) _ | refine below_al ?_ _ | refine Below.alloc ?_ (by simp [World.setCell]; try omega) _ | refine below_drewN ?_ _ | refine Below.drew ?_ | refine below_tr ?_ ‹Below _ _ _›))
    clear b1
    go_wp2
    go_ret
    exact ⟨rfl, (by repeat (first | with_reducible exact Below.refl _ _ | refine Below.setCell ?_ (by simp; try omega) _ | refine below_al ?_ _ | refine Below.alloc ?_ (by simp [World.setCell]; try omega) _ | refine below_drewN ?_ _ | refine Below.drew ?_ | refine below_tr ?_ ‹Below _ _ _›))⟩

def SameEx (x : Ex) : Prop := ∀ (y : Ex) (w : World) (cs cs' : List Value) (bs bs' : List Nat), Rep w x.d cs bs → Rep w y.d cs' bs' →
    Calls Try.prog 87 #[.agg cs.toArray, .agg cs'.toArray] w fun e w' => e = .returned (.bool (exSame x y)) ∧ Below w.heap.size w w'
def ISameEx (x : Ex) : Prop := ∀ (y : Ex) (w : World) (cs cs' : List Value) (bs bs' : List Nat), Rep w x.d cs bs → Rep w y.d cs' bs' →
    Calls Try.prog 91 #[.agg cs.toArray, .agg cs'.toArray] w fun e w' => e = .returned (.bool (exSame x y)) ∧ Below w.heap.size w w'

set_option maxHeartbeats 4000000 in
theorem l3SameExpr_r {x : Ex} (hrec : ∀ y ∈ x.kids, SameEx y) : SameEx x := by
  intro y w cs cs' bs bs' h h'
  have HREC := Lib.hid hrec; clear hrec
  have hE := exSame_eq x y
  obtain ⟨A3, c3, A6, c6, A7, c7, d3, d6, d7, rfl, rfl, g1, g2, g3, g4, g5, g6, g7⟩ := Rep.ex_iff.1 h
  have Gkind := Lib.hid g1
  have Gnum := Lib.hid g2
  have Gindex := Lib.hid ((Rep.aff_iff2 (x := x.index)).2 ⟨_, _, _, rfl, rfl, g3, g4⟩)
  have Gread := Lib.hid ((Rep.acc_iff (x := x.read)).2 ⟨_, _, _, rfl, rfl, g5, g6⟩)
  have Gkids := Lib.hid g7
  clear h g1 g2 g3 g4 g5 g6 g7
  obtain ⟨A3', c3', A6', c6', A7', c7', d3', d6', d7', rfl, rfl, g1', g2', g3', g4', g5', g6', g7'⟩ := Rep.ex_iff.1 h'
  have Gkind' := Lib.hid g1'
  have Gnum' := Lib.hid g2'
  have Gindex' := Lib.hid ((Rep.aff_iff2 (x := y.index)).2 ⟨_, _, _, rfl, rfl, g3', g4'⟩)
  have Gread' := Lib.hid ((Rep.acc_iff (x := y.read)).2 ⟨_, _, _, rfl, rfl, g5', g6'⟩)
  have Gkids' := Lib.hid g7'
  clear h' g1' g2' g3' g4' g5' g6' g7'
  cases h1 : (x.kind == y.kind) with
  | false =>
    have hq : (x.kind != y.kind) = true := by simp [bne, h1]
    have HX := Lib.hid (show exSame x y = false by rw [hE, h1]; rfl)
    clear hE
    go_enter Try.func87, Try.ntmps87
    go_wp2
    go_ret
    exact ⟨ret_bool HX.out.symm, (by repeat (first | with_reducible exact Below.refl _ _ | refine Below.setCell ?_ (by simp; try omega) _ | refine below_al ?_ _ | refine Below.alloc ?_ (by simp [World.setCell]; try omega) _ | refine below_drewN ?_ _ | refine Below.drew ?_ | refine below_tr ?_ ‹Below _ _ _›))⟩
  | true =>
  have hq1 : (x.kind != y.kind) = false := by simp [bne, h1]
  rw [h1, Bool.true_and] at hE
  cases h2 : (x.num == y.num) with
  | false =>
    have hq : (x.num != y.num) = true := by simp [bne, h2]
    have HX := Lib.hid (show exSame x y = false by rw [hE, h2]; rfl)
    clear hE
    go_enter Try.func87, Try.ntmps87
    go_wp2
    go_ret
    exact ⟨ret_bool HX.out.symm, (by repeat (first | with_reducible exact Below.refl _ _ | refine Below.setCell ?_ (by simp; try omega) _ | refine below_al ?_ _ | refine Below.alloc ?_ (by simp [World.setCell]; try omega) _ | refine below_drewN ?_ _ | refine Below.drew ?_ | refine below_tr ?_ ‹Below _ _ _›))⟩
  | true =>
  have hq2 : (x.num != y.num) = false := by simp [bne, h2]
  rw [h2, Bool.true_and] at hE
  have HE := Lib.hid hE; clear hE
  by_cases hl : x.kids.length = y.kids.length
  case neg =>
    have hq3 : ((x.kids.length : Int) != (y.kids.length : Int)) = true := by simp; omega
    have HX := Lib.hid (show exSame x y = false by rw [HE.out, allEq_ne _ _ _ hl]; simp)
    go_enter Try.func87, Try.ntmps87
    go_wp2
    go_ret
    exact ⟨ret_bool HX.out.symm, (by repeat (first | with_reducible exact Below.refl _ _ | refine Below.setCell ?_ (by simp; try omega) _ | refine below_al ?_ _ | refine Below.alloc ?_ (by simp [World.setCell]; try omega) _ | refine below_drewN ?_ _ | refine Below.drew ?_ | refine below_tr ?_ ‹Below _ _ _›))⟩
  have hq3 : ((x.kids.length : Int) != (y.kids.length : Int)) = false := by simp [hl]
  have HL := Lib.hid hl; clear hl
  have hn : x.kids.length ≤ 9223372036854775807 := Nat.le_trans Gkids.out.sls_len.2.1 Gkids.out.sls_len.2.2
  have hm : y.kids.length ≤ 9223372036854775807 := Nat.le_trans Gkids'.out.sls_len.2.1 Gkids'.out.sls_len.2.2
  go_enter Try.func87, Try.ntmps87
  go_wp2_with fail
  refine (specAffineSame_d (Gindex.out.below (by repeat (first | with_reducible exact Below.refl _ _ | refine Below.setCell ?_ (by simp; try omega) _ | refine below_al ?_ _ | refine Below.alloc ?_ (by simp [World.setCell]; try omega) _ | refine below_drewN ?_ _ | refine Below.drew ?_ | refine below_tr ?_ ‹Below _ _ _›))) (Gindex'.out.below (by repeat (first | with_reducible exact Below.refl _ _ | refine Below.setCell ?_ (by simp; try omega) _ | refine below_al ?_ _ | refine Below.alloc ?_ (by simp [World.setCell]; try omega) _ | refine below_drewN ?_ _ | refine Below.drew ?_ | refine below_tr ?_ ‹Below _ _ _›)))).mono ?_
  rintro e w1 ⟨rfl, b1⟩
  have P1 : Box7 w1 w.heap.size (.int .i64 x.kind) (.int .i64 x.num) (.slice A3 x.index.coefs.length c3) (.int .i64 x.index.const) (.string x.read.arr) (.slice A6 x.read.subs.length c6) (.slice A7 x.kids.length c7) := by
    refine ⟨?_, ?_, ?_, ?_, ?_, ?_, ?_⟩ <;> (rw [b1.cell (by simp [World.setCell]; try omega)]; go_simp)
  have Q1 : Box7 w1 (w.heap.size+1) (.int .i64 y.kind) (.int .i64 y.num) (.slice A3' y.index.coefs.length c3') (.int .i64 y.index.const) (.string y.read.arr) (.slice A6' y.read.subs.length c6') (.slice A7' y.kids.length c7') := by
    refine ⟨?_, ?_, ?_, ?_, ?_, ?_, ?_⟩ <;> (rw [b1.cell (by simp [World.setCell]; try omega)]; go_simp)
  have S1 : Below w.heap.size w w1 := (by repeat (first | with_reducible exact Below.refl _ _ | refine Below.setCell ?_ (by simp; try omega) _ | refine below_al ?_ _ | refine Below.alloc ?_ (by simp [World.setCell]; try omega) _ | refine below_drewN ?_ _ | refine Below.drew ?_ | refine below_tr ?_ ‹Below _ _ _›))
  clear b1
  cases h3 : affSame x.index y.index with
  | false =>
    have HX := Lib.hid (HE.out.trans (by rw [h3, Bool.false_and])); clear h3
    go_wp2
    go_ret
    exact ⟨ret_bool HX.out.symm, (by repeat (first | with_reducible exact Below.refl _ _ | refine Below.setCell ?_ (by simp; try omega) _ | refine below_al ?_ _ | refine Below.alloc ?_ (by simp [World.setCell]; try omega) _ | refine below_drewN ?_ _ | refine Below.drew ?_ | refine below_tr ?_ ‹Below _ _ _›))⟩
  | true =>
  have HE3 := Lib.hid (HE.out.trans (by rw [h3, Bool.true_and])); clear h3
  go_wp2_with fail
  refine (l3SameAccess_c (Gread.out.below (by repeat (first | with_reducible exact Below.refl _ _ | refine Below.setCell ?_ (by simp; try omega) _ | refine below_al ?_ _ | refine Below.alloc ?_ (by simp [World.setCell]; try omega) _ | refine below_drewN ?_ _ | refine Below.drew ?_ | refine below_tr ?_ ‹Below _ _ _›))) (Gread'.out.below (by repeat (first | with_reducible exact Below.refl _ _ | refine Below.setCell ?_ (by simp; try omega) _ | refine below_al ?_ _ | refine Below.alloc ?_ (by simp [World.setCell]; try omega) _ | refine below_drewN ?_ _ | refine Below.drew ?_ | refine below_tr ?_ ‹Below _ _ _›)))).mono ?_
  rintro e w2 ⟨rfl, b2⟩
  have s2 : Below w1.heap.size w1 w2 := (by repeat (first | with_reducible exact Below.refl _ _ | refine Below.setCell ?_ (by simp; try omega) _ | refine below_al ?_ _ | refine Below.alloc ?_ (by simp [World.setCell]; try omega) _ | refine below_drewN ?_ _ | refine Below.drew ?_ | refine below_tr ?_ ‹Below _ _ _›))
  have P2 := P1.to s2; clear P1
  have Q2 := Q1.to s2; clear Q1
  have S2 : Below w.heap.size w w2 := below_tr S1 s2
  clear s2
  clear b2
  cases h4 : accSame x.read y.read with
  | false =>
    have HX := Lib.hid (HE3.out.trans (by rw [h4, Bool.false_and])); clear h4
    go_wp2
    go_ret
    exact ⟨ret_bool HX.out.symm, (by repeat (first | with_reducible exact Below.refl _ _ | refine Below.setCell ?_ (by simp; try omega) _ | refine below_al ?_ _ | refine Below.alloc ?_ (by simp [World.setCell]; try omega) _ | refine below_drewN ?_ _ | refine Below.drew ?_ | refine below_tr ?_ ‹Below _ _ _›))⟩
  | true =>
  have HE4 := Lib.hid (HE3.out.trans (by rw [h4, Bool.true_and])); clear h4
  go_wp2
  go_loopw [5] (fun i wr => ∃ j : Nat, j ≤ x.kids.length ∧ i = .int .i64 j ∧ allEq exSame x.kids y.kids = allEq exSame (x.kids.drop j) (y.kids.drop j) ∧ Box7 wr w.heap.size (.int .i64 x.kind) (.int .i64 x.num) (.slice A3 x.index.coefs.length c3) (.int .i64 x.index.const) (.string x.read.arr) (.slice A6 x.read.subs.length c6) (.slice A7 x.kids.length c7) ∧ Box7 wr (w.heap.size+1) (.int .i64 y.kind) (.int .i64 y.num) (.slice A3' y.index.coefs.length c3') (.int .i64 y.index.const) (.string y.read.arr) (.slice A6' y.read.subs.length c6') (.slice A7' y.kids.length c7') ∧ Below w.heap.size w wr) (fun i _ => x.kids.length - (intOf i).toNat)
  case atStart => exact ⟨0, Nat.zero_le _, rfl, by simp, P2, Q2, S2⟩
  case round =>
    clear P2 Q2 S2
    obtain ⟨j, hj, rfl, hi, Pr, Qr, hb⟩ := hrel
    have HI := Lib.hid hi; clear hi
    by_cases hlt : j < x.kids.length
    · have hlt2 : j < y.kids.length := by rw [← HL.out]; exact hlt
      have hd := Lib.hid (allEq_drop exSame x.kids y.kids j hlt hlt2)
      obtain ⟨be, oe, cse, le, rfl, hble, hre, _, _, hce⟩ := (Gkids.out.below hb).sls_at Ex.d_size (k := j) hlt
      have Ge := Lib.hid hre
      obtain ⟨A3e, c3e, A6e, c6e, A7e, c7e, d3e, d6e, d7e, rfl, rfl, g1e, g2e, g3e, g4e, g5e, g6e, g7e⟩ := Rep.ex_iff.1 hre
      have k0e := (hce 0 _ rfl).1; rw [Nat.add_zero] at k0e
      have k1e := (hce 1 _ rfl).1
      have k2e := (hce 2 _ rfl).1
      have k3e := (hce 3 _ rfl).1
      have k4e := (hce 4 _ rfl).1
      have k5e := (hce 5 _ rfl).1
      have k6e := (hce 6 _ rfl).1
      have Q1e := Lib.hid g1e
      have Q2e := Lib.hid g2e
      have Q3e := Lib.hid g3e
      have Q4e := Lib.hid g4e
      have Q5e := Lib.hid g5e
      have Q6e := Lib.hid g6e
      have Q7e := Lib.hid g7e
      clear hce hre g1e g2e g3e g4e g5e g6e g7e
      obtain ⟨bf, of, csf, lf, rfl, hblf, hrf, _, _, hcf⟩ := (Gkids'.out.below hb).sls_at Ex.d_size (k := j) hlt2
      have Gf := Lib.hid hrf
      obtain ⟨A3f, c3f, A6f, c6f, A7f, c7f, d3f, d6f, d7f, rfl, rfl, g1f, g2f, g3f, g4f, g5f, g6f, g7f⟩ := Rep.ex_iff.1 hrf
      have k0f := (hcf 0 _ rfl).1; rw [Nat.add_zero] at k0f
      have k1f := (hcf 1 _ rfl).1
      have k2f := (hcf 2 _ rfl).1
      have k3f := (hcf 3 _ rfl).1
      have k4f := (hcf 4 _ rfl).1
      have k5f := (hcf 5 _ rfl).1
      have k6f := (hcf 6 _ rfl).1
      have Q1f := Lib.hid g1f
      have Q2f := Lib.hid g2f
      have Q3f := Lib.hid g3f
      have Q4f := Lib.hid g4f
      have Q5f := Lib.hid g5f
      have Q6f := Lib.hid g6f
      have Q7f := Lib.hid g7f
      clear hcf hrf g1f g2f g3f g4f g5f g6f g7f
      have hja : (j : Int) < (y.kids.length : Int) := by omega
      go_wp2_with fail
      go_region_held3 (fun w' => Box7 w' w.heap.size (.int .i64 x.kind) (.int .i64 x.num) (.slice A3 x.index.coefs.length c3) (.int .i64 x.index.const) (.string x.read.arr) (.slice A6 x.read.subs.length c6) (.slice (some ⟨be, oe, none⟩) x.kids.length c7) ∧ Box7 w' (w.heap.size+1) (.int .i64 y.kind) (.int .i64 y.num) (.slice A3' y.index.coefs.length c3') (.int .i64 y.index.const) (.string y.read.arr) (.slice A6' y.read.subs.length c6') (.slice (some ⟨bf, of, none⟩) y.kids.length c7') ∧ (w'.cell? ⟨be, oe + j * 7, none⟩ = some (.int .i64 x.kids[j].kind) ∧ w'.cell? ⟨be, oe + j * 7 + 1, none⟩ = some (.int .i64 x.kids[j].num) ∧ w'.cell? ⟨be, oe + j * 7 + 2, none⟩ = some (.slice A3e x.kids[j].index.coefs.length c3e) ∧ w'.cell? ⟨be, oe + j * 7 + 3, none⟩ = some (.int .i64 x.kids[j].index.const) ∧ w'.cell? ⟨be, oe + j * 7 + 4, none⟩ = some (.string x.kids[j].read.arr) ∧ w'.cell? ⟨be, oe + j * 7 + 5, none⟩ = some (.slice A6e x.kids[j].read.subs.length c6e) ∧ w'.cell? ⟨be, oe + j * 7 + 6, none⟩ = some (.slice A7e x.kids[j].kids.length c7e)) ∧ (w'.cell? ⟨bf, of + j * 7, none⟩ = some (.int .i64 y.kids[j].kind) ∧ w'.cell? ⟨bf, of + j * 7 + 1, none⟩ = some (.int .i64 y.kids[j].num) ∧ w'.cell? ⟨bf, of + j * 7 + 2, none⟩ = some (.slice A3f y.kids[j].index.coefs.length c3f) ∧ w'.cell? ⟨bf, of + j * 7 + 3, none⟩ = some (.int .i64 y.kids[j].index.const) ∧ w'.cell? ⟨bf, of + j * 7 + 4, none⟩ = some (.string y.kids[j].read.arr) ∧ w'.cell? ⟨bf, of + j * 7 + 5, none⟩ = some (.slice A6f y.kids[j].read.subs.length c6f) ∧ w'.cell? ⟨bf, of + j * 7 + 6, none⟩ = some (.slice A7f y.kids[j].kids.length c7f))) (first | exact ⟨Pr, Qr, ⟨k0e, k1e, k2e, k3e, k4e, k5e, k6e⟩, ⟨k0f, k1f, k2f, k3f, k4f, k5f, k6f⟩⟩ | (refine ⟨Pr.to b3, Qr.to b3, ⟨?_, ?_, ?_, ?_, ?_, ?_, ?_⟩, ⟨?_, ?_, ?_, ?_, ?_, ?_, ?_⟩⟩ <;> (first | (rw [b3.cell hble]; assumption) | (rw [b3.cell hblf]; assumption))) | skip)
        (first | (go_at_call 87; refine (HREC.out _ (List.getElem_mem hlt) _ _ _ _ _ _ (Ge.out.drewN 1) (Gf.out.drewN 1)).mono ?_; rintro e w3 ⟨rfl, b3⟩; replace b3 := of_drew b3))
      have S3 := below_tr hb b3
      have P3 := Pr.to b3
      have Q3 := Qr.to b3
      clear b3 Pr Qr
      cases hp : exSame x.kids[j] y.kids[j] with
      | false =>
        have HX := Lib.hid (hd.out.trans (by rw [hp, Bool.false_and])); clear hp
        go_wp2
        go_ret
        exact ⟨ret_bool (by rw [HE4.out, HI.out, HX.out]), S3⟩
      | true =>
        have HX := Lib.hid (hd.out.trans (by rw [hp, Bool.true_and])); clear hp
        go_wp2
        go_roundw
        case rel => exact ⟨j + 1, by omega, by go_num, by rw [HI.out, HX.out], P3, Q3, S3⟩
        case measure => simp [intOf]; omega
    · have hjj : j = x.kids.length := by omega
      subst hjj
      go_wp2
      go_ret
      exact ⟨ret_bool (by rw [HE4.out, HI.out, List.drop_length, HL.out, List.drop_length]; rfl), hb⟩
theorem l3SameExpr_c (x : Ex) : SameEx x := Ex.ind (P := SameEx) (fun x hx => l3SameExpr_r hx) x

def ISameExK (x : Ex) : Prop := ∀ (y : Ex) (w : World) (cs cs' : List Value) (bs bs' : List Nat), Rep w x.d cs bs → Rep w y.d cs' bs' →
    Calls Try.prog 91 (#[.agg cs.toArray, .agg cs'.toArray] ++ #[]) w fun e w' => e = .returned (.bool (exSame x y)) ∧ Below w.heap.size w w'
theorem isame_k {x : Ex} (h : ISameEx x) : ISameExK x := fun y w cs cs' bs bs' r r' => h y w cs cs' bs bs' r r'
theorem exprSame_e : Enters Try.prog 91 := fun args W => by go_simp
set_option maxRecDepth 100000 in
set_option maxHeartbeats 4000000 in
theorem exprSame_r {x : Ex} (hrec : ∀ y ∈ x.kids, ISameEx y) : ISameEx x := by
  intro y w cs cs' bs bs' h h'
  have HREC := Lib.hid (show ∀ y ∈ x.kids, ISameExK y from fun y hy => isame_k (hrec y hy)); clear hrec
  have HE := Lib.hid (exSame_eq x y)
  obtain ⟨A3, c3, A6, c6, A7, c7, d3, d6, d7, rfl, rfl, g1, g2, g3, g4, g5, g6, g7⟩ := Rep.ex_iff.1 h
  have Gkind := Lib.hid g1
  have Gnum := Lib.hid g2
  have Gindex := Lib.hid ((Rep.aff_iff2 (x := x.index)).2 ⟨_, _, _, rfl, rfl, g3, g4⟩)
  have Gread := Lib.hid ((Rep.acc_iff (x := x.read)).2 ⟨_, _, _, rfl, rfl, g5, g6⟩)
  have Gkids := Lib.hid g7
  clear h g1 g2 g3 g4 g5 g6 g7
  obtain ⟨A3', c3', A6', c6', A7', c7', d3', d6', d7', rfl, rfl, g1', g2', g3', g4', g5', g6', g7'⟩ := Rep.ex_iff.1 h'
  have Gkind' := Lib.hid g1'
  have Gnum' := Lib.hid g2'
  have Gindex' := Lib.hid ((Rep.aff_iff2 (x := y.index)).2 ⟨_, _, _, rfl, rfl, g3', g4'⟩)
  have Gread' := Lib.hid ((Rep.acc_iff (x := y.read)).2 ⟨_, _, _, rfl, rfl, g5', g6'⟩)
  have Gkids' := Lib.hid g7'
  clear h' g1' g2' g3' g4' g5' g6' g7'
  cases h1 : (x.kind == y.kind) with
  | false =>
    have HX := Lib.hid (HE.out.trans (by rw [h1, Bool.false_and]))
    go_enter Try.func91, Try.ntmps91
    go_wp2
    go_ret
    exact ⟨ret_bool HX.out.symm, (by repeat (first | with_reducible exact Below.refl _ _ | refine Below.setCell ?_ (by simp; try omega) _ | refine below_al ?_ _ | refine Below.alloc ?_ (by simp [World.setCell]; try omega) _ | refine below_drewN ?_ _ | refine Below.drew ?_ | refine below_tr ?_ ‹Below _ _ _›))⟩
  | true =>
  have HE1 := Lib.hid (HE.out.trans (by rw [h1, Bool.true_and]))
  cases h2 : (x.num == y.num) with
  | false =>
    have HX := Lib.hid (HE1.out.trans (by rw [h2, Bool.false_and]))
    go_enter Try.func91, Try.ntmps91
    go_wp2
    go_ret
    exact ⟨ret_bool HX.out.symm, (by repeat (first | with_reducible exact Below.refl _ _ | refine Below.setCell ?_ (by simp; try omega) _ | refine below_al ?_ _ | refine Below.alloc ?_ (by simp [World.setCell]; try omega) _ | refine below_drewN ?_ _ | refine Below.drew ?_ | refine below_tr ?_ ‹Below _ _ _›))⟩
  | true =>
  have HE2 := Lib.hid (HE1.out.trans (by rw [h2, Bool.true_and]))
  go_enter Try.func91, Try.ntmps91
  go_wp2_with fail
  refine (implAffineSame_d (Gindex.out.below (by repeat (first | with_reducible exact Below.refl _ _ | refine Below.setCell ?_ (by simp; try omega) _ | refine below_al ?_ _ | refine Below.alloc ?_ (by simp [World.setCell]; try omega) _ | refine below_drewN ?_ _ | refine Below.drew ?_ | refine below_tr ?_ ‹Below _ _ _›))) (Gindex'.out.below (by repeat (first | with_reducible exact Below.refl _ _ | refine Below.setCell ?_ (by simp; try omega) _ | refine below_al ?_ _ | refine Below.alloc ?_ (by simp [World.setCell]; try omega) _ | refine below_drewN ?_ _ | refine Below.drew ?_ | refine below_tr ?_ ‹Below _ _ _›)))).mono ?_
  rintro e w1 ⟨rfl, b1⟩
  have P1 : Box7 w1 w.heap.size (.int .i64 x.kind) (.int .i64 x.num) (.slice A3 x.index.coefs.length c3) (.int .i64 x.index.const) (.string x.read.arr) (.slice A6 x.read.subs.length c6) (.slice A7 x.kids.length c7) := by
    refine ⟨?_, ?_, ?_, ?_, ?_, ?_, ?_⟩ <;> (rw [b1.cell (by simp [World.setCell]; try omega)]; go_simp)
  have Q1 : Box7 w1 (w.heap.size+1) (.int .i64 y.kind) (.int .i64 y.num) (.slice A3' y.index.coefs.length c3') (.int .i64 y.index.const) (.string y.read.arr) (.slice A6' y.read.subs.length c6') (.slice A7' y.kids.length c7') := by
    refine ⟨?_, ?_, ?_, ?_, ?_, ?_, ?_⟩ <;> (rw [b1.cell (by simp [World.setCell]; try omega)]; go_simp)
  have S1 : Below w.heap.size w w1 := (by repeat (first | with_reducible exact Below.refl _ _ | refine Below.setCell ?_ (by simp; try omega) _ | refine below_al ?_ _ | refine Below.alloc ?_ (by simp [World.setCell]; try omega) _ | refine below_drewN ?_ _ | refine Below.drew ?_ | refine below_tr ?_ ‹Below _ _ _›))
  clear b1
  cases h3 : affSame x.index y.index with
  | false =>
    have HX := Lib.hid (HE2.out.trans (by rw [h3, Bool.false_and])); clear h3
    go_wp2
    go_ret
    exact ⟨ret_bool HX.out.symm, (by repeat (first | with_reducible exact Below.refl _ _ | refine Below.setCell ?_ (by simp; try omega) _ | refine below_al ?_ _ | refine Below.alloc ?_ (by simp [World.setCell]; try omega) _ | refine below_drewN ?_ _ | refine Below.drew ?_ | refine below_tr ?_ ‹Below _ _ _›))⟩
  | true =>
  have HE3 := Lib.hid (HE2.out.trans (by rw [h3, Bool.true_and])); clear h3
  go_wp2_with fail
  refine (accessSame_c (Gread.out.below (by repeat (first | with_reducible exact Below.refl _ _ | refine Below.setCell ?_ (by simp; try omega) _ | refine below_al ?_ _ | refine Below.alloc ?_ (by simp [World.setCell]; try omega) _ | refine below_drewN ?_ _ | refine Below.drew ?_ | refine below_tr ?_ ‹Below _ _ _›))) (Gread'.out.below (by repeat (first | with_reducible exact Below.refl _ _ | refine Below.setCell ?_ (by simp; try omega) _ | refine below_al ?_ _ | refine Below.alloc ?_ (by simp [World.setCell]; try omega) _ | refine below_drewN ?_ _ | refine Below.drew ?_ | refine below_tr ?_ ‹Below _ _ _›)))).mono ?_
  rintro e w2 ⟨rfl, b2⟩
  have s2 : Below w1.heap.size w1 w2 := (by repeat (first | with_reducible exact Below.refl _ _ | refine Below.setCell ?_ (by simp; try omega) _ | refine below_al ?_ _ | refine Below.alloc ?_ (by simp [World.setCell]; try omega) _ | refine below_drewN ?_ _ | refine Below.drew ?_ | refine below_tr ?_ ‹Below _ _ _›))
  have P2 := P1.to s2; clear P1
  have Q2 := Q1.to s2; clear Q1
  have S2 : Below w.heap.size w w2 := below_tr S1 s2
  clear s2
  clear b2
  cases h4 : accSame x.read y.read with
  | false =>
    have HX := Lib.hid (HE3.out.trans (by rw [h4, Bool.false_and])); clear h4
    go_wp2
    go_ret
    exact ⟨ret_bool HX.out.symm, (by repeat (first | with_reducible exact Below.refl _ _ | refine Below.setCell ?_ (by simp; try omega) _ | refine below_al ?_ _ | refine Below.alloc ?_ (by simp [World.setCell]; try omega) _ | refine below_drewN ?_ _ | refine Below.drew ?_ | refine below_tr ?_ ‹Below _ _ _›))⟩
  | true =>
  have HE4 := Lib.hid (HE3.out.trans (by rw [h4, Bool.true_and])); clear h4
  go_wp2_with fail
  refine (EqualFunc_Expr_c (p := exSame) (Gkids.out.below (by repeat (first | with_reducible exact Below.refl _ _ | refine Below.setCell ?_ (by simp; try omega) _ | refine below_al ?_ _ | refine Below.alloc ?_ (by simp [World.setCell]; try omega) _ | refine below_drewN ?_ _ | refine Below.drew ?_ | refine below_tr ?_ ‹Below _ _ _›))) (Gkids'.out.below (by repeat (first | with_reducible exact Below.refl _ _ | refine Below.setCell ?_ (by simp; try omega) _ | refine below_al ?_ _ | refine Below.alloc ?_ (by simp [World.setCell]; try omega) _ | refine below_drewN ?_ _ | refine Below.drew ?_ | refine below_tr ?_ ‹Below _ _ _›))) exprSame_e fun x y cs bs cs' bs' W hx _ _ r r' => HREC.out x hx y W cs cs' bs bs' r r').mono ?_
  rintro e w3 ⟨rfl, b3⟩
  have s3 : Below w2.heap.size w2 w3 := (by repeat (first | with_reducible exact Below.refl _ _ | refine Below.setCell ?_ (by simp; try omega) _ | refine below_al ?_ _ | refine Below.alloc ?_ (by simp [World.setCell]; try omega) _ | refine below_drewN ?_ _ | refine Below.drew ?_ | refine below_tr ?_ ‹Below _ _ _›))
  have P3 := P2.to s3; clear P2
  have Q3 := Q2.to s3; clear Q2
  have S3 : Below w.heap.size w w3 := below_tr S2 s3
  clear s3
  clear b3
  go_wp2
  go_ret
  exact ⟨ret_bool HE4.out.symm, (by repeat (first | with_reducible exact Below.refl _ _ | refine Below.setCell ?_ (by simp; try omega) _ | refine below_al ?_ _ | refine Below.alloc ?_ (by simp [World.setCell]; try omega) _ | refine below_drewN ?_ _ | refine Below.drew ?_ | refine below_tr ?_ ‹Below _ _ _›))⟩
theorem exprSame_c (x : Ex) : ISameEx x := Ex.ind (P := ISameEx) (fun x hx => exprSame_r hx) x

theorem specStmtSame_c {w : World} {x y : Stm} {cs cs' : List Value} {bs bs' : List Nat} (h : Rep w x.d cs bs) (h' : Rep w y.d cs' bs') :
    Calls Try.prog 35 #[.agg cs.toArray, .agg cs'.toArray] w fun e w' => e = .returned (.bool (StmtSameF x y)) ∧ Below w.heap.size w w' := by
  unfold StmtSameF
  obtain ⟨A2, c2, A5, c5, A8, c8, A9, c9, d2, d5, d8, d9, rfl, rfl, g1, g2, g3, g4, g5, g6, g7, g8, g9⟩ := Rep.stm_iff.1 h
  have Gwrite := Lib.hid ((Rep.acc_iff (x := x.write)).2 ⟨_, _, _, rfl, rfl, g1, g2⟩)
  have Gvalue := Lib.hid ((Rep.ex_iff (x := x.value)).2 ⟨_, _, _, _, _, _, _, _, _, rfl, rfl, g3, g4, g5, g6, g7, g8, g9⟩)
  clear h g1 g2 g3 g4 g5 g6 g7 g8 g9
  obtain ⟨A2', c2', A5', c5', A8', c8', A9', c9', d2', d5', d8', d9', rfl, rfl, g1', g2', g3', g4', g5', g6', g7', g8', g9'⟩ := Rep.stm_iff.1 h'
  have Gwrite' := Lib.hid ((Rep.acc_iff (x := y.write)).2 ⟨_, _, _, rfl, rfl, g1', g2'⟩)
  have Gvalue' := Lib.hid ((Rep.ex_iff (x := y.value)).2 ⟨_, _, _, _, _, _, _, _, _, rfl, rfl, g3', g4', g5', g6', g7', g8', g9'⟩)
  clear h' g1' g2' g3' g4' g5' g6' g7' g8' g9'
  go_enter Try.func35, Try.ntmps35
  go_wp2_with fail
  refine (l3SameAccess_c (Gwrite.out.below (by repeat (first | with_reducible exact Below.refl _ _ | refine Below.setCell ?_ (by simp; try omega) _ | refine below_al ?_ _ | refine Below.alloc ?_ (by simp [World.setCell]; try omega) _ | refine below_drewN ?_ _ | refine Below.drew ?_ | refine below_tr ?_ ‹Below _ _ _›))) (Gwrite'.out.below (by repeat (first | with_reducible exact Below.refl _ _ | refine Below.setCell ?_ (by simp; try omega) _ | refine below_al ?_ _ | refine Below.alloc ?_ (by simp [World.setCell]; try omega) _ | refine below_drewN ?_ _ | refine Below.drew ?_ | refine below_tr ?_ ‹Below _ _ _›)))).mono ?_
  rintro e w1 ⟨rfl, b1⟩
  have P1 : Box9 w1 w.heap.size (.string x.write.arr) (.slice A2 x.write.subs.length c2) (.int .i64 x.value.kind) (.int .i64 x.value.num) (.slice A5 x.value.index.coefs.length c5) (.int .i64 x.value.index.const) (.string x.value.read.arr) (.slice A8 x.value.read.subs.length c8) (.slice A9 x.value.kids.length c9) := by
    refine ⟨?_, ?_, ?_, ?_, ?_, ?_, ?_, ?_, ?_⟩ <;> (rw [b1.cell (by simp [World.setCell]; try omega)]; go_simp)
  have Q1 : Box9 w1 (w.heap.size+1) (.string y.write.arr) (.slice A2' y.write.subs.length c2') (.int .i64 y.value.kind) (.int .i64 y.value.num) (.slice A5' y.value.index.coefs.length c5') (.int .i64 y.value.index.const) (.string y.value.read.arr) (.slice A8' y.value.read.subs.length c8') (.slice A9' y.value.kids.length c9') := by
    refine ⟨?_, ?_, ?_, ?_, ?_, ?_, ?_, ?_, ?_⟩ <;> (rw [b1.cell (by simp [World.setCell]; try omega)]; go_simp)
  have S1 : Below w.heap.size w w1 := (by repeat (first | with_reducible exact Below.refl _ _ | refine Below.setCell ?_ (by simp; try omega) _ | refine below_al ?_ _ | refine Below.alloc ?_ (by simp [World.setCell]; try omega) _ | refine below_drewN ?_ _ | refine Below.drew ?_ | refine below_tr ?_ ‹Below _ _ _›))
  clear b1
  cases h1 : accSame x.write y.write with
  | false =>
    go_wp2
    go_ret
    exact ⟨ret_bool (by rw [h1, Bool.false_and]), (by repeat (first | with_reducible exact Below.refl _ _ | refine Below.setCell ?_ (by simp; try omega) _ | refine below_al ?_ _ | refine Below.alloc ?_ (by simp [World.setCell]; try omega) _ | refine below_drewN ?_ _ | refine Below.drew ?_ | refine below_tr ?_ ‹Below _ _ _›))⟩
  | true =>
    go_wp2_with fail
    refine (l3SameExpr_c _ _ _ _ _ _ _ (Gvalue.out.below (by repeat (first | with_reducible exact Below.refl _ _ | refine Below.setCell ?_ (by simp; try omega) _ | refine below_al ?_ _ | refine Below.alloc ?_ (by simp [World.setCell]; try omega) _ | refine below_drewN ?_ _ | refine Below.drew ?_ | refine below_tr ?_ ‹Below _ _ _›))) (Gvalue'.out.below (by repeat (first | with_reducible exact Below.refl _ _ | refine Below.setCell ?_ (by simp; try omega) _ | refine below_al ?_ _ | refine Below.alloc ?_ (by simp [World.setCell]; try omega) _ | refine below_drewN ?_ _ | refine Below.drew ?_ | refine below_tr ?_ ‹Below _ _ _›)))).mono ?_
    rintro e w2 ⟨rfl, b2⟩
    have s2 : Below w1.heap.size w1 w2 := (by repeat (first | with_reducible exact Below.refl _ _ | refine Below.setCell ?_ (by simp; try omega) _ | refine below_al ?_ _ | refine Below.alloc ?_ (by simp [World.setCell]; try omega) _ | refine below_drewN ?_ _ | refine Below.drew ?_ | refine below_tr ?_ ‹Below _ _ _›))
    have P2 := P1.to s2; clear P1
    have Q2 := Q1.to s2; clear Q1
    have S2 : Below w.heap.size w w2 := below_tr S1 s2
    clear s2
    clear b2
    go_wp2
    go_ret
    exact ⟨ret_bool (by rw [h1, Bool.true_and]), (by repeat (first | with_reducible exact Below.refl _ _ | refine Below.setCell ?_ (by simp; try omega) _ | refine below_al ?_ _ | refine Below.alloc ?_ (by simp [World.setCell]; try omega) _ | refine below_drewN ?_ _ | refine Below.drew ?_ | refine below_tr ?_ ‹Below _ _ _›))⟩
theorem implStmtSame_c {w : World} {x y : Stm} {cs cs' : List Value} {bs bs' : List Nat} (h : Rep w x.d cs bs) (h' : Rep w y.d cs' bs') :
    Calls Try.prog 37 #[.agg cs.toArray, .agg cs'.toArray] w fun e w' => e = .returned (.bool (StmtSameF x y)) ∧ Below w.heap.size w w' := by
  unfold StmtSameF
  obtain ⟨A2, c2, A5, c5, A8, c8, A9, c9, d2, d5, d8, d9, rfl, rfl, g1, g2, g3, g4, g5, g6, g7, g8, g9⟩ := Rep.stm_iff.1 h
  have Gwrite := Lib.hid ((Rep.acc_iff (x := x.write)).2 ⟨_, _, _, rfl, rfl, g1, g2⟩)
  have Gvalue := Lib.hid ((Rep.ex_iff (x := x.value)).2 ⟨_, _, _, _, _, _, _, _, _, rfl, rfl, g3, g4, g5, g6, g7, g8, g9⟩)
  clear h g1 g2 g3 g4 g5 g6 g7 g8 g9
  obtain ⟨A2', c2', A5', c5', A8', c8', A9', c9', d2', d5', d8', d9', rfl, rfl, g1', g2', g3', g4', g5', g6', g7', g8', g9'⟩ := Rep.stm_iff.1 h'
  have Gwrite' := Lib.hid ((Rep.acc_iff (x := y.write)).2 ⟨_, _, _, rfl, rfl, g1', g2'⟩)
  have Gvalue' := Lib.hid ((Rep.ex_iff (x := y.value)).2 ⟨_, _, _, _, _, _, _, _, _, rfl, rfl, g3', g4', g5', g6', g7', g8', g9'⟩)
  clear h' g1' g2' g3' g4' g5' g6' g7' g8' g9'
  go_enter Try.func37, Try.ntmps37
  go_wp2_with fail
  refine (accessSame_c (Gwrite.out.below (by repeat (first | with_reducible exact Below.refl _ _ | refine Below.setCell ?_ (by simp; try omega) _ | refine below_al ?_ _ | refine Below.alloc ?_ (by simp [World.setCell]; try omega) _ | refine below_drewN ?_ _ | refine Below.drew ?_ | refine below_tr ?_ ‹Below _ _ _›))) (Gwrite'.out.below (by repeat (first | with_reducible exact Below.refl _ _ | refine Below.setCell ?_ (by simp; try omega) _ | refine below_al ?_ _ | refine Below.alloc ?_ (by simp [World.setCell]; try omega) _ | refine below_drewN ?_ _ | refine Below.drew ?_ | refine below_tr ?_ ‹Below _ _ _›)))).mono ?_
  rintro e w1 ⟨rfl, b1⟩
  have P1 : Box9 w1 w.heap.size (.string x.write.arr) (.slice A2 x.write.subs.length c2) (.int .i64 x.value.kind) (.int .i64 x.value.num) (.slice A5 x.value.index.coefs.length c5) (.int .i64 x.value.index.const) (.string x.value.read.arr) (.slice A8 x.value.read.subs.length c8) (.slice A9 x.value.kids.length c9) := by
    refine ⟨?_, ?_, ?_, ?_, ?_, ?_, ?_, ?_, ?_⟩ <;> (rw [b1.cell (by simp [World.setCell]; try omega)]; go_simp)
  have Q1 : Box9 w1 (w.heap.size+1) (.string y.write.arr) (.slice A2' y.write.subs.length c2') (.int .i64 y.value.kind) (.int .i64 y.value.num) (.slice A5' y.value.index.coefs.length c5') (.int .i64 y.value.index.const) (.string y.value.read.arr) (.slice A8' y.value.read.subs.length c8') (.slice A9' y.value.kids.length c9') := by
    refine ⟨?_, ?_, ?_, ?_, ?_, ?_, ?_, ?_, ?_⟩ <;> (rw [b1.cell (by simp [World.setCell]; try omega)]; go_simp)
  have S1 : Below w.heap.size w w1 := (by repeat (first | with_reducible exact Below.refl _ _ | refine Below.setCell ?_ (by simp; try omega) _ | refine below_al ?_ _ | refine Below.alloc ?_ (by simp [World.setCell]; try omega) _ | refine below_drewN ?_ _ | refine Below.drew ?_ | refine below_tr ?_ ‹Below _ _ _›))
  clear b1
  cases h1 : accSame x.write y.write with
  | false =>
    go_wp2
    go_ret
    exact ⟨ret_bool (by rw [h1, Bool.false_and]), (by repeat (first | with_reducible exact Below.refl _ _ | refine Below.setCell ?_ (by simp; try omega) _ | refine below_al ?_ _ | refine Below.alloc ?_ (by simp [World.setCell]; try omega) _ | refine below_drewN ?_ _ | refine Below.drew ?_ | refine below_tr ?_ ‹Below _ _ _›))⟩
  | true =>
    go_wp2_with fail
    refine (exprSame_c _ _ _ _ _ _ _ (Gvalue.out.below (by repeat (first | with_reducible exact Below.refl _ _ | refine Below.setCell ?_ (by simp; try omega) _ | refine below_al ?_ _ | refine Below.alloc ?_ (by simp [World.setCell]; try omega) _ | refine below_drewN ?_ _ | refine Below.drew ?_ | refine below_tr ?_ ‹Below _ _ _›))) (Gvalue'.out.below (by repeat (first | with_reducible exact Below.refl _ _ | refine Below.setCell ?_ (by simp; try omega) _ | refine below_al ?_ _ | refine Below.alloc ?_ (by simp [World.setCell]; try omega) _ | refine below_drewN ?_ _ | refine Below.drew ?_ | refine below_tr ?_ ‹Below _ _ _›)))).mono ?_
    rintro e w2 ⟨rfl, b2⟩
    have s2 : Below w1.heap.size w1 w2 := (by repeat (first | with_reducible exact Below.refl _ _ | refine Below.setCell ?_ (by simp; try omega) _ | refine below_al ?_ _ | refine Below.alloc ?_ (by simp [World.setCell]; try omega) _ | refine below_drewN ?_ _ | refine Below.drew ?_ | refine below_tr ?_ ‹Below _ _ _›))
    have P2 := P1.to s2; clear P1
    have Q2 := Q1.to s2; clear Q1
    have S2 : Below w.heap.size w w2 := below_tr S1 s2
    clear s2
    clear b2
    go_wp2
    go_ret
    exact ⟨ret_bool (by rw [h1, Bool.true_and]), (by repeat (first | with_reducible exact Below.refl _ _ | refine Below.setCell ?_ (by simp; try omega) _ | refine below_al ?_ _ | refine Below.alloc ?_ (by simp [World.setCell]; try omega) _ | refine below_drewN ?_ _ | refine Below.drew ?_ | refine below_tr ?_ ‹Below _ _ _›))⟩
theorem implStmtSame_k {w : World} {x y : Stm} {cs cs' : List Value} {bs bs' : List Nat} (h : Rep w x.d cs bs) (h' : Rep w y.d cs' bs') :
    Calls Try.prog 37 (#[.agg cs.toArray, .agg cs'.toArray] ++ #[]) w fun e w' => e = .returned (.bool (StmtSameF x y)) ∧ Below w.heap.size w w' := implStmtSame_c h h'
theorem implStmtSame_e : Enters Try.prog 37 := fun args W => by go_simp
end Go.Proofs.Ytlllidhmohdgiaa
