/- Validity of statements: the parts of an expression's node, of both sides. -/
import Derived.Test.YtbhniobgaoncaaaGreatDoorZpBasic
import Derived.Test.YtbhniobgaoncaaaGreatDoorZpNestValid
import Derived.Test.YtbhniobgaoncaaaGreatDoorZpTyStmt
set_option linter.all false
set_option linter.unusedSimpArgs false
set_option linter.unusedVariables false
namespace Go.Proofs.YtbhniobgaoncaaaGreatDoor
open Go.ChangeShapes Go.WideShapes Go.ChangeAt Go.RowKit Go.Deep

def noAff (a : Aff) : Bool := decide (a.coefs.length = 0) && decide (a.const = 0)
def noAcc (a : Acc) : Bool := decide (a.arr.toList = []) && decide (a.subs.length = 0)
def accOk (a : Acc) (d : Int) : Bool := arrOk a.arr && sideOk a.subs d
/-- a node's own fields -/
def ownF (x : Ex) (d : Int) : Bool :=
  if x.kind = 2 then decide (x.num = 0) && (noAcc x.read && (affOk x.index && decide ((depF x.index.coefs : Int) ≤ d)))
  else if x.kind = 3 then decide (x.num = 0) && (noAff x.index && accOk x.read d)
  else if x.kind = 1 then inB x.num 0 99 && (noAff x.index && noAcc x.read)
  else decide (x.num = 0) && (noAff x.index && noAcc x.read)
def kidsN (k : Int) : Int := if k = 1 ∨ k = 2 ∨ k = 3 then 0 else if k = 4 ∨ k = 5 ∨ k = 6 then 2 else -1

theorem l3None_c {w : World} {x : Aff} {cs : List Value} {bs : List Nat} (h : Rep w x.d cs bs) :
    Calls Tryz.prog 245 #[.agg cs.toArray] w fun e w' => e = .returned (.bool (noAff x)) ∧ Below w.heap.size w w' := by
  unfold noAff
  obtain ⟨A1, c1, d1, rfl, rfl, g1, g2⟩ := Rep.aff_iff2.1 h
  have Gcoefs := Lib.hid g1
  have Gconst := Lib.hid g2
  clear h g1 g2
  by_cases h1 : x.coefs.length = 0
  case neg =>
    have q1 : ((x.coefs.length : Int) == 0) = false := ieq_f (by omega)
    rw [decide_eq_false h1]
    go_enter Tryz.func245, Tryz.ntmps245
    go_wp2
    go_ret
    exact ⟨rfl, bel⟩
  case pos =>
    have q1 : ((x.coefs.length : Int) == 0) = true := ieq_t (by omega)
    rw [decide_eq_true h1, Bool.true_and]
    by_cases h2 : x.const = 0
    case neg =>
      have q2 : (x.const == 0) = false := ieq_f (by omega)
      rw [decide_eq_false h2]
      go_enter Tryz.func245, Tryz.ntmps245
      go_wp2
      go_ret
      exact ⟨rfl, bel⟩
    case pos =>
      have q2 : (x.const == 0) = true := ieq_t (by omega)
      rw [decide_eq_true h2]
      go_enter Tryz.func245, Tryz.ntmps245
      go_wp2
      go_ret
      exact ⟨rfl, bel⟩
theorem noAffine_c {w : World} {x : Aff} {cs : List Value} {bs : List Nat} (h : Rep w x.d cs bs) :
    Calls Tryz.prog 215 #[.agg cs.toArray] w fun e w' => e = .returned (.bool (noAff x)) ∧ Below w.heap.size w w' := by
  unfold noAff
  obtain ⟨A1, c1, d1, rfl, rfl, g1, g2⟩ := Rep.aff_iff2.1 h
  have Gcoefs := Lib.hid g1
  have Gconst := Lib.hid g2
  clear h g1 g2
  by_cases h1 : x.coefs.length = 0
  case neg =>
    have q1 : ((x.coefs.length : Int) == 0) = false := ieq_f (by omega)
    rw [decide_eq_false h1]
    go_enter Tryz.func215, Tryz.ntmps215
    go_wp2
    go_ret
    exact ⟨rfl, bel⟩
  case pos =>
    have q1 : ((x.coefs.length : Int) == 0) = true := ieq_t (by omega)
    rw [decide_eq_true h1, Bool.true_and]
    by_cases h2 : x.const = 0
    case neg =>
      have q2 : (x.const == 0) = false := ieq_f (by omega)
      rw [decide_eq_false h2]
      go_enter Tryz.func215, Tryz.ntmps215
      go_wp2
      go_ret
      exact ⟨rfl, bel⟩
    case pos =>
      have q2 : (x.const == 0) = true := ieq_t (by omega)
      rw [decide_eq_true h2]
      go_enter Tryz.func215, Tryz.ntmps215
      go_wp2
      go_ret
      exact ⟨rfl, bel⟩
theorem l3Empty_c {w : World} {x : Acc} {cs : List Value} {bs : List Nat} (h : Rep w x.d cs bs) :
    Calls Tryz.prog 244 #[.agg cs.toArray] w fun e w' => e = .returned (.bool (noAcc x)) ∧ Below w.heap.size w w' := by
  unfold noAcc
  obtain ⟨A2, c2, d2, rfl, rfl, g1, g2⟩ := Rep.acc_iff.1 h
  have Garr := Lib.hid g1
  have Gsubs := Lib.hid g2
  clear h g1 g2
  by_cases h1 : x.arr.toList = []
  case neg =>
    rw [decide_eq_false h1]
    go_enter Tryz.func244, Tryz.ntmps244
    go_wp2
    go_ret
    exact ⟨rfl, bel⟩
  case pos =>
    rw [decide_eq_true h1, Bool.true_and]
    by_cases h2 : x.subs.length = 0
    case neg =>
      have q2 : ((x.subs.length : Int) == 0) = false := ieq_f (by omega)
      rw [decide_eq_false h2]
      go_enter Tryz.func244, Tryz.ntmps244
      go_wp2
      go_ret
      exact ⟨rfl, bel⟩
    case pos =>
      have q2 : ((x.subs.length : Int) == 0) = true := ieq_t (by omega)
      rw [decide_eq_true h2]
      go_enter Tryz.func244, Tryz.ntmps244
      go_wp2
      go_ret
      exact ⟨rfl, bel⟩
theorem noAccess_c {w : World} {x : Acc} {cs : List Value} {bs : List Nat} (h : Rep w x.d cs bs) :
    Calls Tryz.prog 216 #[.agg cs.toArray] w fun e w' => e = .returned (.bool (noAcc x)) ∧ Below w.heap.size w w' := by
  unfold noAcc
  obtain ⟨A2, c2, d2, rfl, rfl, g1, g2⟩ := Rep.acc_iff.1 h
  have Garr := Lib.hid g1
  have Gsubs := Lib.hid g2
  clear h g1 g2
  by_cases h1 : x.arr.toList = []
  case neg =>
    rw [decide_eq_false h1]
    go_enter Tryz.func216, Tryz.ntmps216
    go_wp2
    go_ret
    exact ⟨rfl, bel⟩
  case pos =>
    rw [decide_eq_true h1, Bool.true_and]
    by_cases h2 : x.subs.length = 0
    case neg =>
      have q2 : ((x.subs.length : Int) == 0) = false := ieq_f (by omega)
      rw [decide_eq_false h2]
      go_enter Tryz.func216, Tryz.ntmps216
      go_wp2
      go_ret
      exact ⟨rfl, bel⟩
    case pos =>
      have q2 : ((x.subs.length : Int) == 0) = true := ieq_t (by omega)
      rw [decide_eq_true h2]
      go_enter Tryz.func216, Tryz.ntmps216
      go_wp2
      go_ret
      exact ⟨rfl, bel⟩
theorem isOp_c (k : Int) (w : World) : Calls Tryz.prog 217 #[.int .i64 k] w fun e w' => e = .returned (.bool (inB k 4 6)) ∧ w = w' := by
  go_enter Tryz.func217, Tryz.ntmps217
  go_wp2_with fail
  refine (within_c _ _ _ _).mono ?_
  rintro e w' ⟨rfl, rfl⟩
  go_wp2
  go_ret
  exact ⟨rfl, rfl⟩
theorem l3Kids_c (k : Int) (w : World) : Calls Tryz.prog 198 #[.int .i64 k] w fun e w' => e = .returned (.int .i64 (kidsN k)) ∧ w = w' := by
  unfold kidsN
  go_enter Tryz.func198, Tryz.ntmps198
  go_wp2
  all_goals (go_ret; refine ⟨?_, rfl⟩; simp_all)
section
variable {w : World} {A : Option Addr} {n c : Nat} {bs : List Nat}
set_option maxHeartbeats 2000000 in
theorem accessOk1_c {x : Aff} {cs : List Value} {dp : Int} {g : Nat} (h : Rep w x.d cs bs) (hg : w.cell? ⟨g, 0, none⟩ = some (.int .i64 dp)) :
    Calls Tryz.prog 214 (#[.agg cs.toArray] ++ #[.pointer (some ⟨g, 0, none⟩)]) w fun e w' => e = .returned (.bool (affBad dp x)) ∧ Below w.heap.size w w' := by
  show Calls Tryz.prog 214 #[.agg cs.toArray, .pointer (some ⟨g, 0, none⟩)] w _
  have G := Lib.hid h
  obtain ⟨A1, c1, d1, rfl, rfl, g1, g2⟩ := Rep.aff_iff2.1 h
  clear h g1 g2
  have hgl := lt_of_cell hg
  have hg2 : (w.alloc (.cells #[.slice A1 x.coefs.length c1, .int .i64 x.const] 46)).cell? ⟨g, 0, none⟩ = some (.int .i64 dp) := by rw [World.cell?_alloc_lt _ _ _ hgl]; exact hg
  have P0 := Box2.new w (.slice A1 x.coefs.length c1) (.int .i64 x.const) 46
  have B0 : Below w.heap.size w (w.alloc (.cells #[.slice A1 x.coefs.length c1, .int .i64 x.const] 46)) := bel
  obtain ⟨W, hW⟩ : ∃ W, W = w.alloc (.cells #[.slice A1 x.coefs.length c1, .int .i64 x.const] 46) := ⟨_, rfl⟩
  rw [← hW] at hg2 P0 B0
  have HW := Lib.hid hW; clear hW
  have G0 := Lib.hid (G.out.below B0)
  cases hv : affOk x with
  | false =>
    have HX := Lib.hid (show affBad dp x = false ∨ affBad dp x = true by cases affBad dp x <;> simp)
    have HY := Lib.hid (affBad_no (d := dp) hv)
    have HV := Lib.hid hv; clear hv
    go_enter Tryz.func214, Tryz.ntmps214
    go_wp2
    rw [← HW.out]
    refine wp_region_noPanic ?_
    refine wp_region_held_drew (S := fun w' => Box2 w' w.heap.size (.slice A1 x.coefs.length c1) (.int .i64 x.const) ∧ w'.cell? ⟨g, 0, none⟩ = some (.int .i64 dp)) (by kernel_rfl) (⟨P0, hg2⟩) (fun hHeld => ?_)
    refine goR 0 hHeld ?_
    refine stepR (i := 1) rfl (by kernel_rfl) (wanted_none rfl) (fun K hK => ?_)
    go_simp
    (refine (implAffineValid_d (G0.out.drewN 1)).mono ?_; rintro e w1 ⟨he, b1⟩; rw [HV.out] at he; subst he; replace b1 := of_drew b1)
    go_wp2_with fail
    refine hK.out _ _ (⟨P0.to b1, by rw [b1.cell (lt_of_cell hg2)]; exact hg2⟩) (fun hHeld => ?_)
    clear hK K
    try simp only [Act.put, aq0, aq1, aq2]
    refine goR 2 hHeld ?_
    refine goR 3 hHeld ?_
    refine goS 4 hHeld ?_
    refine goS 5 hHeld ?_
    refine goS 6 hHeld ?_
    refine goS 7 hHeld ?_
    refine goR 8 hHeld ?_
    refine goR 9 hHeld ?_
    refine wpAnyH_done (by kernel_rfl) ?_ _
    refine NoPanic.normal ?_
    go_wp2
    go_ret
    exact ⟨ret_bool HY.out.symm, below_tr B0 b1⟩
  | true =>
    have HV := Lib.hid hv; clear hv
    have HY := Lib.hid (show affBad dp x = decide (dp < (depF x.coefs : Int)) by simp [affBad, HV.out])
    go_enter Tryz.func214, Tryz.ntmps214
    go_wp2
    rw [← HW.out]
    refine wp_region_noPanic ?_
    refine wp_region_held_drew (S := fun w' => Box2 w' w.heap.size (.slice A1 x.coefs.length c1) (.int .i64 x.const) ∧ w'.cell? ⟨g, 0, none⟩ = some (.int .i64 dp)) (by kernel_rfl) (⟨P0, hg2⟩) (fun hHeld => ?_)
    refine goR 0 hHeld ?_
    refine stepR (i := 1) rfl (by kernel_rfl) (wanted_none rfl) (fun K hK => ?_)
    go_simp
    (refine (implAffineValid_d (G0.out.drewN 1)).mono ?_; rintro e w1 ⟨he, b1⟩; rw [HV.out] at he; subst he; replace b1 := of_drew b1)
    go_wp2_with fail
    refine hK.out _ _ (⟨P0.to b1, by rw [b1.cell (lt_of_cell hg2)]; exact hg2⟩) (fun hHeld => ?_)
    clear hK K
    try simp only [Act.put, aq0, aq1, aq2]
    refine goR 2 hHeld ?_
    refine goR 3 hHeld ?_
    refine goG 4 hHeld ?_
    refine goG 6 hHeld ?_
    refine stepR (i := 5) rfl (by kernel_rfl) (by kernel_rfl) (fun K hK => ?_)
    go_simp
    (refine (depth_d (G0.out.below b1)).mono ?_; rintro e w2 ⟨rfl, b2⟩)
    go_wp2_with fail
    refine hK.out _ _ (⟨(P0.to b1).to b2, by rw [b2.cell (Nat.lt_of_lt_of_le (lt_of_cell hg2) b1.size), b1.cell (lt_of_cell hg2)]; exact hg2⟩) (fun hHeld => ?_)
    clear hK K
    try simp only [Act.put, aq0, aq1, aq2]
    refine goG 7 hHeld ?_
    refine goR 8 hHeld ?_
    refine goR 9 hHeld ?_
    refine wpAnyH_done (by kernel_rfl) ?_ _
    refine NoPanic.normal ?_
    go_wp2
    go_ret
    exact ⟨ret_bool HY.out.symm, below_tr (below_tr B0 b1) b2⟩
theorem accessOk1_e : Enters Tryz.prog 214 := fun args W => by go_simp
end

theorem sideOk_in (xs : List Aff) (d : Int) : sideOk xs d = (inB (xs.length : Int) 1 2 && !xs.any (affBad d)) := by
  unfold sideOk
  cases hv : inB (xs.length : Int) 1 2 with
  | false =>
    by_cases l1 : 1 ≤ xs.length
    · by_cases l2 : xs.length ≤ 2
      · rw [inB_true (by omega) (by omega)] at hv; cases hv
      · simp [l2]
    · simp only [l1, decide_false, Bool.false_and]
  | true =>
    have := inB_iff.1 hv
    simp only [show (1 ≤ xs.length) = True from eq_true (by omega), show (xs.length ≤ 2) = True from eq_true (by omega), decide_true, Bool.true_and]

set_option maxHeartbeats 2000000 in
theorem accessOk_c {w : World} {x : Acc} {cs : List Value} {bs : List Nat} {dp : Int} (h : Rep w x.d cs bs) :
    Calls Tryz.prog 163 #[.agg cs.toArray, .int .i64 dp] w fun e w' => e = .returned (.bool (accOk x dp)) ∧ Below w.heap.size w w' := by
  have HX := Lib.hid (show accOk x dp = (arrOk x.arr && (inB (x.subs.length : Int) 1 2 && !x.subs.any (affBad dp))) by rw [accOk, sideOk_in])
  obtain ⟨A2, c2, d2, rfl, rfl, g1, g2⟩ := Rep.acc_iff.1 h
  have Garr := Lib.hid g1
  have Gsubs := Lib.hid g2
  clear h g1 g2
  have hn : x.subs.length ≤ 9223372036854775807 := Nat.le_trans Gsubs.out.sls_len.2.1 Gsubs.out.sls_len.2.2
  go_enter Tryz.func163, Tryz.ntmps163
  go_wp2_with fail
  refine (isArray_c _ Garr.out _).mono ?_
  rintro e w' ⟨rfl, rfl⟩
  cases hc_ : arrOk x.arr with
  | false =>
    have HF_ := Lib.hid (HX.out.trans (by rw [hc_, Bool.false_and])); clear hc_
    go_wp2
    go_ret
    exact ⟨ret_bool HF_.out.symm, bel⟩
  | true =>
  have HX1 := Lib.hid (HX.out.trans (by rw [hc_, Bool.true_and])); clear hc_
  go_wp2_with fail
  refine (within_c _ _ _ _).mono ?_
  rintro e w' ⟨rfl, rfl⟩
  cases hc_ : inB (x.subs.length : Int) 1 2 with
  | false =>
    have HF_ := Lib.hid (HX1.out.trans (by rw [hc_, Bool.false_and])); clear hc_
    go_wp2
    go_ret
    exact ⟨ret_bool HF_.out.symm, bel⟩
  | true =>
  have HX2 := Lib.hid (HX1.out.trans (by rw [hc_, Bool.true_and])); clear hc_
  go_wp2_with fail
  refine (ContainsFunc_Affine_c (p := affBad dp) (Gsubs.out.below bel) accessOk1_e fun x cs bs W _ hb r => accessOk1_c r (by rw [hb.cell (by simp)]; go_simp)).mono ?_
  rintro e w1 ⟨rfl, b1⟩
  have S1 : Below w.heap.size w w1 := bel
  clear b1
  go_wp2
  go_ret
  exact ⟨ret_bool HX2.out.symm, bel⟩

set_option maxHeartbeats 4000000 in
theorem l3Access_c {w : World} {x : Acc} {cs : List Value} {bs : List Nat} {dp : Int} (h : Rep w x.d cs bs) :
    Calls Tryz.prog 153 #[.agg cs.toArray, .int .i64 dp] w fun e w' => e = .returned (.bool (accOk x dp)) ∧ Below w.heap.size w w' := by
  obtain ⟨A2, c2, d2, rfl, rfl, g1, g2⟩ := Rep.acc_iff.1 h
  have Garr := Lib.hid g1
  have Gsubs := Lib.hid g2
  clear h g1 g2
  have hn : x.subs.length ≤ 9223372036854775807 := Nat.le_trans Gsubs.out.sls_len.2.1 Gsubs.out.sls_len.2.2
  have hns : x.arr.size ≤ 9223372036854775807 := Nat.le_trans Garr.out (by unfold maxLen; omega)
  have P0 := Box2.new w (.string x.arr) (.slice A2 x.subs.length c2) 43
  have B0 : Below w.heap.size w (w.alloc (.cells #[.string x.arr, .slice A2 x.subs.length c2] 43)) := bel
  go_enter Tryz.func153, Tryz.ntmps153
  go_wp2
  go_loopw [5] (fun i wr => ∃ j : Nat, j ≤ x.subs.length ∧ i = .int .i64 j ∧ x.subs.any (affBad dp) = (x.subs.drop j).any (affBad dp) ∧ Box2 wr w.heap.size (.string x.arr) (.slice A2 x.subs.length c2) ∧ Below w.heap.size w wr) (fun i _ => x.subs.length - (intOf i).toNat)
  case atStart => exact ⟨0, Nat.zero_le _, rfl, by simp, P0, B0⟩
  case round =>
    clear P0 B0
    obtain ⟨j, hj, rfl, hi, Pr, hb⟩ := hrel
    have HI := Lib.hid hi; clear hi
    by_cases hlt : j < x.subs.length
    · have HD := Lib.hid (any_drop (affBad dp) x.subs j hlt)
      obtain ⟨be, oe, cse, le, rfl, hble, hre, _, _, hce⟩ := (Gsubs.out.below hb).sls_at Aff.d_size (k := j) hlt
      have Ge := Lib.hid hre
      obtain ⟨A1e, c1e, d1e, rfl, rfl, g1e, g2e⟩ := Rep.aff_iff2.1 hre
      have k0e := (hce 0 _ rfl).1; rw [Nat.add_zero] at k0e
      have k1e := (hce 1 _ rfl).1
      have Q1e := Lib.hid g1e
      have Q2e := Lib.hid g2e
      clear hce hre g1e g2e
      go_wp2_with fail
      refine (specAffineValid_d (Ge.out.below bel)).mono ?_
      rintro e w1 ⟨rfl, b1⟩
      have s1 : Below wr.heap.size wr w1 := bel
      have P1 := Pr.to s1; clear Pr
      have k0e_1 := (s1.cell hble).trans k0e; clear k0e
      have k1e_1 := (s1.cell hble).trans k1e; clear k1e
      have hble_1 := Nat.lt_of_lt_of_le hble s1.size; clear hble
      have S1 : Below w.heap.size w w1 := below_tr hb s1
      have T1 : Below wr.heap.size wr w1 := s1
      clear s1
      clear b1
      cases hv : affOk x.subs[j] with
      | false =>
        have HA := Lib.hid (show accOk x dp = false by rw [accOk, sideOk_in, HI.out, HD.out, affBad_no hv, Bool.true_or, Bool.not_true, Bool.and_false, Bool.and_false])
        clear hv
        go_wp2
        go_ret
        exact ⟨ret_bool HA.out.symm, bel⟩
      | true =>
      have HV := Lib.hid hv; clear hv
      go_wp2_with fail
      refine (l1Depth_d (Ge.out.below bel)).mono ?_
      rintro e w2 ⟨rfl, b2⟩
      have s2 : Below w1.heap.size w1 w2 := bel
      have P2 := P1.to s2; clear P1
      have k0e_2 := (s2.cell hble_1).trans k0e_1; clear k0e_1
      have k1e_2 := (s2.cell hble_1).trans k1e_1; clear k1e_1
      have hble_2 := Nat.lt_of_lt_of_le hble_1 s2.size; clear hble_1
      have S2 : Below w.heap.size w w2 := below_tr S1 s2
      have T2 : Below wr.heap.size wr w2 := below_tr T1 s2; clear T1
      clear s2
      clear b2
      by_cases hd : dp < (depF x.subs[j].coefs : Int)
      · have HA := Lib.hid (show accOk x dp = false by rw [accOk, sideOk_in, HI.out, HD.out, affBad_deep HV.out hd, Bool.true_or, Bool.not_true, Bool.and_false, Bool.and_false])
        go_wp2
        go_ret
        exact ⟨ret_bool HA.out.symm, bel⟩
      · have HA := Lib.hid (show (x.subs.drop j).any (affBad dp) = (x.subs.drop (j + 1)).any (affBad dp) by rw [HD.out, affBad_ok HV.out hd, Bool.false_or])
        go_wp2
        go_roundw
        case rel => exact ⟨j + 1, by omega, by go_num, by rw [HI.out, HA.out], P2, S2⟩
        case measure => simp [intOf]; omega
    · have hjj : j = x.subs.length := by omega
      subst hjj
      have HA := Lib.hid (show accOk x dp = (arrOk x.arr && inB (x.subs.length : Int) 1 2) by rw [accOk, sideOk_in, HI.out, List.drop_length]; simp)
      by_cases h1 : x.arr.size = 1
      · obtain ⟨c, hc⟩ := one_byte h1
        rw [hc, arrL_one] at HA
        have HB := Lib.hid HA.out; clear HA
        go_wp2
        · rename_i h2
          rw [bl_one] at h2
          have h3 : c.toNat < 65 := of_decide_eq_true h2
          go_ret
          exact ⟨ret_bool (by rw [HB.out, decide_eq_false (show ¬ 65 ≤ c.toNat by omega), Bool.false_and, Bool.false_and]), hb⟩
        · rename_i h2 h3 h4
          have h5 : ¬ c.toNat < 65 := fun h => h2 (by rw [bl_one]; exact decide_eq_true h)
          have h6 : c.toNat ≤ 68 := by
            rcases h3 with h3 | rfl
            · rw [bl_one] at h3; have := of_decide_eq_true h3; exact Nat.le_of_lt this
            · exact Nat.le_refl _
          have h7 : (Op.bytesLess [c] [68] || c == 68) = true := by rcases h3 with h3 | h3 <;> simp [h3]
          go_ret
          exact ⟨ret_bool (by rw [HB.out, h7, decide_eq_true (show 65 ≤ c.toNat by omega), decide_eq_true h6, inB, decide_eq_true h4]; simp), hb⟩
        · rename_i h2 h3 h4
          go_ret
          exact ⟨ret_bool (by rw [HB.out, inB, decide_eq_false (show ¬ (1 : Int) ≤ (x.subs.length : Int) by omega)]; simp), hb⟩
        · rename_i h2 h3
          have h5 : ¬ c.toNat ≤ 68 := fun h => h3 (by
            rw [bl_one]
            by_cases he : c.toNat = 68
            · exact .inr (UInt8.toNat_inj.1 he)
            · exact .inl (decide_eq_true (show c.toNat < 68 by omega)))
          go_ret
          exact ⟨ret_bool (by rw [HB.out, decide_eq_false h5, Bool.and_false, Bool.false_and]), hb⟩
      · have q1 : ((x.arr.size : Int) == 1) = false := ieq_f (by omega)
        have HB := Lib.hid (HA.out.trans (by rw [arrOk_ne h1, Bool.false_and]))
        go_wp2
        go_ret
        exact ⟨ret_bool HB.out.symm, hb⟩

set_option maxRecDepth 100000 in
set_option maxHeartbeats 4000000 in
theorem l3Own_c {w : World} {x : Ex} {cs : List Value} {bs : List Nat} {dp : Int} (h : Rep w x.d cs bs) :
    Calls Tryz.prog 199 #[.agg cs.toArray, .int .i64 dp] w fun e w' => e = .returned (.bool (ownF x dp)) ∧ Below w.heap.size w w' := by
  obtain ⟨A3, c3, A6, c6, A7, c7, d3, d6, d7, rfl, rfl, g1, g2, g3, g4, g5, g6, g7⟩ := Rep.ex_iff.1 h
  have Gkind := Lib.hid g1
  have Gnum := Lib.hid g2
  have Gindex := Lib.hid ((Rep.aff_iff2 (x := x.index)).2 ⟨_, _, _, rfl, rfl, g3, g4⟩)
  have Gread := Lib.hid ((Rep.acc_iff (x := x.read)).2 ⟨_, _, _, rfl, rfl, g5, g6⟩)
  have Gkids := Lib.hid g7
  clear h g1 g2 g3 g4 g5 g6 g7
  by_cases hk2 : x.kind = 2
  case pos =>
    have q2 : (x.kind == 2) = true := ieq_t (by omega)
    have HX := Lib.hid (show ownF x dp = (decide (x.num = 0) && (noAcc x.read && (affOk x.index && decide ((depF x.index.coefs : Int) ≤ dp)))) from if_pos hk2)
    clear hk2
    go_enter Tryz.func199, Tryz.ntmps199
    by_cases hp_ : x.num = 0
    case neg =>
      have qp_ : (x.num == 0) = false := by first | exact ieq_f (by omega) | exact ine_t (by omega) | (simp; omega)
      have HF_ := Lib.hid (HX.out.trans (by rw [decide_eq_false hp_, Bool.false_and])); clear hp_
      go_wp2
      go_ret
      exact ⟨ret_bool HF_.out.symm, bel⟩
    have qHX1 : (x.num == 0) = true := by first | exact ieq_t (by omega) | exact ine_f (by omega) | (simp; omega)
    have HX1 := Lib.hid (HX.out.trans (by rw [decide_eq_true hp_, Bool.true_and])); clear hp_
    go_wp2_with fail
    refine (l3Empty_c (Gread.out.below bel)).mono ?_
    rintro e w1 ⟨rfl, b1⟩
    have P1 : Box7 w1 w.heap.size (.int .i64 x.kind) (.int .i64 x.num) (.slice A3 x.index.coefs.length c3) (.int .i64 x.index.const) (.string x.read.arr) (.slice A6 x.read.subs.length c6) (.slice A7 x.kids.length c7) := by
      refine ⟨?_, ?_, ?_, ?_, ?_, ?_, ?_⟩ <;> (rw [b1.cell (by simp [World.setCell]; try omega)]; go_simp)
    have S1 : Below w.heap.size w w1 := bel
    clear b1
    cases hc_ : noAcc x.read with
    | false =>
      have HF_ := Lib.hid (HX1.out.trans (by rw [hc_, Bool.false_and])); clear hc_
      go_wp2
      go_ret
      exact ⟨ret_bool HF_.out.symm, bel⟩
    | true =>
    have HX2 := Lib.hid (HX1.out.trans (by rw [hc_, Bool.true_and])); clear hc_
    go_wp2_with fail
    refine (specAffineValid_d (Gindex.out.below bel)).mono ?_
    rintro e w2 ⟨rfl, b2⟩
    have s2 : Below w1.heap.size w1 w2 := bel
    have P2 := P1.to s2; clear P1
    have S2 : Below w.heap.size w w2 := below_tr S1 s2
    clear s2
    clear b2
    cases hc_ : affOk x.index with
    | false =>
      have HF_ := Lib.hid (HX2.out.trans (by rw [hc_, Bool.false_and])); clear hc_
      go_wp2
      go_ret
      exact ⟨ret_bool HF_.out.symm, bel⟩
    | true =>
    have HX3 := Lib.hid (HX2.out.trans (by rw [hc_, Bool.true_and])); clear hc_
    go_wp2_with fail
    refine (l1Depth_d (Gindex.out.below bel)).mono ?_
    rintro e w3 ⟨rfl, b3⟩
    have s3 : Below w2.heap.size w2 w3 := bel
    have P3 := P2.to s3; clear P2
    have S3 : Below w.heap.size w w3 := below_tr S2 s3
    clear s3
    clear b3
    go_wp2
    go_ret
    exact ⟨ret_bool HX3.out.symm, bel⟩
  have q2 : (x.kind == 2) = false := ieq_f (by omega)
  by_cases hk3 : x.kind = 3
  case pos =>
    have q3 : (x.kind == 3) = true := ieq_t (by omega)
    have HX := Lib.hid (show ownF x dp = (decide (x.num = 0) && (noAff x.index && accOk x.read dp)) by unfold ownF; rw [if_neg hk2, if_pos hk3])
    clear hk2 hk3
    go_enter Tryz.func199, Tryz.ntmps199
    by_cases hp_ : x.num = 0
    case neg =>
      have qp_ : (x.num == 0) = false := by first | exact ieq_f (by omega) | exact ine_t (by omega) | (simp; omega)
      have HF_ := Lib.hid (HX.out.trans (by rw [decide_eq_false hp_, Bool.false_and])); clear hp_
      go_wp2
      go_ret
      exact ⟨ret_bool HF_.out.symm, bel⟩
    have qHX1 : (x.num == 0) = true := by first | exact ieq_t (by omega) | exact ine_f (by omega) | (simp; omega)
    have HX1 := Lib.hid (HX.out.trans (by rw [decide_eq_true hp_, Bool.true_and])); clear hp_
    go_wp2_with fail
    refine (l3None_c (Gindex.out.below bel)).mono ?_
    rintro e w4 ⟨rfl, b4⟩
    have P4 : Box7 w4 w.heap.size (.int .i64 x.kind) (.int .i64 x.num) (.slice A3 x.index.coefs.length c3) (.int .i64 x.index.const) (.string x.read.arr) (.slice A6 x.read.subs.length c6) (.slice A7 x.kids.length c7) := by
      refine ⟨?_, ?_, ?_, ?_, ?_, ?_, ?_⟩ <;> (rw [b4.cell (by simp [World.setCell]; try omega)]; go_simp)
    have S4 : Below w.heap.size w w4 := bel
    clear b4
    cases hc_ : noAff x.index with
    | false =>
      have HF_ := Lib.hid (HX1.out.trans (by rw [hc_, Bool.false_and])); clear hc_
      go_wp2
      go_ret
      exact ⟨ret_bool HF_.out.symm, bel⟩
    | true =>
    have HX2 := Lib.hid (HX1.out.trans (by rw [hc_, Bool.true_and])); clear hc_
    go_wp2_with fail
    refine (l3Access_c (Gread.out.below bel)).mono ?_
    rintro e w5 ⟨rfl, b5⟩
    have s5 : Below w4.heap.size w4 w5 := bel
    have P5 := P4.to s5; clear P4
    have S5 : Below w.heap.size w w5 := below_tr S4 s5
    clear s5
    clear b5
    go_wp2
    go_ret
    exact ⟨ret_bool HX2.out.symm, bel⟩
  have q3 : (x.kind == 3) = false := ieq_f (by omega)
  by_cases hk1 : x.kind = 1
  case pos =>
    have q1 : (x.kind == 1) = true := ieq_t (by omega)
    have HX := Lib.hid (show ownF x dp = (decide (0 ≤ x.num) && (decide (x.num ≤ 99) && (noAff x.index && noAcc x.read))) by unfold ownF; rw [if_neg hk2, if_neg hk3, if_pos hk1, inB, Bool.and_assoc])
    clear hk2 hk3 hk1
    go_enter Tryz.func199, Tryz.ntmps199
    by_cases hp : 0 ≤ x.num
    case neg =>
      have HF := Lib.hid (HX.out.trans (by rw [decide_eq_false hp, Bool.false_and]))
      go_wp2
      go_ret
      exact ⟨ret_bool HF.out.symm, bel⟩
    have HX1 := Lib.hid (HX.out.trans (by rw [decide_eq_true hp, Bool.true_and]))
    by_cases hp2 : x.num ≤ 99
    case neg =>
      have HF := Lib.hid (HX1.out.trans (by rw [decide_eq_false hp2, Bool.false_and]))
      go_wp2
      go_ret
      exact ⟨ret_bool HF.out.symm, bel⟩
    have HX2 := Lib.hid (HX1.out.trans (by rw [decide_eq_true hp2, Bool.true_and]))
    go_wp2_with fail
    refine (l3None_c (Gindex.out.below bel)).mono ?_
    rintro e w6 ⟨rfl, b6⟩
    have P6 : Box7 w6 w.heap.size (.int .i64 x.kind) (.int .i64 x.num) (.slice A3 x.index.coefs.length c3) (.int .i64 x.index.const) (.string x.read.arr) (.slice A6 x.read.subs.length c6) (.slice A7 x.kids.length c7) := by
      refine ⟨?_, ?_, ?_, ?_, ?_, ?_, ?_⟩ <;> (rw [b6.cell (by simp [World.setCell]; try omega)]; go_simp)
    have S6 : Below w.heap.size w w6 := bel
    clear b6
    cases hc_ : noAff x.index with
    | false =>
      have HF_ := Lib.hid (HX2.out.trans (by rw [hc_, Bool.false_and])); clear hc_
      go_wp2
      go_ret
      exact ⟨ret_bool HF_.out.symm, bel⟩
    | true =>
    have HX3 := Lib.hid (HX2.out.trans (by rw [hc_, Bool.true_and])); clear hc_
    go_wp2_with fail
    refine (l3Empty_c (Gread.out.below bel)).mono ?_
    rintro e w7 ⟨rfl, b7⟩
    have s7 : Below w6.heap.size w6 w7 := bel
    have P7 := P6.to s7; clear P6
    have S7 : Below w.heap.size w w7 := below_tr S6 s7
    clear s7
    clear b7
    go_wp2
    go_ret
    exact ⟨ret_bool HX3.out.symm, bel⟩
  have q1 : (x.kind == 1) = false := ieq_f (by omega)
  have HX := Lib.hid (show ownF x dp = (decide (x.num = 0) && (noAff x.index && noAcc x.read)) by unfold ownF; rw [if_neg hk2, if_neg hk3, if_neg hk1])
  clear hk2 hk3 hk1
  go_enter Tryz.func199, Tryz.ntmps199
  by_cases hp_ : x.num = 0
  case neg =>
    have qp_ : (x.num == 0) = false := by first | exact ieq_f (by omega) | exact ine_t (by omega) | (simp; omega)
    have HF_ := Lib.hid (HX.out.trans (by rw [decide_eq_false hp_, Bool.false_and])); clear hp_
    go_wp2
    go_ret
    exact ⟨ret_bool HF_.out.symm, bel⟩
  have qHX1 : (x.num == 0) = true := by first | exact ieq_t (by omega) | exact ine_f (by omega) | (simp; omega)
  have HX1 := Lib.hid (HX.out.trans (by rw [decide_eq_true hp_, Bool.true_and])); clear hp_
  go_wp2_with fail
  refine (l3None_c (Gindex.out.below bel)).mono ?_
  rintro e w8 ⟨rfl, b8⟩
  have P8 : Box7 w8 w.heap.size (.int .i64 x.kind) (.int .i64 x.num) (.slice A3 x.index.coefs.length c3) (.int .i64 x.index.const) (.string x.read.arr) (.slice A6 x.read.subs.length c6) (.slice A7 x.kids.length c7) := by
    refine ⟨?_, ?_, ?_, ?_, ?_, ?_, ?_⟩ <;> (rw [b8.cell (by simp [World.setCell]; try omega)]; go_simp)
  have S8 : Below w.heap.size w w8 := bel
  clear b8
  cases hc_ : noAff x.index with
  | false =>
    have HF_ := Lib.hid (HX1.out.trans (by rw [hc_, Bool.false_and])); clear hc_
    go_wp2
    go_ret
    exact ⟨ret_bool HF_.out.symm, bel⟩
  | true =>
  have HX2 := Lib.hid (HX1.out.trans (by rw [hc_, Bool.true_and])); clear hc_
  go_wp2_with fail
  refine (l3Empty_c (Gread.out.below bel)).mono ?_
  rintro e w9 ⟨rfl, b9⟩
  have s9 : Below w8.heap.size w8 w9 := bel
  have P9 := P8.to s9; clear P8
  have S9 : Below w.heap.size w w9 := below_tr S8 s9
  clear s9
  clear b9
  go_wp2
  go_ret
  exact ⟨ret_bool HX2.out.symm, bel⟩
end Go.Proofs.YtbhniobgaoncaaaGreatDoor
