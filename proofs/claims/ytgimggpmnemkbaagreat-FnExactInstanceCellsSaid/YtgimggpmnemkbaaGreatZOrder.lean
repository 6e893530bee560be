/- Orders, on both sides: which lists name every number below n once; OrderValid. -/
import Derived.Test.YtgimggpmnemkbaaGreatZInstsS
import Derived.Test.YtgimggpmnemkbaaGreatZTotal
import Derived.Deep.OwnRows
set_option linter.all false
set_option linter.unusedSimpArgs false
set_option linter.unusedVariables false
namespace Go.Proofs.YtgimggpmnemkbaaGreat
open Go.ChangeShapes Go.WideShapes Go.ChangeAt Go.RowKit Go.Deep

/-- the numbers of a list lie below n, each comes up once, none that s has met -/
def permG (n : Nat) : List Int → (Nat → Bool) → Bool
  | [], _ => true
  | x :: l, s => decide (0 ≤ x) && (decide (x < (n : Int)) && (!s x.toNat && permG n l (fun k => if k = x.toNat then true else s k)))
def permF (l : List Int) (n : Nat) : Bool := permG n l (fun _ => false) && decide (l.length = n)
theorem permG_drop (n : Nat) (l : List Int) (s : Nat → Bool) (j : Nat) (h : j < l.length) : permG n (l.drop j) s = (decide (0 ≤ gi l j) && (decide (gi l j < (n : Int)) && (!s (gi l j).toNat && permG n (l.drop (j + 1)) (fun k => if k = (gi l j).toNat then true else s k)))) := by
  rw [← List.getElem_cons_drop h, permG, gi_eq h]
theorem permF_no {l : List Int} {n : Nat} (h : permG n l (fun _ => false) = false) : permF l n = false := by rw [permF, h, Bool.false_and]
theorem permF_yes {l : List Int} {n : Nat} (h : permG n l (fun _ => false) = true) : permF l n = decide (l.length = n) := by rw [permF, h, Bool.true_and]
theorem Tryz.infoBool : (Tryz.prog.info? 4).map (fun i => (i.zero, i.size, i.bytes)) = some (some (.bool false), 1, 1) := by kernel_rfl

section
variable {w : World} {l : List Int} {n : Nat} {A : Option Addr} {m c : Nat} {bs : List Nat}
set_option maxRecDepth 100000 in
set_option maxHeartbeats 2000000 in
theorem isOrder_c (h : Rep w (ints l) [.slice A m c] bs) (hn : n ≤ 1000000) :
    Calls Tryz.prog 142 #[.slice A m c, .int .i64 (n : Int)] w fun e w' => e = .returned (.bool (permF l n)) ∧ Below w.heap.size w w' := by
  obtain ⟨rfl, hn1, hn2⟩ := h.ints_len
  have hln : l.length ≤ 9223372036854775807 := Nat.le_trans hn1 hn2
  clear hn1 hn2
  have H := Lib.hid h; clear h
  have hmk := run_make_row' (P := Tryz.prog) 110 4 (.bool false) 1 Tryz.underlying110 Tryz.infoBool rfl .i64 .i64 n (by omega) (by omega)
  go_enter Tryz.func142, Tryz.ntmps142
  go_wp2
  go_loopw [12] (fun i wr => ∃ (j : Nat) (s : Nat → Bool), j ≤ l.length ∧ i = .int .i64 j ∧ permG n l (fun _ => false) = permG n (l.drop j) s ∧ wr.rowIs w.heap.size 4 n (fun k => .bool (s k)) ∧ Below w.heap.size w wr) (fun i _ => l.length - (intOf i).toNat)
  case atStart => exact ⟨0, fun _ => false, Nat.zero_le _, rfl, rfl, World.rowIs_made _ _ _ _, bel⟩
  case round =>
    obtain ⟨j, s, hj, rfl, hi, hrow, hb⟩ := hrel
    have HI := Lib.hid hi; clear hi
    have HROW := Lib.hid hrow; clear hrow
    clear hmk
    by_cases hlt : j < l.length
    case neg =>
      have hjj : j = l.length := by omega
      subst hjj
      have HX := Lib.hid (permF_yes (l := l) (n := n) (by rw [HI.out, List.drop_length]; rfl))
      by_cases he : l.length = n
      · have hq0 : ((l.length : Int) == (n : Int)) = true := ieq_t (by omega)
        have HY := Lib.hid (HX.out.trans (decide_eq_true he))
        go_wp2
        go_ret
        exact ⟨ret_bool HY.out.symm, hb⟩
      · have hq0 : ((l.length : Int) == (n : Int)) = false := ieq_f (by omega)
        have HY := Lib.hid (HX.out.trans (decide_eq_false he))
        go_wp2
        go_ret
        exact ⟨ret_bool HY.out.symm, hb⟩
    have HD := Lib.hid (HI.out.trans (permG_drop n l s j hlt))
    obtain ⟨b, o, rfl, _, hbl, hc, _⟩ := (H.out.below hb).ints_at hlt
    obtain ⟨v, hv⟩ : ∃ v, v = gi l j := ⟨_, rfl⟩
    rw [← hv] at hc HD
    clear hv
    by_cases h0 : 0 ≤ v
    case neg =>
      have HX := Lib.hid (permF_no (HD.out.trans (by rw [decide_eq_false h0, Bool.false_and])))
      have HB := Lib.hid (show inB v 0 ((n : Int) - 1) = false from inB_lo (by omega))
      go_wp2_with fail
      refine (within_c _ _ _ _).mono ?_
      rintro e w' ⟨rfl, rfl⟩
      rw [HB.out]
      go_wp2
      go_ret
      exact ⟨ret_bool HX.out.symm, hb⟩
    obtain ⟨k, rfl⟩ := Int.eq_ofNat_of_zero_le h0
    by_cases h1 : (k : Int) < (n : Int)
    case neg =>
      have HX := Lib.hid (permF_no (HD.out.trans (by rw [decide_eq_false h1, Bool.false_and, Bool.and_false])))
      have HB := Lib.hid (show inB (k : Int) 0 ((n : Int) - 1) = false from inB_hi (by omega))
      go_wp2_with fail
      refine (within_c _ _ _ _).mono ?_
      rintro e w' ⟨rfl, rfl⟩
      rw [HB.out]
      go_wp2
      go_ret
      exact ⟨ret_bool HX.out.symm, hb⟩
    have hkn : k < n := by omega
    have HE := Lib.hid (HD.out.trans (by rw [decide_eq_true h0, decide_eq_true h1, Bool.true_and, Bool.true_and, Int.toNat_natCast]))
    have hck := HROW.out.cell hkn
    have hfz := HROW.out.frozen k
    have hlg := HROW.out.lt
    cases hs : s k with
    | true =>
      have HX := Lib.hid (permF_no (HE.out.trans (by rw [hs, Bool.not_true, Bool.false_and])))
      rw [hs] at hck
      have HB := Lib.hid (show inB (k : Int) 0 ((n : Int) - 1) = true from inB_true (by omega) (by omega))
      go_wp2_with fail
      refine (within_c _ _ _ _).mono ?_
      rintro e w' ⟨rfl, rfl⟩
      rw [HB.out]
      go_wp2
      go_ret
      exact ⟨ret_bool HX.out.symm, hb⟩
    | false =>
      have HX := Lib.hid (HE.out.trans (by rw [hs, Bool.not_false, Bool.true_and]))
      rw [hs] at hck
      have HR2 := Lib.hid ((HROW.out.set k (.bool true)).congr (g := fun i => .bool (if i = k then true else s i)) (fun i _ => by by_cases e : i = k <;> simp [e]))
      have HB := Lib.hid (show inB (k : Int) 0 ((n : Int) - 1) = true from inB_true (by omega) (by omega))
      go_wp2_with fail
      refine (within_c _ _ _ _).mono ?_
      rintro e w' ⟨rfl, rfl⟩
      rw [HB.out]
      go_wp2
      go_roundw
      case rel => exact ⟨j + 1, _, by omega, by go_num, HX.out, HR2.out, hb.setCell (by simp) _⟩
      case measure => simp [intOf]; omega
set_option maxRecDepth 100000 in
set_option maxHeartbeats 2000000 in
theorem l5Perm_c (h : Rep w (ints l) [.slice A m c] bs) (hn : n ≤ 1000000) :
    Calls Tryz.prog 141 #[.slice A m c, .int .i64 (n : Int)] w fun e w' => e = .returned (.bool (permF l n)) ∧ Below w.heap.size w w' := by
  obtain ⟨rfl, hn1, hn2⟩ := h.ints_len
  have hln : l.length ≤ 9223372036854775807 := Nat.le_trans hn1 hn2
  clear hn1 hn2
  have H := Lib.hid h; clear h
  have hmk := run_make_row' (P := Tryz.prog) 110 4 (.bool false) 1 Tryz.underlying110 Tryz.infoBool rfl .i64 .i64 n (by omega) (by omega)
  go_enter Tryz.func141, Tryz.ntmps141
  go_wp2
  go_loopw [6] (fun i wr => ∃ (j : Nat) (s : Nat → Bool), j ≤ l.length ∧ i = .int .i64 j ∧ permG n l (fun _ => false) = permG n (l.drop j) s ∧ wr.rowIs w.heap.size 4 n (fun k => .bool (s k)) ∧ Below w.heap.size w wr) (fun i _ => l.length - (intOf i).toNat)
  case atStart => exact ⟨0, fun _ => false, Nat.zero_le _, rfl, rfl, World.rowIs_made _ _ _ _, bel⟩
  case round =>
    obtain ⟨j, s, hj, rfl, hi, hrow, hb⟩ := hrel
    have HI := Lib.hid hi; clear hi
    have HROW := Lib.hid hrow; clear hrow
    clear hmk
    by_cases hlt : j < l.length
    case neg =>
      have hjj : j = l.length := by omega
      subst hjj
      have HX := Lib.hid (permF_yes (l := l) (n := n) (by rw [HI.out, List.drop_length]; rfl))
      by_cases he : l.length = n
      · have hq0 : ((l.length : Int) == (n : Int)) = true := ieq_t (by omega)
        have HY := Lib.hid (HX.out.trans (decide_eq_true he))
        go_wp2
        go_ret
        exact ⟨ret_bool HY.out.symm, hb⟩
      · have hq0 : ((l.length : Int) == (n : Int)) = false := ieq_f (by omega)
        have HY := Lib.hid (HX.out.trans (decide_eq_false he))
        go_wp2
        go_ret
        exact ⟨ret_bool HY.out.symm, hb⟩
    have HD := Lib.hid (HI.out.trans (permG_drop n l s j hlt))
    obtain ⟨b, o, rfl, _, hbl, hc, _⟩ := (H.out.below hb).ints_at hlt
    obtain ⟨v, hv⟩ : ∃ v, v = gi l j := ⟨_, rfl⟩
    rw [← hv] at hc HD
    clear hv
    by_cases h0 : 0 ≤ v
    case neg =>
      have HX := Lib.hid (permF_no (HD.out.trans (by rw [decide_eq_false h0, Bool.false_and])))
      go_wp2
      go_ret
      exact ⟨ret_bool HX.out.symm, hb⟩
    obtain ⟨k, rfl⟩ := Int.eq_ofNat_of_zero_le h0
    by_cases h1 : (k : Int) < (n : Int)
    case neg =>
      have HX := Lib.hid (permF_no (HD.out.trans (by rw [decide_eq_false h1, Bool.false_and, Bool.and_false])))
      go_wp2
      go_ret
      exact ⟨ret_bool HX.out.symm, hb⟩
    have hkn : k < n := by omega
    have HE := Lib.hid (HD.out.trans (by rw [decide_eq_true h0, decide_eq_true h1, Bool.true_and, Bool.true_and, Int.toNat_natCast]))
    have hck := HROW.out.cell hkn
    have hfz := HROW.out.frozen k
    have hlg := HROW.out.lt
    cases hs : s k with
    | true =>
      have HX := Lib.hid (permF_no (HE.out.trans (by rw [hs, Bool.not_true, Bool.false_and])))
      rw [hs] at hck
      go_wp2
      go_ret
      exact ⟨ret_bool HX.out.symm, hb⟩
    | false =>
      have HX := Lib.hid (HE.out.trans (by rw [hs, Bool.not_false, Bool.true_and]))
      rw [hs] at hck
      have HR2 := Lib.hid ((HROW.out.set k (.bool true)).congr (g := fun i => .bool (if i = k then true else s i)) (fun i _ => by by_cases e : i = k <;> simp [e]))
      go_wp2
      go_roundw
      case rel => exact ⟨j + 1, _, by omega, by go_num, HX.out, HR2.out, hb.setCell (by simp) _⟩
      case measure => simp [intOf]; omega
end

def OrderValidF (p : Pgm) (l : List Int) : Bool := progOk p && permF l (instsF p).length
theorem InstsF_ok {p : Pgm} (h : progOk p = true) : (InstsF p).1 = instsF p := by
  obtain ⟨h1, h2, _⟩ := progOk_all h
  rw [InstsF_y (progOk_arr h) h1 (List.all_eq_true.2 h2)]
theorem OrderValidF_n {p : Pgm} {l : List Int} (h : progOk p = false) : OrderValidF p l = false := by rw [OrderValidF, h, Bool.false_and]
theorem OrderValidF_y {p : Pgm} {l : List Int} (h : progOk p = true) : OrderValidF p l = permF l (instsF p).length := by rw [OrderValidF, h, Bool.true_and]

set_option maxHeartbeats 2000000 in
theorem implOrderValid_c {w : World} {p : Pgm} {l : List Int} {cs : List Value} {B : Option Addr} {n d : Nat} {bs bs2 : List Nat} (h : Rep w p.d cs bs) (hq : Rep w (ints l) [.slice B n d] bs2) :
    Calls Tryz.prog 97 #[.agg cs.toArray, .slice B n d] w fun e w' => e = .returned (.bool (OrderValidF p l)) ∧ Below w.heap.size w w' := by
  have HP := Lib.hid h
  obtain ⟨A1, c1, A2, c2, d1, d2, rfl, rfl, g1, g2⟩ := Rep.pgm_iff.1 h
  have Garrays := Lib.hid g1
  have Gparts := Lib.hid g2
  clear h g1 g2
  have HQ := Lib.hid hq; clear hq
  cases hv : progOk p with
  | false =>
    have HX := Lib.hid (OrderValidF_n (l := l) hv)
    have HY := Lib.hid ((InstsF_2 p).trans hv)
    clear hv
    go_enter Tryz.func97, Tryz.ntmps97
    go_wp2_with fail
    refine (instances_c (HP.out.below bel)).mono ?_
    rintro e w1 ⟨A3, n3, c3, bs3, rfl, _, _, _, b1⟩
    rw [HY.out]
    go_wp2
    go_ret
    exact ⟨ret_bool HX.out.symm, bel⟩
  | true =>
    have HX := Lib.hid (OrderValidF_y (l := l) hv)
    have HY := Lib.hid ((InstsF_2 p).trans hv)
    have HZ := Lib.hid (InstsF_ok hv)
    have hln := (progOk_all hv).2.2
    clear hv
    go_enter Tryz.func97, Tryz.ntmps97
    go_wp2_with fail
    refine (instances_c (HP.out.below bel)).mono ?_
    rintro e w1 ⟨A3, n3, c3, bs3, rfl, r3, _, _, b1⟩
    rw [HY.out]
    rw [HZ.out] at r3
    obtain ⟨rfl, _, _⟩ := r3.sls_len
    have B1 : Below w.heap.size w w1 := bel
    clear r3 b1
    go_wp2_with fail
    refine (isOrder_c (HQ.out.below B1) (by omega)).mono ?_
    rintro e w2 ⟨rfl, b2⟩
    go_wp2
    go_ret
    exact ⟨ret_bool HX.out.symm, below_tr B1 b2⟩
set_option maxHeartbeats 2000000 in
theorem specOrderValid_c {w : World} {p : Pgm} {l : List Int} {cs : List Value} {B : Option Addr} {n d : Nat} {bs bs2 : List Nat} (h : Rep w p.d cs bs) (hq : Rep w (ints l) [.slice B n d] bs2) :
    Calls Tryz.prog 93 #[.agg cs.toArray, .slice B n d] w fun e w' => e = .returned (.bool (OrderValidF p l)) ∧ Below w.heap.size w w' := by
  have HP := Lib.hid h
  obtain ⟨A1, c1, A2, c2, d1, d2, rfl, rfl, g1, g2⟩ := Rep.pgm_iff.1 h
  have Garrays := Lib.hid g1
  have Gparts := Lib.hid g2
  clear h g1 g2
  have HQ := Lib.hid hq; clear hq
  go_enter Tryz.func93, Tryz.ntmps93
  go_wp2_with fail
  refine (specProgramValid_c (HP.out.below bel)).mono ?_
  rintro e w1 ⟨rfl, b1⟩
  have P1 : Box2 w1 w.heap.size (.slice A1 p.arrays.length c1) (.slice A2 p.parts.length c2) := by
    refine ⟨?_, ?_⟩ <;> (rw [b1.cell (by simp [World.setCell]; try omega)]; go_simp)
  have S1 : Below w.heap.size w w1 := bel
  clear b1
  cases hv : progOk p with
  | false =>
    have HX := Lib.hid (OrderValidF_n (l := l) hv)
    clear hv
    go_wp2
    go_ret
    exact ⟨ret_bool HX.out.symm, bel⟩
  | true =>
  have HX := Lib.hid (OrderValidF_y (l := l) hv)
  have hln := (progOk_all hv).2.2
  have HV := Lib.hid hv; clear hv
  go_wp2_with fail
  refine (l4Instances_c (HP.out.below bel) HV.out).mono ?_
  rintro e w2 ⟨A3, n3, c3, bs3, rfl, r3, _, _, b2⟩
  have s2 : Below w1.heap.size w1 w2 := bel
  have P2 := P1.to s2; clear P1
  have S2 : Below w.heap.size w w2 := below_tr S1 s2
  clear s2
  clear b2
  obtain ⟨rfl, _, _⟩ := r3.sls_len
  clear r3
  go_wp2_with fail
  refine (l5Perm_c (HQ.out.below bel) (by omega)).mono ?_
  rintro e w3 ⟨rfl, b3⟩
  have s3 : Below w2.heap.size w2 w3 := bel
  have P3 := P2.to s3; clear P2
  have S3 : Below w.heap.size w w3 := below_tr S2 s3
  clear s3
  clear b3
  go_wp2
  go_ret
  exact ⟨ret_bool HX.out.symm, bel⟩
end Go.Proofs.YtgimggpmnemkbaaGreat
