/- Nests with constant bounds: RectNest of both sides. -/
import Derived.Test.YtlllidhmohdgiaaRange
namespace Go.Proofs.Ytlllidhmohdgiaa
open Go.ChangeShapes Go.WideShapes Go.ChangeAt Go.RowKit Go.Deep

def deepB (a : Aff) : Bool := decide (0 < depF a.coefs)
def flatF (x : Lp) : Bool := !x.lo.any deepB && !x.hi.any deepB
def notFlat (x : Lp) : Bool := !flatF x
def RectNestF (xs : List Lp) : Bool := NestValidF xs && !xs.any notFlat

section
variable {w : World} {A B : Option Addr} {n m c d : Nat} {bs bs' : List Nat}

set_option maxHeartbeats 4000000 in
theorem l2Flat_c {x : Lp} {cs : List Value} (h : Rep w x.d cs bs) :
    Calls Try.prog 76 #[.agg cs.toArray] w fun e w' => e = .returned (.bool (flatF x)) ∧ Below w.heap.size w w' := by
  obtain ⟨A1, c1, A2, c2, d1, d2, rfl, rfl, g1, g2⟩ := Rep.lp_iff.1 h
  obtain ⟨_, hn1, hn2⟩ := g1.sls_len
  obtain ⟨_, hn3, hn4⟩ := g2.sls_len
  have hnl : x.lo.length ≤ 9223372036854775807 := Nat.le_trans hn1 hn2
  have hnh : x.hi.length ≤ 9223372036854775807 := Nat.le_trans hn3 hn4
  have L1 := Lib.hid g1; have L2 := Lib.hid g2
  clear h g1 g2 hn1 hn2 hn3 hn4
  go_enter Try.func76, Try.ntmps76
  go_wp2
  go_loopw [3] (fun i wr => ∃ j : Nat, j ≤ x.lo.length ∧ i = .int .i64 j ∧ x.lo.any deepB = (x.lo.drop j).any deepB ∧ Box2 wr w.heap.size (.slice A1 x.lo.length c1) (.slice A2 x.hi.length c2) ∧ Below w.heap.size w wr) (fun i _ => x.lo.length - (intOf i).toNat)
  case atStart => exact ⟨0, Nat.zero_le _, rfl, by simp, Box2.new _ _ _ _, (by repeat (first | exact Below.refl _ _ | refine Below.setCell ?_ (by simp; try omega) _ | refine below_al ?_ _ | refine Below.alloc ?_ (by simp [World.setCell]; try omega) _ | refine below_drewN ?_ _ | refine Below.drew ?_ | refine below_tr ?_ ‹Below _ _ _›))⟩
  case round =>
    obtain ⟨j, hj, rfl, hi, P3, hb⟩ := hrel
    have HI := Lib.hid hi; clear hi
    by_cases hlt : j < x.lo.length
    · have HD := Lib.hid (any_drop deepB x.lo j hlt)
      obtain ⟨bu, ou, csu, lu, rfl, hblu, hru, _, _, hcu⟩ := (L1.out.below hb).sls_at Aff.d_size (k := j) hlt
      have Gu := Lib.hid hru
      obtain ⟨A1u, c1u, d1u, rfl, rfl, g1u, g2u⟩ := Rep.aff_iff2.1 hru
      have k0u := (hcu 0 _ rfl).1; rw [Nat.add_zero] at k0u
      have k1u := (hcu 1 _ rfl).1
      have Q1u := Lib.hid g1u
      have Q2u := Lib.hid g2u
      clear hcu hru g1u g2u
      go_wp2_with fail
      refine (l1Depth_d Gu.out).mono ?_
      rintro e w4 ⟨rfl, b4⟩
      have P4 := P3.to b4
      have S4 := below_tr hb b4
      by_cases hgt : 0 < depF x.lo[j].coefs
      · have HX := Lib.hid (show flatF x = false by simp only [flatF, HI.out, HD.out, deepB, hgt, decide_true, Bool.true_or, Bool.not_true, Bool.false_and])
        clear P3 b4 k0u k1u Gu
        go_wp2
        go_ret
        exact ⟨ret_bool HX.out.symm, S4⟩
      · have HX := Lib.hid (show x.lo.any deepB = (x.lo.drop (j + 1)).any deepB by rw [HI.out, HD.out]; simp only [deepB, hgt, decide_false, Bool.false_or])
        clear P3 b4 k0u k1u Gu
        go_wp2
        go_roundw
        case rel => exact ⟨j + 1, by omega, by go_num, HX.out, P4, S4⟩
        case measure => simp [intOf]; omega
    · have hjj : j = x.lo.length := by omega
      subst hjj
      have HA := Lib.hid (show x.lo.any deepB = false by rw [HI.out, List.drop_length]; rfl)
      go_wp2
      go_loopw [4] (fun i wr => ∃ j : Nat, j ≤ x.hi.length ∧ i = .int .i64 j ∧ x.hi.any deepB = (x.hi.drop j).any deepB ∧ Box2 wr w.heap.size (.slice A1 x.lo.length c1) (.slice A2 x.hi.length c2) ∧ Below w.heap.size w wr) (fun i _ => x.hi.length - (intOf i).toNat)
      case atStart => exact ⟨0, Nat.zero_le _, rfl, by simp, P3, hb⟩
      case round =>
        clear P3 hb
        obtain ⟨j, hj, rfl, hi, P3, hb⟩ := hrel
        have HI2 := Lib.hid hi; clear hi
        by_cases hlt : j < x.hi.length
        · have HD := Lib.hid (any_drop deepB x.hi j hlt)
          obtain ⟨bu, ou, csu, lu, rfl, hblu, hru, _, _, hcu⟩ := (L2.out.below hb).sls_at Aff.d_size (k := j) hlt
          have Gu := Lib.hid hru
          obtain ⟨A1u, c1u, d1u, rfl, rfl, g1u, g2u⟩ := Rep.aff_iff2.1 hru
          have k0u := (hcu 0 _ rfl).1; rw [Nat.add_zero] at k0u
          have k1u := (hcu 1 _ rfl).1
          have Q1u := Lib.hid g1u
          have Q2u := Lib.hid g2u
          clear hcu hru g1u g2u
          go_wp2_with fail
          refine (l1Depth_d Gu.out).mono ?_
          rintro e w4 ⟨rfl, b4⟩
          have P4 := P3.to b4
          have S4 := below_tr hb b4
          by_cases hgt : 0 < depF x.hi[j].coefs
          · have HX := Lib.hid (show flatF x = false by simp only [flatF, HI2.out, HD.out, deepB, hgt, decide_true, Bool.true_or, Bool.not_true, Bool.and_false])
            clear P3 b4 k0u k1u Gu
            go_wp2
            go_ret
            exact ⟨ret_bool HX.out.symm, S4⟩
          · have HX := Lib.hid (show x.hi.any deepB = (x.hi.drop (j + 1)).any deepB by rw [HI2.out, HD.out]; simp only [deepB, hgt, decide_false, Bool.false_or])
            clear P3 b4 k0u k1u Gu
            go_wp2
            go_roundw
            case rel => exact ⟨j + 1, by omega, by go_num, HX.out, P4, S4⟩
            case measure => simp [intOf]; omega
        · have hjj : j = x.hi.length := by omega
          subst hjj
          have HX := Lib.hid (show flatF x = true by simp only [flatF, HA.out, HI2.out, List.drop_length]; rfl)
          go_wp2
          go_ret
          exact ⟨ret_bool HX.out.symm, hb⟩

set_option maxHeartbeats 2000000 in
theorem specRectNest_c {xs : List Lp} (h : Rep w (sls Lp.d xs) [.slice A n c] bs) :
    Calls Try.prog 28 #[.slice A n c] w fun e w' => e = .returned (.bool (RectNestF xs)) ∧ Below w.heap.size w w' := by
  obtain ⟨rfl, h1, h2⟩ := h.sls_len
  have hn : xs.length ≤ 9223372036854775807 := Nat.le_trans h1 h2
  clear h1 h2
  have H := Lib.hid h; clear h
  go_enter Try.func28, Try.ntmps28
  go_wp2
  go_loopw [3] (fun i wr => ∃ j : Nat, j ≤ xs.length ∧ i = .int .i64 j ∧ xs.any notFlat = (xs.drop j).any notFlat ∧ Below w.heap.size w wr) (fun i _ => xs.length - (intOf i).toNat)
  case atStart => exact ⟨0, Nat.zero_le _, rfl, by simp, Below.refl _ _⟩
  case round =>
    obtain ⟨j, hj, rfl, hi, hb⟩ := hrel
    have HI := Lib.hid hi; clear hi
    by_cases hlt : j < xs.length
    · have HD := Lib.hid (any_drop notFlat xs j hlt)
      obtain ⟨bu, ou, csu, lu, rfl, hblu, hru, _, _, hcu⟩ := (H.out.below hb).sls_at Lp.d_size (k := j) hlt
      have Gu := Lib.hid hru
      obtain ⟨A1u, c1u, A2u, c2u, d1u, d2u, rfl, rfl, g1u, g2u⟩ := Rep.lp_iff.1 hru
      have k0u := (hcu 0 _ rfl).1; rw [Nat.add_zero] at k0u
      have k1u := (hcu 1 _ rfl).1
      have Q1u := Lib.hid g1u
      have Q2u := Lib.hid g2u
      clear hcu hru g1u g2u
      go_wp2_with fail
      refine (l2Flat_c Gu.out).mono ?_
      rintro e w4 ⟨rfl, b4⟩
      have S4 := below_tr hb b4
      cases hf : flatF xs[j] with
      | false =>
        have HX := Lib.hid (show RectNestF xs = false by simp only [RectNestF, HI.out, HD.out, notFlat, hf, Bool.not_false, Bool.true_or, Bool.not_true, Bool.and_false])
        clear hf b4 k0u k1u Gu
        go_wp2
        go_ret
        exact ⟨ret_bool HX.out.symm, S4⟩
      | true =>
        have HX := Lib.hid (show xs.any notFlat = (xs.drop (j + 1)).any notFlat by rw [HI.out, HD.out]; simp only [notFlat, hf, Bool.not_true, Bool.false_or])
        clear hf b4 k0u k1u Gu
        go_wp2
        go_roundw
        case rel => exact ⟨j + 1, by omega, by go_num, HX.out, S4⟩
        case measure => simp [intOf]; omega
    · have hjj : j = xs.length := by omega
      subst hjj
      have HX := Lib.hid (show RectNestF xs = NestValidF xs by simp only [RectNestF, HI.out, List.drop_length]; simp)
      go_wp2_with fail
      refine (specNestValid_c (H.out.below hb)).mono ?_
      rintro e w4 ⟨rfl, b4⟩
      go_wp2
      go_ret
      exact ⟨ret_bool HX.out.symm, below_tr hb b4⟩

theorem isFixed1_c {x : Aff} {cs : List Value} (h : Rep w x.d cs bs) :
    Calls Try.prog 137 (#[.agg cs.toArray] ++ #[]) w fun e w' => e = .returned (.bool (deepB x)) ∧ Below w.heap.size w w' := by
  show Calls Try.prog 137 #[.agg cs.toArray] w _
  have G := Lib.hid h
  obtain ⟨A1, c1, d1, rfl, rfl, g1, g2⟩ := Rep.aff_iff2.1 h
  clear h g1 g2
  have HX := Lib.hid (show deepB x = decide ((0 : Int) < (depF x.coefs : Int)) by simp only [deepB, decide_eq_decide]; omega)
  go_enter Try.func137, Try.ntmps137
  go_wp2_with fail
  refine (depth_d (G.out.below (by repeat (first | exact Below.refl _ _ | refine Below.setCell ?_ (by simp; try omega) _ | refine below_al ?_ _ | refine Below.alloc ?_ (by simp [World.setCell]; try omega) _ | refine below_drewN ?_ _ | refine Below.drew ?_ | refine below_tr ?_ ‹Below _ _ _›)))).mono ?_
  rintro e w1 ⟨rfl, b1⟩
  go_wp2
  go_ret
  exact ⟨ret_bool (by first | exact HX.out.symm | (rw [HX.out]; simp)), (by repeat (first | exact Below.refl _ _ | refine Below.setCell ?_ (by simp; try omega) _ | refine below_al ?_ _ | refine Below.alloc ?_ (by simp [World.setCell]; try omega) _ | refine below_drewN ?_ _ | refine Below.drew ?_ | refine below_tr ?_ ‹Below _ _ _›))⟩
theorem isFixed1_e : Enters Try.prog 137 := fun args W => by go_simp

theorem isFixed_c {xs : List Aff} (h : Rep w (sls Aff.d xs) [.slice A n c] bs) :
    Calls Try.prog 79 #[.slice A n c] w fun e w' => e = .returned (.bool (!xs.any deepB)) ∧ Below w.heap.size w w' := by
  have H := Lib.hid h; clear h
  go_enter Try.func79, Try.ntmps79
  go_wp2_with fail
  refine (ContainsFunc_Affine_c (p := deepB) (H.out.below (by repeat (first | exact Below.refl _ _ | refine Below.setCell ?_ (by simp; try omega) _ | refine below_al ?_ _ | refine Below.alloc ?_ (by simp [World.setCell]; try omega) _ | refine below_drewN ?_ _ | refine Below.drew ?_ | refine below_tr ?_ ‹Below _ _ _›))) isFixed1_e fun x cs bs W _ hb r => isFixed1_c r).mono ?_
  rintro e w1 ⟨rfl, b1⟩
  go_wp2
  go_ret
  exact ⟨rfl, (by repeat (first | exact Below.refl _ _ | refine Below.setCell ?_ (by simp; try omega) _ | refine below_al ?_ _ | refine Below.alloc ?_ (by simp [World.setCell]; try omega) _ | refine below_drewN ?_ _ | refine Below.drew ?_ | refine below_tr ?_ ‹Below _ _ _›))⟩

theorem RectNest1_c {x : Lp} {cs : List Value} (h : Rep w x.d cs bs) :
    Calls Try.prog 78 (#[.agg cs.toArray] ++ #[]) w fun e w' => e = .returned (.bool (notFlat x)) ∧ Below w.heap.size w w' := by
  show Calls Try.prog 78 #[.agg cs.toArray] w _
  obtain ⟨A1, c1, A2, c2, d1, d2, rfl, rfl, g1, g2⟩ := Rep.lp_iff.1 h
  have L1 := Lib.hid g1; have L2 := Lib.hid g2
  clear h g1 g2
  cases hv : x.lo.any deepB with
  | true =>
    have HX := Lib.hid (show notFlat x = true by simp [notFlat, flatF, hv])
    have HV := Lib.hid hv; clear hv
    go_enter Try.func78, Try.ntmps78
    go_wp2_with fail
    refine (isFixed_c (L1.out.below (by repeat (first | exact Below.refl _ _ | refine Below.setCell ?_ (by simp; try omega) _ | refine below_al ?_ _ | refine Below.alloc ?_ (by simp [World.setCell]; try omega) _ | refine below_drewN ?_ _ | refine Below.drew ?_ | refine below_tr ?_ ‹Below _ _ _›)))).mono ?_
    rintro e w1 ⟨rfl, b1⟩
    rw [HV.out]
    go_wp2
    go_ret
    exact ⟨ret_bool HX.out.symm, (by repeat (first | exact Below.refl _ _ | refine Below.setCell ?_ (by simp; try omega) _ | refine below_al ?_ _ | refine Below.alloc ?_ (by simp [World.setCell]; try omega) _ | refine below_drewN ?_ _ | refine Below.drew ?_ | refine below_tr ?_ ‹Below _ _ _›))⟩
  | false =>
    have HX := Lib.hid (show notFlat x = !(!x.hi.any deepB) by simp [notFlat, flatF, hv])
    have HV := Lib.hid hv; clear hv
    go_enter Try.func78, Try.ntmps78
    go_wp2_with fail
    refine (isFixed_c (L1.out.below (by repeat (first | exact Below.refl _ _ | refine Below.setCell ?_ (by simp; try omega) _ | refine below_al ?_ _ | refine Below.alloc ?_ (by simp [World.setCell]; try omega) _ | refine below_drewN ?_ _ | refine Below.drew ?_ | refine below_tr ?_ ‹Below _ _ _›)))).mono ?_
    rintro e w1 ⟨rfl, b1⟩
    rw [HV.out]
    have P1 : Box2 w1 w.heap.size (.slice A1 x.lo.length c1) (.slice A2 x.hi.length c2) := (Box2.new w _ _ _).to b1
    have S1 : Below w.heap.size w w1 := (by repeat (first | exact Below.refl _ _ | refine Below.setCell ?_ (by simp; try omega) _ | refine below_al ?_ _ | refine Below.alloc ?_ (by simp [World.setCell]; try omega) _ | refine below_drewN ?_ _ | refine Below.drew ?_ | refine below_tr ?_ ‹Below _ _ _›))
    clear b1
    go_wp2_with fail
    refine (isFixed_c (L2.out.below S1)).mono ?_
    rintro e w2 ⟨rfl, b2⟩
    go_wp2
    go_ret
    exact ⟨ret_bool (by first | exact HX.out.symm | (rw [HX.out]; simp)), (by repeat (first | exact Below.refl _ _ | refine Below.setCell ?_ (by simp; try omega) _ | refine below_al ?_ _ | refine Below.alloc ?_ (by simp [World.setCell]; try omega) _ | refine below_drewN ?_ _ | refine Below.drew ?_ | refine below_tr ?_ ‹Below _ _ _›))⟩
theorem RectNest1_e : Enters Try.prog 78 := fun args W => by go_simp

theorem implRectNest_c {xs : List Lp} (h : Rep w (sls Lp.d xs) [.slice A n c] bs) :
    Calls Try.prog 29 #[.slice A n c] w fun e w' => e = .returned (.bool (RectNestF xs)) ∧ Below w.heap.size w w' := by
  have H := Lib.hid h; clear h
  cases hv : NestValidF xs with
  | false =>
    have HX := Lib.hid (show RectNestF xs = false by simp [RectNestF, hv])
    have HV := Lib.hid hv; clear hv
    go_enter Try.func29, Try.ntmps29
    go_wp2_with fail
    refine (implNestValid_c (H.out.below (by repeat (first | exact Below.refl _ _ | refine Below.setCell ?_ (by simp; try omega) _ | refine below_al ?_ _ | refine Below.alloc ?_ (by simp [World.setCell]; try omega) _ | refine below_drewN ?_ _ | refine Below.drew ?_ | refine below_tr ?_ ‹Below _ _ _›)))).mono ?_
    rintro e w1 ⟨rfl, b1⟩
    rw [HV.out]
    go_wp2
    go_ret
    exact ⟨ret_bool HX.out.symm, (by repeat (first | exact Below.refl _ _ | refine Below.setCell ?_ (by simp; try omega) _ | refine below_al ?_ _ | refine Below.alloc ?_ (by simp [World.setCell]; try omega) _ | refine below_drewN ?_ _ | refine Below.drew ?_ | refine below_tr ?_ ‹Below _ _ _›))⟩
  | true =>
    have HX := Lib.hid (show RectNestF xs = !xs.any notFlat by simp [RectNestF, hv])
    have HV := Lib.hid hv; clear hv
    go_enter Try.func29, Try.ntmps29
    go_wp2_with fail
    refine (implNestValid_c (H.out.below (by repeat (first | exact Below.refl _ _ | refine Below.setCell ?_ (by simp; try omega) _ | refine below_al ?_ _ | refine Below.alloc ?_ (by simp [World.setCell]; try omega) _ | refine below_drewN ?_ _ | refine Below.drew ?_ | refine below_tr ?_ ‹Below _ _ _›)))).mono ?_
    rintro e w1 ⟨rfl, b1⟩
    rw [HV.out]
    have S1 : Below w.heap.size w w1 := (by repeat (first | exact Below.refl _ _ | refine Below.setCell ?_ (by simp; try omega) _ | refine below_al ?_ _ | refine Below.alloc ?_ (by simp [World.setCell]; try omega) _ | refine below_drewN ?_ _ | refine Below.drew ?_ | refine below_tr ?_ ‹Below _ _ _›))
    clear b1
    go_wp2_with fail
    refine (ContainsFunc_Loop_c (p := notFlat) (H.out.below S1) RectNest1_e fun x cs bs W _ hb r => RectNest1_c r).mono ?_
    rintro e w2 ⟨rfl, b2⟩
    go_wp2
    go_ret
    exact ⟨ret_bool HX.out.symm, (by repeat (first | exact Below.refl _ _ | refine Below.setCell ?_ (by simp; try omega) _ | refine below_al ?_ _ | refine Below.alloc ?_ (by simp [World.setCell]; try omega) _ | refine below_drewN ?_ _ | refine Below.drew ?_ | refine below_tr ?_ ‹Below _ _ _›))⟩
end
end Go.Proofs.Ytlllidhmohdgiaa
