/- AddAffine and ScaleAffine of the reference; ScaleAffine of the program. -/
import Derived.Test.YtaomlianiehkgaaComb
set_option linter.all false
set_option linter.unusedSimpArgs false
set_option linter.unusedVariables false
namespace Go.Proofs.Ytaomlianiehkgaa
open Go.ChangeShapes Go.WideShapes Go.ChangeAt Go.RowKit Go.Deep

theorem combBd_of {a b : Aff} {p q : Int} (ha : affOk a = true) (hb : affOk b = true) (h1 : -10000 ≤ p) (h2 : p ≤ 10000) (h3 : -10000 ≤ q) (h4 : q ≤ 10000) : CombBd a p b q := by
  obtain ⟨x1, x2, x3⟩ := affOk_iff.1 ha
  obtain ⟨y1, y2, y3⟩ := affOk_iff.1 hb
  exact ⟨x1, y1, ⟨h1, h2⟩, ⟨h3, h4⟩, by omega, by omega, fun x hx => by have := x3 x hx; omega, fun x hx => by have := y3 x hx; omega⟩
theorem gi_combTo {xs ys : List Int} {p q : Int} {i j : Nat} (h : i < j) : gi (combTo xs p ys q j) i = p * gi xs i + q * gi ys i := by
  rw [gi_eq (by rw [combTo_len]; exact h)]; simp [combTo]
theorem combF_sum {a b : Aff} {k : Int} (ha : a.coefs.length = 4) (hb : b.coefs.length = 4) : combF a 1 b k = sumF a k b := by
  simp only [combF, sumF, Int.one_mul, Aff.mk.injEq, and_true]
  refine gi_ext (by rw [combTo_len, sumTo_len, ha]) fun i hi => ?_
  rw [combTo_len] at hi
  rw [gi_combTo hi, sumTo_lt _ _ _ _ _ (by omega) (by omega), Int.one_mul]
theorem combF_scale {a : Aff} {k : Int} (ha : a.coefs.length = 4) : combF a k (affConst 0) 0 = sumF (affConst 0) k a := by
  simp only [combF, sumF, affConst, Int.zero_mul, Int.add_zero, Int.zero_add, Aff.mk.injEq, and_true]
  refine gi_ext (by rw [combTo_len, sumTo_len]; rfl) fun i hi => ?_
  rw [combTo_len] at hi
  rw [gi_combTo hi, sumTo_lt _ _ _ _ _ (by omega) (by simp; omega)]
  have : gi [0, 0, 0, 0] i = 0 := by
    rcases (show i = 0 ∨ i = 1 ∨ i = 2 ∨ i = 3 by omega) with rfl | rfl | rfl | rfl <;> rfl
  rw [this]; simp
def ScaleAffineF (a : Aff) (q : Int) : Aff × Bool := if affOk a && inB q (-99) 99 then chkF (sumF (affConst 0) q a) else (affZero, false)

theorem chkF_len (a : Aff) : (chkF a).1.coefs.length ≤ 1000000 := by
  unfold chkF
  split
  · next h => have := (affOk_iff.1 h).1; simp only; omega
  · simp [affZero]
theorem ScaleAffineF_len (a : Aff) (q : Int) : (ScaleAffineF a q).1.coefs.length ≤ 1000000 := by
  unfold ScaleAffineF
  split
  · exact chkF_len _
  · simp [affZero]
theorem AddAffineF_len (a b : Aff) : (AddAffineF a b).1.coefs.length ≤ 1000000 := by
  unfold AddAffineF
  split
  · exact chkF_len _
  · simp [affZero]

section
variable {w : World} {a : Aff} {A : Option Addr} {n c : Nat} {k : Int} {bs : List Nat}
theorem l1CombineSum_c {b : Aff} {B : Option Addr} {m d : Nat} {kb q : Int} {bs' : List Nat} (h : Rep w a.d [.slice A n c, .int .i64 k] bs) (hb : Rep w b.d [.slice B m d, .int .i64 kb] bs') (hbd : CombBd a 1 b q) :
    Calls Try.prog 37 #[.agg #[.slice A n c, .int .i64 k], .int .i64 1, .agg #[.slice B m d, .int .i64 kb], .int .i64 q] w (MadeAff w (sumF a q b)) := by
  rw [← combF_sum hbd.la hbd.lb]
  exact l1Combine_c h hb hbd
theorem l1CombineScale_c {B : Option Addr} {m d : Nat} {kb q : Int} {bs' : List Nat} (h : Rep w a.d [.slice A n c, .int .i64 k] bs) (hb : Rep w (affConst 0).d [.slice B m d, .int .i64 kb] bs') (hbd : CombBd a q (affConst 0) 0) :
    Calls Try.prog 37 #[.agg #[.slice A n c, .int .i64 k], .int .i64 q, .agg #[.slice B m d, .int .i64 kb], .int .i64 0] w (MadeAff w (sumF (affConst 0) q a)) := by
  rw [← combF_scale hbd.la]
  exact l1Combine_c h hb hbd

set_option maxHeartbeats 400000 in
theorem specAddAffine_c {b : Aff} {B : Option Addr} {m d : Nat} {kb : Int} {bs' : List Nat} (h : Rep w a.d [.slice A n c, .int .i64 k] bs) (hb : Rep w b.d [.slice B m d, .int .i64 kb] bs') :
    Calls Try.prog 8 #[.agg #[.slice A n c, .int .i64 k], .agg #[.slice B m d, .int .i64 kb]] w (MadeAffB w (AddAffineF a b).1 (AddAffineF a b).2) := by
  have H := Lib.hid h; clear h
  have HB := Lib.hid hb; clear hb
  cases hv : affOk a with
  | false =>
    have HF := Lib.hid (show AddAffineF a b = (affZero, false) by simp [AddAffineF, hv])
    have HV := Lib.hid hv; clear hv
    go_enter Try.func8, Try.ntmps8
    go_wp2_with fail
    refine (specAffineValid_c (H.out.below (by repeat (first | with_reducible exact Below.refl _ _ | refine Below.setCell ?_ (by simp; try omega) _ | refine below_al ?_ _ | refine Below.alloc ?_ (by simp [World.setCell]; try omega) _ | refine below_drewN ?_ _ | refine Below.drew ?_ | refine below_tr ?_ ‹Below _ _ _›)))).mono ?_
    rintro e w1 ⟨rfl, b1⟩
    rw [HV.out]
    obtain ⟨hc1, hf1⟩ := bcell b1
    go_wp2
    exact bodyPost_ret (v := .tuple #[.agg #[.slice none 0 0, .int .i64 0], .bool false]) (by simp [results, Try.results8, go_sem, hc1]) rfl ⟨_, _, _, _, [], by rw [HF.out], by rw [HF.out]; exact Rep.affZero, by simp, by simp, (by repeat (first | with_reducible exact Below.refl _ _ | refine Below.setCell ?_ (by simp; try omega) _ | refine below_al ?_ _ | refine Below.alloc ?_ (by simp [World.setCell]; try omega) _ | refine below_drewN ?_ _ | refine Below.drew ?_ | refine below_tr ?_ ‹Below _ _ _›))⟩
  | true =>
    cases hvb : affOk b with
    | false =>
      have HF := Lib.hid (show AddAffineF a b = (affZero, false) by simp [AddAffineF, hvb])
      have HV := Lib.hid hv; clear hv
      have HVB := Lib.hid hvb; clear hvb
      go_enter Try.func8, Try.ntmps8
      go_wp2_with fail
      refine (specAffineValid_c (H.out.below (by repeat (first | with_reducible exact Below.refl _ _ | refine Below.setCell ?_ (by simp; try omega) _ | refine below_al ?_ _ | refine Below.alloc ?_ (by simp [World.setCell]; try omega) _ | refine below_drewN ?_ _ | refine Below.drew ?_ | refine below_tr ?_ ‹Below _ _ _›)))).mono ?_
      rintro e w1 ⟨rfl, b1⟩
      rw [HV.out]
      have S1 : Below w.heap.size w w1 := (by repeat (first | with_reducible exact Below.refl _ _ | refine Below.setCell ?_ (by simp; try omega) _ | refine below_al ?_ _ | refine Below.alloc ?_ (by simp [World.setCell]; try omega) _ | refine below_drewN ?_ _ | refine Below.drew ?_ | refine below_tr ?_ ‹Below _ _ _›))
      have P1 : Box2 w1 (w.heap.size + 1) (.slice B m d) (.int .i64 kb) := by
        constructor
        · rw [b1.cell (by simp)]; go_simp
        · rw [b1.cell (by simp)]; go_simp
      have Q1 : Box2 w1 (w.heap.size + 2) (.slice none 0 0) (.int .i64 0) := by
        constructor
        · rw [b1.cell (by simp)]; go_simp
        · rw [b1.cell (by simp)]; go_simp
      have F1 : w1.frozen? ⟨w.heap.size + 2, 0, none⟩ = false ∧ w1.frozen? ⟨w.heap.size + 2, 1, none⟩ = false := by
        constructor
        · rw [b1.frozen (by simp)]; go_simp
        · rw [b1.frozen (by simp)]; go_simp
      have hz1 : w.heap.size + 2 < w1.heap.size := by have := b1.size; simp at this; omega
      clear b1
      go_wp2_with fail
      refine (specAffineValid_c (HB.out.below S1)).mono ?_
      rintro e w2 ⟨rfl, b2⟩
      rw [HVB.out]
      have Q2 := Q1.to b2
      have F2 : w2.frozen? ⟨w.heap.size + 2, 0, none⟩ = false ∧ w2.frozen? ⟨w.heap.size + 2, 1, none⟩ = false := by
        rw [b2.frozen (by simp; omega), b2.frozen (by simp; omega)]; exact F1
      have S2 := below_tr S1 b2
      clear Q1 F1 P1
      go_wp2
      exact bodyPost_ret (v := .tuple #[.agg #[.slice none 0 0, .int .i64 0], .bool false]) (by simp [results, Try.results8, go_sem, Q2]) rfl ⟨_, _, _, _, [], by rw [HF.out], by rw [HF.out]; exact Rep.affZero, by simp, by simp, (S2.setCell (by simp; omega) _).setCell (by simp; omega) _⟩
    | true =>
      have HF := Lib.hid (show AddAffineF a b = chkF (sumF a 1 b) by simp [AddAffineF, hv, hvb])
      have HS := Lib.hid (combBd_of hv hvb (p := 1) (q := 1) (by omega) (by omega) (by omega) (by omega))
      have HV := Lib.hid hv; clear hv
      have HVB := Lib.hid hvb; clear hvb
      go_enter Try.func8, Try.ntmps8
      go_wp2_with fail
      refine (specAffineValid_c (H.out.below (by repeat (first | with_reducible exact Below.refl _ _ | refine Below.setCell ?_ (by simp; try omega) _ | refine below_al ?_ _ | refine Below.alloc ?_ (by simp [World.setCell]; try omega) _ | refine below_drewN ?_ _ | refine Below.drew ?_ | refine below_tr ?_ ‹Below _ _ _›)))).mono ?_
      rintro e w1 ⟨rfl, b1⟩
      rw [HV.out]
      have S1 : Below w.heap.size w w1 := (by repeat (first | with_reducible exact Below.refl _ _ | refine Below.setCell ?_ (by simp; try omega) _ | refine below_al ?_ _ | refine Below.alloc ?_ (by simp [World.setCell]; try omega) _ | refine below_drewN ?_ _ | refine Below.drew ?_ | refine below_tr ?_ ‹Below _ _ _›))
      have O1 : Box2 w1 w.heap.size (.slice A n c) (.int .i64 k) := by
        constructor
        · rw [b1.cell (by simp; omega)]; go_simp
        · rw [b1.cell (by simp; omega)]; go_simp
      have P1 : Box2 w1 (w.heap.size + 1) (.slice B m d) (.int .i64 kb) := by
        constructor
        · rw [b1.cell (by simp)]; go_simp
        · rw [b1.cell (by simp)]; go_simp
      have Q1 : Box2 w1 (w.heap.size + 2) (.slice none 0 0) (.int .i64 0) := by
        constructor
        · rw [b1.cell (by simp)]; go_simp
        · rw [b1.cell (by simp)]; go_simp
      have F1 : w1.frozen? ⟨w.heap.size + 2, 0, none⟩ = false ∧ w1.frozen? ⟨w.heap.size + 2, 1, none⟩ = false := by
        constructor
        · rw [b1.frozen (by simp)]; go_simp
        · rw [b1.frozen (by simp)]; go_simp
      have hz1 : w.heap.size + 2 < w1.heap.size := by have := b1.size; simp at this; omega
      clear b1
      go_wp2_with fail
      refine (specAffineValid_c (HB.out.below S1)).mono ?_
      rintro e w2 ⟨rfl, b2⟩
      rw [HVB.out]
      have O2 := O1.to b2
      have P2 := P1.to b2
      have Q2 := Q1.to b2
      have F2 : w2.frozen? ⟨w.heap.size + 2, 0, none⟩ = false ∧ w2.frozen? ⟨w.heap.size + 2, 1, none⟩ = false := by
        rw [b2.frozen (by simp; omega), b2.frozen (by simp; omega)]; exact F1
      have S2 := below_tr S1 b2
      have hz2 : w.heap.size + 2 < w2.heap.size := Nat.lt_of_lt_of_le hz1 b2.size
      clear Q1 F1 P1 O1 b2 S1 hz1
      go_wp2_with fail
      refine (l1CombineSum_c (H.out.below S2) (HB.out.below S2) HS.out).mono ?_
      rintro e w3 ⟨A3, n3, c3, k3, bs3, rfl, r3, nd3, hbs3, b3⟩
      have Q3 := Q2.to b3
      have F3 : w3.frozen? ⟨w.heap.size + 2, 0, none⟩ = false ∧ w3.frozen? ⟨w.heap.size + 2, 1, none⟩ = false := by
        rw [b3.frozen (by simp; omega), b3.frozen (by simp; omega)]; exact F2
      have S3 := below_tr S2 b3
      have hz3 : w.heap.size + 2 < w3.heap.size := Nat.lt_of_lt_of_le hz2 b3.size
      have R3 := Lib.hid r3
      have hbs3' : ∀ x ∈ bs3, w.heap.size + 2 < x := fun x hx => Nat.lt_of_lt_of_le hz2 (hbs3 x hx)
      clear Q2 F2 P2 O2 b3 S2 hz2 r3 hbs3
      go_wp2_with fail
      refine (l1Checked_c R3.out).mono ?_
      rintro e w4 ⟨rfl, b4⟩
      have Q4 := Q3.to b4
      have F4 : w4.frozen? ⟨w.heap.size + 2, 0, none⟩ = false ∧ w4.frozen? ⟨w.heap.size + 2, 1, none⟩ = false := by
        rw [b4.frozen (by simp; omega), b4.frozen (by simp; omega)]; exact F3
      have S4 := below_tr S3 b4
      have R4 := Lib.hid (R3.out.below b4)
      clear Q3 F3 b4 S3
      have hn2 : w.heap.size + 2 ∉ bs3 := fun hx => by have := hbs3' _ hx; omega
      cases hs : affOk (sumF a 1 b) with
      | false =>
        have HG := Lib.hid (show chkF (sumF a 1 b) = (affZero, false) by simp [chkF, hs])
        simp only [hs, Bool.false_eq_true, if_false]
        clear hs
        go_wp2
        exact bodyPost_ret (v := .tuple #[.agg #[.slice none 0 0, .int .i64 0], .bool false]) (by simp [results, Try.results8, go_sem, Q4]) rfl ⟨_, _, _, _, [], by rw [HF.out, HG.out], by rw [HF.out, HG.out]; exact Rep.affZero, by simp, by simp, (S4.setCell (by simp; omega) _).setCell (by simp; omega) _⟩
      | true =>
        have HG := Lib.hid (show chkF (sumF a 1 b) = (sumF a 1 b, true) by simp [chkF, hs])
        simp only [hs, if_true]
        clear hs
        go_wp2
        exact bodyPost_ret (v := .tuple #[.agg #[.slice A3 n3 c3, .int .i64 k3], .bool true]) (by simp [results, Try.results8, go_sem, Q4]) rfl ⟨_, _, _, _, bs3, by rw [HF.out, HG.out], by rw [HF.out, HG.out]; exact Rep.keep _ R4.out (((Keeps.refl _ _).setCell hn2 _).setCell hn2 _), nd3, fun x hx => by have := hbs3' x hx; omega, (S4.setCell (by simp; omega) _).setCell (by simp; omega) _⟩

end
end Go.Proofs.Ytaomlianiehkgaa
