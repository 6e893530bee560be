/- Sums of affine expressions: ownAffine, sum, checked of the program; l1Combine, l1Checked of the reference. -/
import Derived.Test.YtadmmlflngkpiaaCore
import Derived.Test.YtadmmlflngkpiaaVar
import Derived.Test.YtadmmlflngkpiaaDepth
set_option linter.all false
set_option linter.unusedSimpArgs false
set_option linter.unusedVariables false
namespace Go.Proofs.Ytadmmlflngkpiaa
open Go.ChangeShapes Go.WideShapes Go.ChangeAt Go.RowKit Go.Deep

section
variable {w : World} {a : Aff} {A : Option Addr} {n c : Nat} {k : Int} {bs : List Nat}

set_option maxHeartbeats 1000000 in
theorem ownAffine_c (h : Rep w a.d [.slice A n c, .int .i64 k] bs) (hn : n ≤ 10000000) :
    Calls Try.prog 83 #[.agg #[.slice A n c, .int .i64 k]] w (MadeAff w a) := by
  obtain ⟨hk, h1, h2⟩ := h.aff
  have HK := Lib.hid hk; clear hk h
  have HN := Lib.hid hn; clear hn
  have H1 := Lib.hid (And.intro h1 h2); clear h1 h2
  have P : Box2 ((w.alloc (.cells #[.slice A n c, .int .i64 k] 47)).alloc (.cells #[.slice none 0 0, .int .i64 0] 47)) w.heap.size (.slice A n c) (.int .i64 k) := (Box2.new w _ _ _).to ((Below.refl _ _).alloc (Nat.le_refl _) _)
  go_enter Try.func83, Try.ntmps83
  go_wp2_with fail
  go_region_held3 (fun w' => Box2 w' w.heap.size (.slice A n c) (.int .i64 k)) (first | exact P | exact P.to (of_drew b1) | exact ((P.to (of_drew b1)).set (by simp) _).set (by simp) _ | skip)
    (first | (go_at_call 99; refine (Clone_int_c (H1.out.1.below bel) HN.out).mono ?_; rintro e w1 ⟨A1, n1, c1, bs1, rfl, r1, nd, hbs, b1⟩; have hc1 := (bcell b1).1; have hf1 := (bcell b1).2))
  go_wp2
  have hbs' : ∀ b ∈ bs1, w.heap.size + 2 ≤ b := fun b hb => by have := hbs b hb; simp at this; omega
  have hn1 : w.heap.size ∉ bs1 := fun h => by have := hbs' _ h; omega
  have hn2 : w.heap.size + 1 ∉ bs1 := fun h => by have := hbs' _ h; omega
  exact bodyPost_ret (v := .agg #[.slice A1 n1 c1, .int .i64 k]) (by simp [results, Try.results83, go_sem, hc1]) rfl ⟨_, _, _, _, bs1, rfl, Rep.aff_iff.2 ⟨_, _, _, by rw [HK.out], Rep.keep _ r1 (by repeat (first | with_reducible exact Keeps.refl _ _ | refine Keeps.setCell ?_ (by simp; try omega) _ | refine Keeps.alloc ?_ (by simp [World.setCell]; try omega) _)), by rw [← HK.out]; exact H1.out.2⟩, nd, fun b hb => by have := hbs' b hb; omega, bel⟩

/-- the first j coefficients summed -/
def sumTo (xs : List Int) (k : Int) (ys : List Int) : Nat → List Int
  | 0 => xs
  | j + 1 => (sumTo xs k ys j).set j (gi (sumTo xs k ys j) j + k * gi ys j)
def sumF (a : Aff) (k : Int) (b : Aff) : Aff := ⟨sumTo a.coefs k b.coefs b.coefs.length, a.const + k * b.const⟩
theorem sumTo_len (xs : List Int) (k : Int) (ys : List Int) : ∀ j, (sumTo xs k ys j).length = xs.length
  | 0 => rfl
  | j + 1 => by rw [sumTo, List.length_set, sumTo_len xs k ys j]
theorem gi_set_ne {xs : List Int} {i j : Nat} {v : Int} (h : i ≠ j) : gi (xs.set i v) j = gi xs j := by
  simp [gi, List.getD_eq_getElem?_getD, List.getElem?_set, h]
theorem gi_set_eq {xs : List Int} {i : Nat} {v : Int} (h : i < xs.length) : gi (xs.set i v) i = v := by
  simp [gi, List.getD_eq_getElem?_getD, List.getElem?_set, h]
theorem sumTo_ge (xs : List Int) (k : Int) (ys : List Int) : ∀ j i, j ≤ i → gi (sumTo xs k ys j) i = gi xs i
  | 0, _, _ => rfl
  | j + 1, i, h => by rw [sumTo, gi_set_ne (by omega), sumTo_ge xs k ys j i (by omega)]
theorem sumTo_lt (xs : List Int) (k : Int) (ys : List Int) : ∀ j i, i < j → j ≤ xs.length → gi (sumTo xs k ys j) i = gi xs i + k * gi ys i
  | 0, i, h, _ => by omega
  | j + 1, i, h, hl => by
    rw [sumTo]
    by_cases e : j = i
    · subst e
      rw [gi_set_eq (by rw [sumTo_len]; omega), sumTo_ge xs k ys j j (Nat.le_refl _)]
    · rw [gi_set_ne e, sumTo_lt xs k ys j i (by omega) (by omega)]

/-- bounds under which sum does not wrap -/
structure SumBd (a : Aff) (k : Int) (b : Aff) : Prop where
  len : b.coefs.length ≤ a.coefs.length
  len4 : a.coefs.length ≤ 10000000
  k : -10000 ≤ k ∧ k ≤ 10000
  ca : -1000000000 ≤ a.const ∧ a.const ≤ 1000000000
  cb : -1000000000 ≤ b.const ∧ b.const ≤ 1000000000
  xa : ∀ x ∈ a.coefs, -1000000000 ≤ x ∧ x ≤ 1000000000
  xb : ∀ x ∈ b.coefs, -1000000000 ≤ x ∧ x ≤ 1000000000
theorem gi_bd {xs : List Int} {m : Int} (h0 : 0 ≤ m) (h : ∀ x ∈ xs, -m ≤ x ∧ x ≤ m) (j : Nat) : -m ≤ gi xs j ∧ gi xs j ≤ m := by
  rcases Nat.lt_or_ge j xs.length with hj | hj
  · rw [gi_eq hj]; exact h _ (List.getElem_mem _)
  · simp [gi, List.getD_eq_getElem?_getD, hj]; omega
theorem SumBd.prod {a b : Aff} {k : Int} (h : SumBd a k b) (j : Nat) : -10000000000000 ≤ k * gi b.coefs j ∧ k * gi b.coefs j ≤ 10000000000000 := by
  have := mul_bd h.k (gi_bd (by omega) h.xb j)
  omega
theorem SumBd.prodc {a b : Aff} {k : Int} (h : SumBd a k b) : -10000000000000 ≤ k * b.const ∧ k * b.const ≤ 10000000000000 := by
  have := mul_bd h.k h.cb
  omega

set_option maxHeartbeats 1000000 in
theorem sum_c {b : Aff} {B : Option Addr} {m d : Nat} {kb q : Int} {bs' : List Nat} (h : Rep w a.d [.slice A n c, .int .i64 k] bs) (hb : Rep w b.d [.slice B m d, .int .i64 kb] bs') (hbd : SumBd a q b) :
    Calls Try.prog 90 #[.agg #[.slice A n c, .int .i64 k], .int .i64 q, .agg #[.slice B m d, .int .i64 kb]] w (MadeAff w (sumF a q b)) := by
  obtain ⟨hkb, hb1, hb2⟩ := hb.aff
  obtain ⟨hm, _, _⟩ := hb1.ints_len
  have hn := h.aff.2.1.ints_len.1
  subst hkb hm
  have H := Lib.hid h; clear h
  have HB := Lib.hid hb1; clear hb hb1 hb2
  have HN := Lib.hid (show n ≤ 10000000 by rw [hn]; exact hbd.len4)
  have HNN := Lib.hid hn; clear hn
  have hlen4 : b.coefs.length ≤ 10000000 := Nat.le_trans hbd.len hbd.len4
  have HBD := Lib.hid hbd; clear hbd
  go_enter Try.func90, Try.ntmps90
  go_wp2_with fail
  refine (ownAffine_c (H.out.below bel) HN.out).mono ?_
  rintro e w1 ⟨A1, n1, c1, k1, bs1, rfl, r1, nd, hbs, b1⟩
  obtain ⟨hk1, r2, _⟩ := r1.aff
  obtain ⟨hn1, _, _⟩ := r2.ints_len
  subst hk1 hn1
  have PB : Box2 w1 (w.heap.size + 1) (.slice B b.coefs.length d) (.int .i64 b.const) := by
    constructor
    · rw [b1.cell (by simp)]; go_simp
    · rw [b1.cell (by simp)]; go_simp
  have hz : w.heap.size + 3 ≤ w1.heap.size := by have := b1.size; simp at this; omega
  have hbs1 : ∀ x ∈ bs1, w.heap.size + 3 ≤ x ∧ x < w1.heap.size := fun x hx => ⟨by have := hbs x hx; simp at this; omega, Rep.lt _ r2 x hx⟩
  have RB := Lib.hid ((HB.out.below (show Below w.heap.size w w1 from bel)).below (show Below w1.heap.size w1 (w1.alloc (.cells #[.slice A1 a.coefs.length c1, .int .i64 a.const] 47)) from bel))
  have R2 := Lib.hid (r2.below (show Below w1.heap.size w1 (w1.alloc (.cells #[.slice A1 a.coefs.length c1, .int .i64 a.const] 47)) from bel))
  have PR : Box2 w1 (w.heap.size + 2) (.slice none 0 0) (.int .i64 0) := by
    constructor
    · rw [b1.cell (by simp)]; go_simp
    · rw [b1.cell (by simp)]; go_simp
  have FR : w1.frozen? ⟨w.heap.size + 2, 0, none⟩ = false ∧ w1.frozen? ⟨w.heap.size + 2, 1, none⟩ = false := by
    constructor
    · rw [b1.frozen (by simp)]; go_simp
    · rw [b1.frozen (by simp)]; go_simp
  have S1 : Below w.heap.size w w1 := bel
  have hlt1 : w.heap.size + 1 < w1.heap.size := by omega
  have hlt2 : w.heap.size + 2 < w1.heap.size := by omega
  go_wp2
  have hnb : ∀ x ∈ bs', x ∉ bs1 := fun x hx hx1 => by have h1 := Rep.lt _ HB.out x hx; have h2 := hbs1 x hx1; omega
  have hn1 : w.heap.size + 1 ∉ bs1 := fun hx => by have := hbs1 _ hx; omega
  have hn2 : w.heap.size + 2 ∉ bs1 := fun hx => by have := hbs1 _ hx; omega
  have hn3 : w1.heap.size ∉ bs1 := fun hx => by have := hbs1 _ hx; omega
  have HBS := Lib.hid (And.intro hbs1 (And.intro hnb (And.intro hn1 (And.intro hn2 hn3)))); clear hbs1 hbs r1 r2 hz hnb hn1 hn2 hn3
  obtain ⟨W2, hW2⟩ : ∃ W, W = w1.alloc (.cells #[.slice A1 a.coefs.length c1, .int .i64 a.const] 47) := ⟨_, rfl⟩
  have SW : Below w1.heap.size w1 W2 := by rw [hW2]; exact (Below.refl _ _).alloc (Nat.le_refl _) _
  have hWs : W2.heap.size = w1.heap.size + 1 := by rw [hW2]; simp
  have PO : Box2 W2 w1.heap.size (.slice A1 a.coefs.length c1) (.int .i64 a.const) := by rw [hW2]; exact Box2.new _ _ _ _
  have FO : W2.frozen? ⟨w1.heap.size, 1, none⟩ = false := by rw [hW2]; go_simp
  rw [← hW2] at RB R2
  have PB2 := PB.to SW; clear PB
  have PR2 := PR.to SW; clear PR
  have FR2 : W2.frozen? ⟨w.heap.size + 2, 0, none⟩ = false ∧ W2.frozen? ⟨w.heap.size + 2, 1, none⟩ = false := by rw [SW.frozen (by omega), SW.frozen (by omega)]; exact FR
  have HF := Lib.hid (And.intro PO (And.intro FO (And.intro PB2 (And.intro PR2 (And.intro FR2 hWs))))); clear PO FO PB2 PR2 FR2 FR hWs
  have HSW := Lib.hid SW; clear SW
  have HW := Lib.hid hW2; clear hW2
  rw [← HW.out]
  go_loopw [8, 9, 15] (fun _ _ i wr => ∃ j : Nat, j ≤ b.coefs.length ∧ i = .int .i64 j ∧ Rep wr (ints (sumTo a.coefs q b.coefs j)) [.slice A1 a.coefs.length c1] bs1 ∧ Touch bs1 W2 wr) (fun _ _ i _ => b.coefs.length - (intOf i).toNat)
  case atStart => exact ⟨0, Nat.zero_le _, rfl, R2.out, Touch.refl _ _⟩
  case round =>
    obtain ⟨j, hj, rfl, hr, ht⟩ := hrel
    obtain ⟨PO, FO, PB2, PR2, FR2, hWs⟩ := HF.out
    obtain ⟨hbs1, hnb, hn1, hn2, hn3⟩ := HBS.out
    have rb : Rep wr (ints b.coefs) [.slice B b.coefs.length d] bs' := Rep.keep _ RB.out (ht.keeps fun x hx => ⟨Rep.lt _ RB.out x hx, hnb x hx⟩)
    have po := ht.box2 PO hn3
    have pb := ht.box2 PB2 hn1
    have pr := ht.box2 PR2 hn2
    have fo : wr.frozen? ⟨w1.heap.size, 1, none⟩ = false := by rw [ht.frozen (by omega) hn3]; exact FO
    have fr : wr.frozen? ⟨w.heap.size + 2, 0, none⟩ = false ∧ wr.frozen? ⟨w.heap.size + 2, 1, none⟩ = false := by rw [ht.frozen (by omega) hn2, ht.frozen (by omega) hn2]; exact FR2
    clear hnb hn1 hn2 hn3 PO FO PB2 PR2 FR2 hWs hbs1
    by_cases hlt : j < b.coefs.length
    · have hja : j < a.coefs.length := Nat.lt_of_lt_of_le hlt HBD.out.len
      obtain ⟨b0, o0, rfl, _, hbl0, hc0, _⟩ := rb.ints_at hlt
      obtain ⟨b2, o2, rfl, hb2, hbl2, hc2, hf2⟩ := hr.ints_at (k := j) (by rw [sumTo_len]; exact hja)
      rw [sumTo_ge a.coefs q b.coefs j j (Nat.le_refl _)] at hc2
      obtain ⟨p1, p2⟩ := HBD.out.prod j
      obtain ⟨x1, x2⟩ := gi_bd (by omega) HBD.out.xa j
      have hne : ¬ b2 = w1.heap.size := by rintro rfl; exact HBS.out.2.2.2.2 (by rw [hb2]; simp)
      have HB2 := Lib.hid hb2; clear hb2
      have hset := Lib.hid (hr.ints_set (j := j) (v := gi a.coefs j + q * gi b.coefs j) (by rw [sumTo_len]; exact hja) ⟨by omega, by omega⟩)
      have HST := Lib.hid (show sumTo a.coefs q b.coefs (j + 1) = (sumTo a.coefs q b.coefs j).set j (gi a.coefs j + q * gi b.coefs j) by rw [sumTo, sumTo_ge a.coefs q b.coefs j j (Nat.le_refl _)])
      go_wp2
      go_roundw
      case rel => exact ⟨j + 1, by omega, by go_num, by rw [HST.out]; exact hset.out, ht.setCell (by rw [HB2.out]; simp) _⟩
      case measure => simp [intOf]; omega
    · have hjj : j = b.coefs.length := by omega
      subst hjj
      obtain ⟨p1, p2⟩ := HBD.out.prodc
      have hca := HBD.out.ca
      have hne1 : ¬ w.heap.size + 2 = w1.heap.size := by omega
      have hne2 : ¬ w1.heap.size = w.heap.size + 2 := by omega
      go_wp2
      obtain ⟨hbs1, _, _, hn2, hn3⟩ := HBS.out
      have hWs := HF.out.2.2.2.2.2
      have S2 : Below w.heap.size w wr := (below_tr S1 HSW.out).trans (ht.below (by omega) fun x hx => by have := hbs1 x hx; omega)
      exact bodyPost_ret (v := .agg #[.slice A1 a.coefs.length c1, .int .i64 (a.const + q * b.const)]) (by simp [results, Try.results90, go_sem, pr]) rfl
        ⟨_, _, _, _, bs1, rfl, Rep.aff_iff.2 ⟨_, _, _, rfl, Rep.keep _ hr ((((Keeps.refl _ _).setCell hn3 _).setCell hn2 _).setCell hn2 _), by unfold I64; simp only [sumF]; omega⟩, nd, fun x hx => by have := hbs1 x hx; omega,
          ((S2.setCell (by simp; omega) _).setCell (by simp; omega) _).setCell (by simp; omega) _⟩

/-- the expression if it is valid -/
def chkF (a : Aff) : Aff × Bool := if affOk a then (a, true) else (affZero, false)
def AddAffineF (a b : Aff) : Aff × Bool := if affOk a && affOk b then chkF (sumF a 1 b) else (affZero, false)
theorem sumBd_of {a b : Aff} {k : Int} (ha : affOk a = true) (hb : affOk b = true) (h1 : -10000 ≤ k) (h2 : k ≤ 10000) : SumBd a k b := by
  obtain ⟨x1, x2, x3⟩ := affOk_iff.1 ha
  obtain ⟨y1, y2, y3⟩ := affOk_iff.1 hb
  exact ⟨by omega, by omega, ⟨h1, h2⟩, by omega, by omega, fun x hx => by have := x3 x hx; omega, fun x hx => by have := y3 x hx; omega⟩
theorem sumBd1 {a b : Aff} (ha : affOk a = true) (hb : affOk b = true) : SumBd a 1 b := sumBd_of ha hb (by omega) (by omega)

end
end Go.Proofs.Ytadmmlflngkpiaa
