/- Texts of this seat, joined: Sum, Comb, Add, Subst. -/
import Derived.Test.YtadmmlflngkpiaaCore
import Derived.Test.YtadmmlflngkpiaaVar
import Derived.Test.YtadmmlflngkpiaaDepth
import Derived.Deep.AppendLies
import Derived.Test.YtadmmlflngkpiaaMore
import Derived.Deep.RegionLaw
/- Sums of affine expressions: ownAffine, sum, checked of the program; l1Combine, l1Checked of the reference. -/
set_option linter.all false
set_option linter.unusedSimpArgs false
set_option linter.unusedVariables false
namespace Go.Proofs.Ytadmmlflngkpiaa
open Go.ChangeShapes Go.WideShapes Go.ChangeAt Go.RowKit Go.Deep

section
variable {w : World} {a : Aff} {A : Option Addr} {n c : Nat} {k : Int} {bs : List Nat}

set_option maxHeartbeats 1000000 in
theorem ownAffine_c (h : Rep w a.d [.slice A n c, .int .i64 k] bs) (hn : n ≤ 10000000) :
    Calls Try.prog 83 #[.agg #[.slice A n c, .int .i64 k]] w (MadeAff w a) := by
  obtain ⟨hk, h1, h2⟩ := h.aff
  have HK := Lib.hid hk; clear hk h
  have HN := Lib.hid hn; clear hn
  have H1 := Lib.hid (And.intro h1 h2); clear h1 h2
  have P : Box2 ((w.alloc (.cells #[.slice A n c, .int .i64 k] 47)).alloc (.cells #[.slice none 0 0, .int .i64 0] 47)) w.heap.size (.slice A n c) (.int .i64 k) := (Box2.new w _ _ _).to ((Below.refl _ _).alloc (Nat.le_refl _) _)
  go_enter Try.func83, Try.ntmps83
  go_wp2_with fail
  go_region_held3 (fun w' => Box2 w' w.heap.size (.slice A n c) (.int .i64 k)) (first | exact P | exact P.to (of_drew b1) | exact ((P.to (of_drew b1)).set (by simp) _).set (by simp) _ | skip)
    (first | (go_at_call 99; refine (Clone_int_c (H1.out.1.below bel) HN.out).mono ?_; rintro e w1 ⟨A1, n1, c1, bs1, rfl, r1, nd, hbs, b1⟩; have hc1 := (bcell b1).1; have hf1 := (bcell b1).2))
  go_wp2
  have hbs' : ∀ b ∈ bs1, w.heap.size + 2 ≤ b := fun b hb => by have := hbs b hb; simp at this; omega
  have hn1 : w.heap.size ∉ bs1 := fun h => by have := hbs' _ h; omega
  have hn2 : w.heap.size + 1 ∉ bs1 := fun h => by have := hbs' _ h; omega
  exact bodyPost_ret (v := .agg #[.slice A1 n1 c1, .int .i64 k]) (by simp [results, Try.results83, go_sem, hc1]) rfl ⟨_, _, _, _, bs1, rfl, Rep.aff_iff.2 ⟨_, _, _, by rw [HK.out], Rep.keep _ r1 (by repeat (first | with_reducible exact Keeps.refl _ _ | refine Keeps.setCell ?_ (by simp; try omega) _ | refine Keeps.alloc ?_ (by simp [World.setCell]; try omega) _)), by rw [← HK.out]; exact H1.out.2⟩, nd, fun b hb => by have := hbs' b hb; omega, bel⟩

/-- the first j coefficients summed -/
def sumTo (xs : List Int) (k : Int) (ys : List Int) : Nat → List Int
  | 0 => xs
  | j + 1 => (sumTo xs k ys j).set j (gi (sumTo xs k ys j) j + k * gi ys j)
def sumF (a : Aff) (k : Int) (b : Aff) : Aff := ⟨sumTo a.coefs k b.coefs b.coefs.length, a.const + k * b.const⟩
theorem sumTo_len (xs : List Int) (k : Int) (ys : List Int) : ∀ j, (sumTo xs k ys j).length = xs.length
  | 0 => rfl
  | j + 1 => by rw [sumTo, List.length_set, sumTo_len xs k ys j]
theorem gi_set_ne {xs : List Int} {i j : Nat} {v : Int} (h : i ≠ j) : gi (xs.set i v) j = gi xs j := by
  simp [gi, List.getD_eq_getElem?_getD, List.getElem?_set, h]
theorem gi_set_eq {xs : List Int} {i : Nat} {v : Int} (h : i < xs.length) : gi (xs.set i v) i = v := by
  simp [gi, List.getD_eq_getElem?_getD, List.getElem?_set, h]
theorem sumTo_ge (xs : List Int) (k : Int) (ys : List Int) : ∀ j i, j ≤ i → gi (sumTo xs k ys j) i = gi xs i
  | 0, _, _ => rfl
  | j + 1, i, h => by rw [sumTo, gi_set_ne (by omega), sumTo_ge xs k ys j i (by omega)]
theorem sumTo_lt (xs : List Int) (k : Int) (ys : List Int) : ∀ j i, i < j → j ≤ xs.length → gi (sumTo xs k ys j) i = gi xs i + k * gi ys i
  | 0, i, h, _ => by omega
  | j + 1, i, h, hl => by
    rw [sumTo]
    by_cases e : j = i
    · subst e
      rw [gi_set_eq (by rw [sumTo_len]; omega), sumTo_ge xs k ys j j (Nat.le_refl _)]
    · rw [gi_set_ne e, sumTo_lt xs k ys j i (by omega) (by omega)]

/-- bounds under which sum does not wrap -/
structure SumBd (a : Aff) (k : Int) (b : Aff) : Prop where
  len : b.coefs.length ≤ a.coefs.length
  len4 : a.coefs.length ≤ 10000000
  k : -10000 ≤ k ∧ k ≤ 10000
  ca : -1000000000 ≤ a.const ∧ a.const ≤ 1000000000
  cb : -1000000000 ≤ b.const ∧ b.const ≤ 1000000000
  xa : ∀ x ∈ a.coefs, -1000000000 ≤ x ∧ x ≤ 1000000000
  xb : ∀ x ∈ b.coefs, -1000000000 ≤ x ∧ x ≤ 1000000000
theorem gi_bd {xs : List Int} {m : Int} (h0 : 0 ≤ m) (h : ∀ x ∈ xs, -m ≤ x ∧ x ≤ m) (j : Nat) : -m ≤ gi xs j ∧ gi xs j ≤ m := by
  rcases Nat.lt_or_ge j xs.length with hj | hj
  · rw [gi_eq hj]; exact h _ (List.getElem_mem _)
  · simp [gi, List.getD_eq_getElem?_getD, hj]; omega
theorem SumBd.prod {a b : Aff} {k : Int} (h : SumBd a k b) (j : Nat) : -10000000000000 ≤ k * gi b.coefs j ∧ k * gi b.coefs j ≤ 10000000000000 := by
  have := mul_bd h.k (gi_bd (by omega) h.xb j)
  omega
theorem SumBd.prodc {a b : Aff} {k : Int} (h : SumBd a k b) : -10000000000000 ≤ k * b.const ∧ k * b.const ≤ 10000000000000 := by
  have := mul_bd h.k h.cb
  omega

set_option maxHeartbeats 1000000 in
theorem sum_c {b : Aff} {B : Option Addr} {m d : Nat} {kb q : Int} {bs' : List Nat} (h : Rep w a.d [.slice A n c, .int .i64 k] bs) (hb : Rep w b.d [.slice B m d, .int .i64 kb] bs') (hbd : SumBd a q b) :
    Calls Try.prog 90 #[.agg #[.slice A n c, .int .i64 k], .int .i64 q, .agg #[.slice B m d, .int .i64 kb]] w (MadeAff w (sumF a q b)) := by
  obtain ⟨hkb, hb1, hb2⟩ := hb.aff
  obtain ⟨hm, _, _⟩ := hb1.ints_len
  have hn := h.aff.2.1.ints_len.1
  subst hkb hm
  have H := Lib.hid h; clear h
  have HB := Lib.hid hb1; clear hb hb1 hb2
  have HN := Lib.hid (show n ≤ 10000000 by rw [hn]; exact hbd.len4)
  have HNN := Lib.hid hn; clear hn
  have hlen4 : b.coefs.length ≤ 10000000 := Nat.le_trans hbd.len hbd.len4
  have HBD := Lib.hid hbd; clear hbd
  go_enter Try.func90, Try.ntmps90
  go_wp2_with fail
  refine (ownAffine_c (H.out.below bel) HN.out).mono ?_
  rintro e w1 ⟨A1, n1, c1, k1, bs1, rfl, r1, nd, hbs, b1⟩
  obtain ⟨hk1, r2, _⟩ := r1.aff
  obtain ⟨hn1, _, _⟩ := r2.ints_len
  subst hk1 hn1
  have PB : Box2 w1 (w.heap.size + 1) (.slice B b.coefs.length d) (.int .i64 b.const) := by
    constructor
    · rw [b1.cell (by simp)]; go_simp
    · rw [b1.cell (by simp)]; go_simp
  have hz : w.heap.size + 3 ≤ w1.heap.size := by have := b1.size; simp at this; omega
  have hbs1 : ∀ x ∈ bs1, w.heap.size + 3 ≤ x ∧ x < w1.heap.size := fun x hx => ⟨by have := hbs x hx; simp at this; omega, Rep.lt _ r2 x hx⟩
  have RB := Lib.hid ((HB.out.below (show Below w.heap.size w w1 from bel)).below (show Below w1.heap.size w1 (w1.alloc (.cells #[.slice A1 a.coefs.length c1, .int .i64 a.const] 47)) from bel))
  have R2 := Lib.hid (r2.below (show Below w1.heap.size w1 (w1.alloc (.cells #[.slice A1 a.coefs.length c1, .int .i64 a.const] 47)) from bel))
  have PR : Box2 w1 (w.heap.size + 2) (.slice none 0 0) (.int .i64 0) := by
    constructor
    · rw [b1.cell (by simp)]; go_simp
    · rw [b1.cell (by simp)]; go_simp
  have FR : w1.frozen? ⟨w.heap.size + 2, 0, none⟩ = false ∧ w1.frozen? ⟨w.heap.size + 2, 1, none⟩ = false := by
    constructor
    · rw [b1.frozen (by simp)]; go_simp
    · rw [b1.frozen (by simp)]; go_simp
  have S1 : Below w.heap.size w w1 := bel
  have hlt1 : w.heap.size + 1 < w1.heap.size := by omega
  have hlt2 : w.heap.size + 2 < w1.heap.size := by omega
  go_wp2
  have hnb : ∀ x ∈ bs', x ∉ bs1 := fun x hx hx1 => by have h1 := Rep.lt _ HB.out x hx; have h2 := hbs1 x hx1; omega
  have hn1 : w.heap.size + 1 ∉ bs1 := fun hx => by have := hbs1 _ hx; omega
  have hn2 : w.heap.size + 2 ∉ bs1 := fun hx => by have := hbs1 _ hx; omega
  have hn3 : w1.heap.size ∉ bs1 := fun hx => by have := hbs1 _ hx; omega
  have HBS := Lib.hid (And.intro hbs1 (And.intro hnb (And.intro hn1 (And.intro hn2 hn3)))); clear hbs1 hbs r1 r2 hz hnb hn1 hn2 hn3
  obtain ⟨W2, hW2⟩ : ∃ W, W = w1.alloc (.cells #[.slice A1 a.coefs.length c1, .int .i64 a.const] 47) := ⟨_, rfl⟩
  have SW : Below w1.heap.size w1 W2 := by rw [hW2]; exact (Below.refl _ _).alloc (Nat.le_refl _) _
  have hWs : W2.heap.size = w1.heap.size + 1 := by rw [hW2]; simp
  have PO : Box2 W2 w1.heap.size (.slice A1 a.coefs.length c1) (.int .i64 a.const) := by rw [hW2]; exact Box2.new _ _ _ _
  have FO : W2.frozen? ⟨w1.heap.size, 1, none⟩ = false := by rw [hW2]; go_simp
  rw [← hW2] at RB R2
  have PB2 := PB.to SW; clear PB
  have PR2 := PR.to SW; clear PR
  have FR2 : W2.frozen? ⟨w.heap.size + 2, 0, none⟩ = false ∧ W2.frozen? ⟨w.heap.size + 2, 1, none⟩ = false := by rw [SW.frozen (by omega), SW.frozen (by omega)]; exact FR
  have HF := Lib.hid (And.intro PO (And.intro FO (And.intro PB2 (And.intro PR2 (And.intro FR2 hWs))))); clear PO FO PB2 PR2 FR2 FR hWs
  have HSW := Lib.hid SW; clear SW
  have HW := Lib.hid hW2; clear hW2
  rw [← HW.out]
  go_loopw [8, 9, 15] (fun _ _ i wr => ∃ j : Nat, j ≤ b.coefs.length ∧ i = .int .i64 j ∧ Rep wr (ints (sumTo a.coefs q b.coefs j)) [.slice A1 a.coefs.length c1] bs1 ∧ Touch bs1 W2 wr) (fun _ _ i _ => b.coefs.length - (intOf i).toNat)
  case atStart => exact ⟨0, Nat.zero_le _, rfl, R2.out, Touch.refl _ _⟩
  case round =>
    obtain ⟨j, hj, rfl, hr, ht⟩ := hrel
    obtain ⟨PO, FO, PB2, PR2, FR2, hWs⟩ := HF.out
    obtain ⟨hbs1, hnb, hn1, hn2, hn3⟩ := HBS.out
    have rb : Rep wr (ints b.coefs) [.slice B b.coefs.length d] bs' := Rep.keep _ RB.out (ht.keeps fun x hx => ⟨Rep.lt _ RB.out x hx, hnb x hx⟩)
    have po := ht.box2 PO hn3
    have pb := ht.box2 PB2 hn1
    have pr := ht.box2 PR2 hn2
    have fo : wr.frozen? ⟨w1.heap.size, 1, none⟩ = false := by rw [ht.frozen (by omega) hn3]; exact FO
    have fr : wr.frozen? ⟨w.heap.size + 2, 0, none⟩ = false ∧ wr.frozen? ⟨w.heap.size + 2, 1, none⟩ = false := by rw [ht.frozen (by omega) hn2, ht.frozen (by omega) hn2]; exact FR2
    clear hnb hn1 hn2 hn3 PO FO PB2 PR2 FR2 hWs hbs1
    by_cases hlt : j < b.coefs.length
    · have hja : j < a.coefs.length := Nat.lt_of_lt_of_le hlt HBD.out.len
      obtain ⟨b0, o0, rfl, _, hbl0, hc0, _⟩ := rb.ints_at hlt
      obtain ⟨b2, o2, rfl, hb2, hbl2, hc2, hf2⟩ := hr.ints_at (k := j) (by rw [sumTo_len]; exact hja)
      rw [sumTo_ge a.coefs q b.coefs j j (Nat.le_refl _)] at hc2
      obtain ⟨p1, p2⟩ := HBD.out.prod j
      obtain ⟨x1, x2⟩ := gi_bd (by omega) HBD.out.xa j
      have hne : ¬ b2 = w1.heap.size := by rintro rfl; exact HBS.out.2.2.2.2 (by rw [hb2]; simp)
      have HB2 := Lib.hid hb2; clear hb2
      have hset := Lib.hid (hr.ints_set (j := j) (v := gi a.coefs j + q * gi b.coefs j) (by rw [sumTo_len]; exact hja) ⟨by omega, by omega⟩)
      have HST := Lib.hid (show sumTo a.coefs q b.coefs (j + 1) = (sumTo a.coefs q b.coefs j).set j (gi a.coefs j + q * gi b.coefs j) by rw [sumTo, sumTo_ge a.coefs q b.coefs j j (Nat.le_refl _)])
      go_wp2
      go_roundw
      case rel => exact ⟨j + 1, by omega, by go_num, by rw [HST.out]; exact hset.out, ht.setCell (by rw [HB2.out]; simp) _⟩
      case measure => simp [intOf]; omega
    · have hjj : j = b.coefs.length := by omega
      subst hjj
      obtain ⟨p1, p2⟩ := HBD.out.prodc
      have hca := HBD.out.ca
      have hne1 : ¬ w.heap.size + 2 = w1.heap.size := by omega
      have hne2 : ¬ w1.heap.size = w.heap.size + 2 := by omega
      go_wp2
      obtain ⟨hbs1, _, _, hn2, hn3⟩ := HBS.out
      have hWs := HF.out.2.2.2.2.2
      have S2 : Below w.heap.size w wr := (below_tr S1 HSW.out).trans (ht.below (by omega) fun x hx => by have := hbs1 x hx; omega)
      exact bodyPost_ret (v := .agg #[.slice A1 a.coefs.length c1, .int .i64 (a.const + q * b.const)]) (by simp [results, Try.results90, go_sem, pr]) rfl
        ⟨_, _, _, _, bs1, rfl, Rep.aff_iff.2 ⟨_, _, _, rfl, Rep.keep _ hr ((((Keeps.refl _ _).setCell hn3 _).setCell hn2 _).setCell hn2 _), by unfold I64; simp only [sumF]; omega⟩, nd, fun x hx => by have := hbs1 x hx; omega,
          ((S2.setCell (by simp; omega) _).setCell (by simp; omega) _).setCell (by simp; omega) _⟩

/-- the expression if it is valid -/
def chkF (a : Aff) : Aff × Bool := if affOk a then (a, true) else (affZero, false)
def AddAffineF (a b : Aff) : Aff × Bool := if affOk a && affOk b then chkF (sumF a 1 b) else (affZero, false)
theorem sumBd_of {a b : Aff} {k : Int} (ha : affOk a = true) (hb : affOk b = true) (h1 : -10000 ≤ k) (h2 : k ≤ 10000) : SumBd a k b := by
  obtain ⟨x1, x2, x3⟩ := affOk_iff.1 ha
  obtain ⟨y1, y2, y3⟩ := affOk_iff.1 hb
  exact ⟨by omega, by omega, ⟨h1, h2⟩, by omega, by omega, fun x hx => by have := x3 x hx; omega, fun x hx => by have := y3 x hx; omega⟩
theorem sumBd1 {a b : Aff} (ha : affOk a = true) (hb : affOk b = true) : SumBd a 1 b := sumBd_of ha hb (by omega) (by omega)

end
end Go.Proofs.Ytadmmlflngkpiaa

/- Sums of multiples in the reference: l1Combine. -/
namespace Go.Proofs.Ytadmmlflngkpiaa
open Go.ChangeShapes Go.WideShapes Go.ChangeAt Go.RowKit Go.Deep

def combTo (xs : List Int) (p : Int) (ys : List Int) (q : Int) (j : Nat) : List Int := (List.range j).map fun i => p * gi xs i + q * gi ys i
def combF (a : Aff) (p : Int) (b : Aff) (q : Int) : Aff := ⟨combTo a.coefs p b.coefs q 4, p * a.const + q * b.const⟩
theorem combTo_succ (xs : List Int) (p : Int) (ys : List Int) (q : Int) (j : Nat) : combTo xs p ys q (j + 1) = combTo xs p ys q j ++ [p * gi xs j + q * gi ys j] := by
  simp [combTo, List.range_succ]
theorem combTo_len (xs : List Int) (p : Int) (ys : List Int) (q : Int) (j : Nat) : (combTo xs p ys q j).length = j := by simp [combTo]

/-- bounds under which l1Combine does not wrap -/
structure CombBd (a : Aff) (p : Int) (b : Aff) (q : Int) : Prop where
  la : a.coefs.length = 4
  lb : b.coefs.length = 4
  p : -10000 ≤ p ∧ p ≤ 10000
  q : -10000 ≤ q ∧ q ≤ 10000
  ca : -1000000000 ≤ a.const ∧ a.const ≤ 1000000000
  cb : -1000000000 ≤ b.const ∧ b.const ≤ 1000000000
  xa : ∀ x ∈ a.coefs, -1000000000 ≤ x ∧ x ≤ 1000000000
  xb : ∀ x ∈ b.coefs, -1000000000 ≤ x ∧ x ≤ 1000000000

/-- what stands at the head of a round -/
structure CombI (w : World) (a : Aff) (p : Int) (A : Option Addr) (na ca : Nat) (bsa : List Nat) (b : Aff) (q : Int) (B : Option Addr) (nb cb : Nat) (bsb : List Nat) (j : Nat) (v : Value) (wr : World) : Prop where
  bel : Below w.heap.size w wr
  size : w.heap.size + 4 ≤ wr.heap.size
  pa : Box2 wr w.heap.size (.slice A na ca) (.int .i64 a.const)
  pb : Box2 wr (w.heap.size + 1) (.slice B nb cb) (.int .i64 b.const)
  pr : Box2 wr (w.heap.size + 2) (.slice none 0 0) (.int .i64 0)
  po : Box2 wr (w.heap.size + 3) v (.int .i64 (p * a.const + q * b.const))
  fr : ∀ g i, w.heap.size ≤ g → g < w.heap.size + 4 → wr.frozen? ⟨g, i, none⟩ = false
  own : wr.ownsRow (w.heap.size + 4) 3 1 v j ((combTo a.coefs p b.coefs q j).map (.int .i64 ·))
  ra : Rep wr (ints a.coefs) [.slice A na ca] bsa
  rb : Rep wr (ints b.coefs) [.slice B nb cb] bsb

/-- what no operation of the round's statement turns -/
structure CombB (w : World) (a : Aff) (p : Int) (ba oa na ca : Nat) (bsa : List Nat) (b : Aff) (q : Int) (bb ob nb cb : Nat) (bsb : List Nat) (j : Nat) (W : World) : Prop where
  bel : Below w.heap.size w W
  size : w.heap.size + 4 ≤ W.heap.size
  pa : Box2 W w.heap.size (.slice (some ⟨ba, oa, none⟩) na ca) (.int .i64 a.const)
  pb : Box2 W (w.heap.size + 1) (.slice (some ⟨bb, ob, none⟩) nb cb) (.int .i64 b.const)
  pr : Box2 W (w.heap.size + 2) (.slice none 0 0) (.int .i64 0)
  po1 : W.cell? ⟨w.heap.size + 3, 1, none⟩ = some (.int .i64 (p * a.const + q * b.const))
  fr : ∀ g i, w.heap.size ≤ g → g < w.heap.size + 4 → W.frozen? ⟨g, i, none⟩ = false
  ra : Rep W (ints a.coefs) [.slice (some ⟨ba, oa, none⟩) na ca] bsa
  rb : Rep W (ints b.coefs) [.slice (some ⟨bb, ob, none⟩) nb cb] bsb
  la : ∀ x ∈ bsa, x < w.heap.size
  lb : ∀ x ∈ bsb, x < w.heap.size
  ca : W.cell? ⟨ba, oa + j, none⟩ = some (.int .i64 (gi a.coefs j))
  cb : W.cell? ⟨bb, ob + j, none⟩ = some (.int .i64 (gi b.coefs j))
  ha : ba < w.heap.size
  hb : bb < w.heap.size
theorem CombB.to {w : World} {a : Aff} {p : Int} {ba oa na ca : Nat} {bsa : List Nat} {b : Aff} {q : Int} {bb ob nb cb : Nat} {bsb : List Nat} {j : Nat} {W W' : World} (h : CombB w a p ba oa na ca bsa b q bb ob nb cb bsb j W)
    (k : Below (w.heap.size + 4) W W') : CombB w a p ba oa na ca bsa b q bb ob nb cb bsb j W' := by
  have hc : ∀ g i, g < w.heap.size + 4 → W'.cell? ⟨g, i, none⟩ = W.cell? ⟨g, i, none⟩ := fun g i hg => k.cell (p := ⟨g, i, none⟩) hg
  refine ⟨h.bel.trans (k.mono (by omega)), Nat.le_trans h.size k.size, ⟨by rw [hc _ _ (by omega)]; exact h.pa.1, by rw [hc _ _ (by omega)]; exact h.pa.2⟩, ⟨by rw [hc _ _ (by omega)]; exact h.pb.1, by rw [hc _ _ (by omega)]; exact h.pb.2⟩,
    ⟨by rw [hc _ _ (by omega)]; exact h.pr.1, by rw [hc _ _ (by omega)]; exact h.pr.2⟩, by rw [hc _ _ (by omega)]; exact h.po1, fun g i h1 h2 => by rw [k.frozen (p := ⟨g, i, none⟩) h2]; exact h.fr g i h1 h2,
    Rep.keep _ h.ra ⟨k.size, fun x hx => k.block x (by have := h.la x hx; omega)⟩, Rep.keep _ h.rb ⟨k.size, fun x hx => k.block x (by have := h.lb x hx; omega)⟩, h.la, h.lb,
    by have := h.ha; rw [hc _ _ (by omega)]; exact h.ca, by have := h.hb; rw [hc _ _ (by omega)]; exact h.cb, h.ha, h.hb⟩
theorem CombB.set {w : World} {a : Aff} {p : Int} {ba oa na ca : Nat} {bsa : List Nat} {b : Aff} {q : Int} {bb ob nb cb : Nat} {bsb : List Nat} {j : Nat} {W : World} (h : CombB w a p ba oa na ca bsa b q bb ob nb cb bsb j W)
    (u : Value) : CombB w a p ba oa na ca bsa b q bb ob nb cb bsb j (W.setCell ⟨w.heap.size + 3, 0, none⟩ u) := by
  have hc : ∀ g i, g ≠ w.heap.size + 3 ∨ i ≠ 0 → (W.setCell ⟨w.heap.size + 3, 0, none⟩ u).cell? ⟨g, i, none⟩ = W.cell? ⟨g, i, none⟩ := fun g i hg => World.cell?_setCell_other _ _ _ _ (by intro e; cases e; simp at hg)
  have hk : ∀ l : List Nat, (∀ x ∈ l, x < w.heap.size) → Keeps W (W.setCell ⟨w.heap.size + 3, 0, none⟩ u) l := fun l hl => (Keeps.refl _ _).setCell (fun hx => by have := hl _ hx; simp at this; omega) _
  have ha := h.ha
  have hb := h.hb
  exact ⟨h.bel.setCell (by simp) _, by simpa [World.setCell] using h.size, ⟨by rw [hc _ _ (.inl (by omega))]; exact h.pa.1, by rw [hc _ _ (.inl (by omega))]; exact h.pa.2⟩, ⟨by rw [hc _ _ (.inl (by omega))]; exact h.pb.1, by rw [hc _ _ (.inl (by omega))]; exact h.pb.2⟩,
    ⟨by rw [hc _ _ (.inl (by omega))]; exact h.pr.1, by rw [hc _ _ (.inl (by omega))]; exact h.pr.2⟩, by rw [hc _ _ (.inr (by omega))]; exact h.po1, fun g i h1 h2 => by rw [World.frozen?_setCell]; exact h.fr g i h1 h2,
    Rep.keep _ h.ra (hk _ h.la), Rep.keep _ h.rb (hk _ h.lb), h.la, h.lb, by rw [hc _ _ (.inl (by omega))]; exact h.ca, by rw [hc _ _ (.inl (by omega))]; exact h.cb, ha, hb⟩

/-- what the statement's operations find and leave; d18, d20: is the append, the store done? -/
structure CombJ (w : World) (a : Aff) (p : Int) (ba oa na ca : Nat) (bsa : List Nat) (b : Aff) (q : Int) (bb ob nb cb : Nat) (bsb : List Nat) (j : Nat) (v : Value) (d18 d20 : Bool) (W : World) : Prop where
  base : CombB w a p ba oa na ca bsa b q bb ob nb cb bsb j W
  po0 : d20 = false → W.cell? ⟨w.heap.size + 3, 0, none⟩ = some v
  own : d18 = false → W.ownsRow (w.heap.size + 4) 3 1 v j ((combTo a.coefs p b.coefs q j).map (.int .i64 ·))
  fin : d20 = true → ∃ g cap, W.cell? ⟨w.heap.size + 3, 0, none⟩ = some (.slice (some ⟨g, 0, none⟩) (j + 1) cap) ∧ W.ownsRow (w.heap.size + 4) 3 1 (.slice (some ⟨g, 0, none⟩) (j + 1) cap) (j + 1) ((combTo a.coefs p b.coefs q (j + 1)).map (.int .i64 ·))

/-- what each operation's slot holds -/
def combV (w : World) (a : Aff) (p : Int) (ba oa na ca : Nat) (b : Aff) (q : Int) (bb ob nb cb : Nat) (j : Nat) (v : Value) (i : Nat) (u : Value) (W : World) : Prop :=
  match i with
  | 0 => u = .pointer (some ⟨w.heap.size + 1 + 1 + 1, 0, none⟩)
  | 1 => u = v
  | 2 => u = .int .i64 p
  | 3 => u = .pointer (some ⟨w.heap.size, 0, none⟩)
  | 4 => u = .slice (some ⟨ba, oa, none⟩) na ca
  | 5 => u = .int .i64 j
  | 6 => u = .pointer (some ⟨ba, oa + j, none⟩)
  | 7 => u = .int .i64 (gi a.coefs j)
  | 8 => u = .int .i64 (p * gi a.coefs j)
  | 9 => u = .int .i64 q
  | 10 => u = .pointer (some ⟨w.heap.size + 1, 0, none⟩)
  | 11 => u = .slice (some ⟨bb, ob, none⟩) nb cb
  | 12 => u = .int .i64 j
  | 13 => u = .pointer (some ⟨bb, ob + j, none⟩)
  | 14 => u = .int .i64 (gi b.coefs j)
  | 15 => u = .int .i64 (q * gi b.coefs j)
  | 16 => u = .int .i64 (p * gi a.coefs j + q * gi b.coefs j)
  | 19 => u = .pointer (some ⟨w.heap.size + 1 + 1 + 1, 0, none⟩)
  | 17 => ∃ g, u = .slice (some ⟨g, 0, none⟩) 1 1 ∧ W.cell? ⟨g, 0, none⟩ = some (.int .i64 (p * gi a.coefs j + q * gi b.coefs j)) ∧ w.heap.size + 4 ≤ g ∧ g < W.heap.size ∧ v.ownBlock ≠ some g
  | 18 => ∃ g cap, u = .slice (some ⟨g, 0, none⟩) (j + 1) cap ∧ W.ownsRow (w.heap.size + 4) 3 1 u (j + 1) ((combTo a.coefs p b.coefs q (j + 1)).map (.int .i64 ·))
  | _ => True

theorem combV_pure {w : World} {a : Aff} {p : Int} {ba oa na ca : Nat} {b : Aff} {q : Int} {bb ob nb cb j : Nat} {v u : Value} {i : Nat} {W W' : World} (h1 : i ≠ 17) (h2 : i ≠ 18) (h : combV w a p ba oa na ca b q bb ob nb cb j v i u W) : combV w a p ba oa na ca b q bb ob nb cb j v i u W' := by
  unfold combV at h ⊢
  split at h <;> first | exact h | (exact absurd rfl h1) | (exact absurd rfl h2)
theorem own_lt {w : World} {base : Nat} {e : TypeId} {size n g : Nat} {v : Value} {xs : List Value} (h : w.ownsRow base e size v n xs) (hg : v.ownBlock = some g) : g < w.heap.size := by
  rcases h.2 with ⟨rfl, _⟩ | ⟨g', cap, cur, rfl, _, hh, _⟩
  · cases hg
  · have : g' = g := by simpa [Value.ownBlock] using hg
    subst this
    rcases Nat.lt_or_ge g' w.heap.size with h | h
    · exact h
    · rw [Array.getElem?_eq_none h] at hh; cases hh
theorem own_ge {w : World} {base : Nat} {e : TypeId} {size n g : Nat} {v : Value} {xs : List Value} (h : w.ownsRow base e size v n xs) (hg : v.ownBlock = some g) : base ≤ g := by
  rcases h.2 with ⟨rfl, _⟩ | ⟨g', cap, cur, rfl, hb, hh, _⟩
  · cases hg
  · have : g' = g := by simpa [Value.ownBlock] using hg
    subst this
    exact hb

section
variable {w : World} {a b : Aff} {A B : Option Addr} {na ca nb cb : Nat} {ka kb p q : Int} {bsa bsb : List Nat}

set_option maxHeartbeats 4000000 in
theorem l1Combine_c (h : Rep w a.d [.slice A na ca, .int .i64 ka] bsa) (hb : Rep w b.d [.slice B nb cb, .int .i64 kb] bsb) (hbd : CombBd a p b q) :
    Calls Try.prog 109 #[.agg #[.slice A na ca, .int .i64 ka], .int .i64 p, .agg #[.slice B nb cb, .int .i64 kb], .int .i64 q] w (MadeAff w (combF a p b q)) := by
  obtain ⟨rfl, ha1, _⟩ := h.aff
  obtain ⟨rfl, hb1, _⟩ := hb.aff
  have H := Lib.hid (And.intro ha1 hb1); clear h hb ha1 hb1
  obtain ⟨x1, x2⟩ := mul_bd hbd.p hbd.ca
  obtain ⟨y1, y2⟩ := mul_bd hbd.q hbd.cb
  have HBD := Lib.hid hbd; clear hbd
  go_enter Try.func109, Try.ntmps109
  go_wp2
  go_loopw [10] (fun i wr => ∃ (j : Nat) (v : Value), j ≤ 4 ∧ i = .int .i64 j ∧ CombI w a p A na ca bsa b q B nb cb bsb j v wr) (fun i _ => 4 - (intOf i).toNat)
  case atStart =>
    refine ⟨0, .slice none 0 0, by omega, rfl, bel, by simp, ⟨by go_simp, by go_simp⟩, ⟨by go_simp, by go_simp⟩, ⟨by go_simp, by go_simp⟩, ⟨by go_simp, by go_simp⟩, fun g i h1 h2 => ?_, ⟨rfl, .inl ⟨rfl, rfl⟩⟩, H.out.1.below bel, H.out.2.below bel⟩
    rcases (show g = w.heap.size ∨ g = w.heap.size + 1 ∨ g = w.heap.size + 1 + 1 ∨ g = w.heap.size + 1 + 1 + 1 by omega) with rfl | rfl | rfl | rfl <;> go_simp
  case round =>
    obtain ⟨j, v, hj, rfl, hI⟩ := hrel
    by_cases hlt : j < 4
    · obtain ⟨ba, oa, rfl, hbsa, hba, hca, _⟩ := hI.ra.ints_at (k := j) (by rw [HBD.out.la]; exact hlt)
      obtain ⟨bb, ob, rfl, hbsb, hbb, hcb, _⟩ := hI.rb.ints_at (k := j) (by rw [HBD.out.lb]; exact hlt)
      have hna := hI.ra.ints_len.1
      have hnb := hI.rb.ints_len.1
      rw [HBD.out.la] at hna
      rw [HBD.out.lb] at hnb
      have n1 : (0 : Int) ≤ (j : Int) := by omega
      have n2 : (j : Int) < (na : Int) := by omega
      have n3 : (j : Int) < (nb : Int) := by omega
      obtain ⟨p1, p2⟩ := mul_bd HBD.out.p (gi_bd (by omega) HBD.out.xa j)
      obtain ⟨q1, q2⟩ := mul_bd HBD.out.q (gi_bd (by omega) HBD.out.xb j)
      have m1 : IntKind.i64.wrap (p * gi a.coefs j) = p * gi a.coefs j := IntWalk.i64_in _ (by omega)
      have m2 : IntKind.i64.wrap (q * gi b.coefs j) = q * gi b.coefs j := IntWalk.i64_in _ (by omega)
      have m3 : IntKind.i64.wrap (p * gi a.coefs j + q * gi b.coefs j) = p * gi a.coefs j + q * gi b.coefs j := IntWalk.i64_in _ (by omega)
      have hJ0 : CombJ w a p ba oa na ca bsa b q bb ob nb cb bsb j v false false wr.drew := by
        have hA0 := Rep.lt _ H.out.1
        have hB0 := Rep.lt _ H.out.2
        exact ⟨⟨hI.bel.drew, hI.size, hI.pa, hI.pb, hI.pr, hI.po.2, hI.fr, hI.ra.drewN 1, hI.rb.drewN 1, hA0, hB0, hca, hcb, hA0 _ (by rw [hbsa]; simp), hB0 _ (by rw [hbsb]; simp)⟩, fun _ => hI.po.1, fun _ => hI.own, fun h => by cases h⟩
      have HJ0 := Lib.hid hJ0
      have HX := Lib.hid (And.intro hna (And.intro hnb (And.intro hbsa hbsb)))
      clear hJ0 hna hnb hbsa hbsb hI hca hcb hba hbb
      go_wp2
      refine region_by_ops (by kernel_rfl) (by kernel_rfl) (combV w a p ba oa na ca b q bb ob nb cb j v) (fun d W => CombJ w a p ba oa na ca bsa b q bb ob nb cb bsb j v (d 18) (d 20) W) HJ0.out ?_ ?_
      · intro i o ho d a' W hR hd hdeps
        have hi : i < 21 := (Array.getElem?_eq_some_iff.1 ho).1
        have hJ := hR.inv
        rcases (show i = 0 ∨ i = 1 ∨ i = 2 ∨ i = 3 ∨ i = 4 ∨ i = 5 ∨ i = 6 ∨ i = 7 ∨ i = 8 ∨ i = 9 ∨ i = 10 ∨ i = 11 ∨ i = 12 ∨ i = 13 ∨ i = 14 ∨ i = 15 ∨ i = 16 ∨ i = 17 ∨ i = 18 ∨ i = 19 ∨ i = 20 by omega) with rfl | rfl | rfl | rfl | rfl | rfl | rfl | rfl | rfl | rfl | rfl | rfl | rfl | rfl | rfl | rfl | rfl | rfl | rfl | rfl | rfl
        · cases ho
          have e9 := hR.old_ 9 rfl
          unfold Oper.wp
          go_simp
          exact leaves_pure (show _ = _ from rfl) (by simpa using hJ)
        · cases ho
          have e25 : a'.tmps.getD 25 undef = .pointer (some ⟨w.heap.size + 1 + 1 + 1, 0, none⟩) := hR.val 0 _ 25 rfl rfl (hdeps ⟨0, .data⟩ (by simp) rfl)
          have h20 : d 20 = false := by cases h : d 20 with | false => rfl | true => exact absurd (hR.closed 18 _ rfl (hR.closed 20 _ rfl h ⟨18, .data⟩ (by simp) rfl) ⟨1, .data⟩ (by simp) rfl) (by simp [hd])
          have hc := hJ.po0 h20
          unfold Oper.wp
          go_simp
          exact leaves_pure (show _ = _ from rfl) (by simpa using hJ)
        · cases ho
          have e1 := hR.old_ 1 rfl
          unfold Oper.wp
          go_simp
          exact leaves_pure (show _ = _ from rfl) (by simpa using hJ)
        · cases ho
          have e4 := hR.old_ 4 rfl
          unfold Oper.wp
          go_simp
          exact leaves_pure (show _ = _ from rfl) (by simpa using hJ)
        · cases ho
          have e28 : a'.tmps.getD 28 undef = .pointer (some ⟨w.heap.size, 0, none⟩) := hR.val 3 _ 28 rfl rfl (hdeps ⟨3, .data⟩ (by simp) rfl)
          have hc := hJ.base.pa.1
          unfold Oper.wp
          go_simp
          exact leaves_pure (show _ = _ from rfl) (by simpa using hJ)
        · cases ho
          have e10 := hR.old_ 10 rfl
          unfold Oper.wp
          go_simp
          exact leaves_pure (show _ = _ from rfl) (by simpa using hJ)
        · cases ho
          have e29 : a'.tmps.getD 29 undef = .slice (some ⟨ba, oa, none⟩) na ca := hR.val 4 _ 29 rfl rfl (hdeps ⟨4, .data⟩ (by simp) rfl)
          have e30 : a'.tmps.getD 30 undef = .int .i64 j := hR.val 5 _ 30 rfl rfl (hdeps ⟨5, .data⟩ (by simp) rfl)
          unfold Oper.wp
          go_simp
          exact leaves_pure (show _ = _ from rfl) (by simpa using hJ)
        · cases ho
          have e31 : a'.tmps.getD 31 undef = .pointer (some ⟨ba, oa + j, none⟩) := hR.val 6 _ 31 rfl rfl (hdeps ⟨6, .data⟩ (by simp) rfl)
          have hc := hJ.base.ca
          unfold Oper.wp
          go_simp
          exact leaves_pure (show _ = _ from rfl) (by simpa using hJ)
        · cases ho
          have e27 : a'.tmps.getD 27 undef = .int .i64 p := hR.val 2 _ 27 rfl rfl (hdeps ⟨2, .data⟩ (by simp) rfl)
          have e32 : a'.tmps.getD 32 undef = .int .i64 (gi a.coefs j) := hR.val 7 _ 32 rfl rfl (hdeps ⟨7, .data⟩ (by simp) rfl)
          unfold Oper.wp
          go_simp
          exact leaves_pure (show _ = _ from rfl) (by simpa using hJ)
        · cases ho
          have e3 := hR.old_ 3 rfl
          unfold Oper.wp
          go_simp
          exact leaves_pure (show _ = _ from rfl) (by simpa using hJ)
        · cases ho
          have e6 := hR.old_ 6 rfl
          unfold Oper.wp
          go_simp
          exact leaves_pure (show _ = _ from rfl) (by simpa using hJ)
        · cases ho
          have e35 : a'.tmps.getD 35 undef = .pointer (some ⟨w.heap.size + 1, 0, none⟩) := hR.val 10 _ 35 rfl rfl (hdeps ⟨10, .data⟩ (by simp) rfl)
          have hc := hJ.base.pb.1
          unfold Oper.wp
          go_simp
          exact leaves_pure (show _ = _ from rfl) (by simpa using hJ)
        · cases ho
          have e10 := hR.old_ 10 rfl
          unfold Oper.wp
          go_simp
          exact leaves_pure (show _ = _ from rfl) (by simpa using hJ)
        · cases ho
          have e36 : a'.tmps.getD 36 undef = .slice (some ⟨bb, ob, none⟩) nb cb := hR.val 11 _ 36 rfl rfl (hdeps ⟨11, .data⟩ (by simp) rfl)
          have e37 : a'.tmps.getD 37 undef = .int .i64 j := hR.val 12 _ 37 rfl rfl (hdeps ⟨12, .data⟩ (by simp) rfl)
          unfold Oper.wp
          go_simp
          exact leaves_pure (show _ = _ from rfl) (by simpa using hJ)
        · cases ho
          have e38 : a'.tmps.getD 38 undef = .pointer (some ⟨bb, ob + j, none⟩) := hR.val 13 _ 38 rfl rfl (hdeps ⟨13, .data⟩ (by simp) rfl)
          have hc := hJ.base.cb
          unfold Oper.wp
          go_simp
          exact leaves_pure (show _ = _ from rfl) (by simpa using hJ)
        · cases ho
          have e34 : a'.tmps.getD 34 undef = .int .i64 q := hR.val 9 _ 34 rfl rfl (hdeps ⟨9, .data⟩ (by simp) rfl)
          have e39 : a'.tmps.getD 39 undef = .int .i64 (gi b.coefs j) := hR.val 14 _ 39 rfl rfl (hdeps ⟨14, .data⟩ (by simp) rfl)
          unfold Oper.wp
          go_simp
          exact leaves_pure (show _ = _ from rfl) (by simpa using hJ)
        · cases ho
          have e33 : a'.tmps.getD 33 undef = .int .i64 (p * gi a.coefs j) := hR.val 8 _ 33 rfl rfl (hdeps ⟨8, .data⟩ (by simp) rfl)
          have e40 : a'.tmps.getD 40 undef = .int .i64 (q * gi b.coefs j) := hR.val 15 _ 40 rfl rfl (hdeps ⟨15, .data⟩ (by simp) rfl)
          unfold Oper.wp
          go_simp
          exact leaves_pure (show _ = _ from rfl) (by simpa using hJ)
        · cases ho
          have e41 : a'.tmps.getD 41 undef = .int .i64 (p * gi a.coefs j + q * gi b.coefs j) := hR.val 16 _ 41 rfl rfl (hdeps ⟨16, .data⟩ (by simp) rfl)
          have h18 : d 18 = false := by cases h : d 18 with | false => rfl | true => exact absurd (hR.closed 18 _ rfl h ⟨17, .data⟩ (by simp) rfl) (by simp [hd])
          have h20 : d 20 = false := by cases h : d 20 with | false => rfl | true => exact absurd (hR.closed 20 _ rfl h ⟨18, .data⟩ (by simp) rfl) (by simp [h18])
          have ho := hJ.own h18
          have hb := (Below.refl (w.heap.size + 4) W).alloc hJ.base.size (.cells #[.int .i64 (p * gi a.coefs j + q * gi b.coefs j)] 3)
          have e41' : a'.tmps[41]?.getD undef = .int .i64 (p * gi a.coefs j + q * gi b.coefs j) := by rw [← Array.getD_eq_getD_getElem?]; exact e41
          unfold Oper.wp
          go_simp
          refine ⟨_, rfl, fun _ => ⟨W.heap.size, rfl, by simp, hJ.base.size, by simp, fun h => ?_⟩, ⟨hJ.base.to hb, fun _ => ?_, fun _ => ho.alloc _, fun h => by simp [h20] at h⟩, fun k u hk hF => combV_pure (by rintro rfl; rw [hd] at hk; cases hk) (by rintro rfl; rw [h18] at hk; cases hk) hF⟩
          · have := own_lt ho h; omega
          · rw [hb.cell (p := ⟨w.heap.size + 3, 0, none⟩) (by simp)]; exact hJ.po0 h20
        · cases ho
          have e26 : a'.tmps.getD 26 undef = v := hR.val 1 _ 26 rfl rfl (hdeps ⟨1, .data⟩ (by simp) rfl)
          have e42 := hR.val 17 _ 42 rfl rfl (hdeps ⟨17, .data⟩ (by simp) rfl)
          obtain ⟨g, e42, hg1, hg2, hg3, hg4⟩ := e42
          have h20 : d 20 = false := by cases h : d 20 with | false => rfl | true => exact absurd (hR.closed 20 _ rfl h ⟨18, .data⟩ (by simp) rfl) (by simp [hd])
          have ho := hJ.own hd
          obtain ⟨i0, hi0, hz0, hz1, hz2⟩ := Try.info3
          refine wp_append_lies W (.tmp 26) (.tmp 42) 22 rfl (w.heap.size + 4) 3 i0 (.int .i64 0) 1 8 Try.underlying22 hi0 hz0 hz1 hz2 rfl (by decide) v j _ e26 ho ⟨g, 0, none⟩ 1 1 [.int .i64 (p * gi a.coefs j + q * gi b.coefs j)] e42 rfl ?_ ?_ (by decide) (by unfold maxLen; omega) (by omega) hJ.base.size W.heap.size rfl ?_
          · intro k u hu
            rcases k with _ | k
            · simp only [List.getElem?_cons_zero, Option.some.injEq] at hu
              subst hu; simpa [Addr.add] using hg1
            · simp at hu
          · intro u hu
            rw [List.mem_singleton.1 hu]; rfl
          · intro g' cap w' hown hgrow hat hlt'
            have hb : Below (w.heap.size + 4) W w' := (Below.refl _ _).grown hgrow hJ.base.size fun k hk => own_ge ho hk
            have hown' : w'.ownsRow (w.heap.size + 4) 3 1 (.slice (some ⟨g', 0, none⟩) (j + 1) cap) (j + 1) ((combTo a.coefs p b.coefs q (j + 1)).map (.int .i64 ·)) := by
              rw [combTo_succ, List.map_append]; exact hown
            refine ⟨_, rfl, fun _ => ⟨g', cap, rfl, hown'⟩, ⟨hJ.base.to hb, fun _ => ?_, fun h => by simp at h, fun h => by simp [h20] at h⟩, fun k u hk hF => ?_⟩
            · rw [hb.cell (p := ⟨w.heap.size + 3, 0, none⟩) (by simp)]; exact hJ.po0 h20
            · by_cases e17 : k = 17
              · subst e17
                obtain ⟨y, f1, f2, f3, f4, f5⟩ := hF
                exact ⟨y, f1, by rw [World.cell?_of_block (w := W) (a := ⟨y, 0, none⟩) (hgrow.block y f4 (fun e => f5 e.symm))]; exact f2, f3, Nat.lt_of_lt_of_le f4 hgrow.size, f5⟩
              · exact combV_pure e17 (by rintro rfl; rw [hd] at hk; cases hk) hF
        · cases ho
          have e9 := hR.old_ 9 rfl
          unfold Oper.wp
          go_simp
          exact leaves_pure (show _ = _ from rfl) (by simpa using hJ)
        · cases ho
          have e43 := hR.val 18 _ 43 rfl rfl (hdeps ⟨18, .data⟩ (by simp) rfl)
          have e44 : a'.tmps.getD 44 undef = .pointer (some ⟨w.heap.size + 1 + 1 + 1, 0, none⟩) := hR.val 19 _ 44 rfl rfl (hdeps ⟨19, .data⟩ (by simp) rfl)
          obtain ⟨g, cap, e43, hown⟩ := e43
          have h18 : d 18 = true := hdeps ⟨18, .data⟩ (by simp) rfl
          have hc := hJ.po0 hd
          have hf := hJ.base.fr (w.heap.size + 3) 0 (by omega) (by omega)
          unfold Oper.wp
          go_simp
          have hne : ∀ y, w.heap.size + 4 ≤ y → (⟨w.heap.size + 3, 0, none⟩ : Addr) ≠ ⟨y, 0, none⟩ := fun y hy e => by cases e; omega
          refine ⟨undef, rfl, fun h => absurd rfl h, ⟨hJ.base.set _, fun h => by simp at h, fun h => by simp [h18] at h, fun _ => ⟨g, cap, World.cell?_setCell_same _ _ _ hc, ownsRow_setCell_below (e43 ▸ hown) (by simp) _⟩⟩, fun k u hk hF => ?_⟩
          by_cases e17 : k = 17
          · subst e17
            obtain ⟨y, f1, f2, f3, f4, f5⟩ := hF
            exact ⟨y, f1, by rw [World.cell?_setCell_other _ _ _ _ (hne y f3)]; exact f2, f3, by simpa [World.setCell] using f4, f5⟩
          · by_cases e18 : k = 18
            · subst e18
              obtain ⟨y, cap', f1, f2⟩ := hF
              exact ⟨y, cap', f1, ownsRow_setCell_below f2 (by simp) _⟩
            · exact combV_pure e17 e18 hF
      · intro d a' W hR hall
        have hJ := hR.inv
        have h20 : d 20 = true := hall 20 (by decide)
        have hA := act_mix hR [25, 26, 27, 28, 29, 30, 31, 32, 33, 34, 35, 36, 37, 38, 39, 40, 41, 42, 43, 44] rfl
        simp only [mixF, Nat.reduceAdd, List.contains_cons, List.contains_nil, Nat.reduceBEq, Bool.or_false, Bool.or_true, Bool.true_or, Bool.false_or, if_true, if_false, Bool.false_eq_true] at hA
        have hb0 := hJ.base
        obtain ⟨g, cap, hfc, hfo⟩ := hJ.fin h20
        have HB := Lib.hid (And.intro hb0 (And.intro hfc hfo))
        clear hR hJ hall hb0 hfc hfo HJ0
        generalize a'.tmps.getD 25 undef = y25 at hA
        generalize a'.tmps.getD 26 undef = y26 at hA
        generalize a'.tmps.getD 27 undef = y27 at hA
        generalize a'.tmps.getD 28 undef = y28 at hA
        generalize a'.tmps.getD 29 undef = y29 at hA
        generalize a'.tmps.getD 30 undef = y30 at hA
        generalize a'.tmps.getD 31 undef = y31 at hA
        generalize a'.tmps.getD 32 undef = y32 at hA
        generalize a'.tmps.getD 33 undef = y33 at hA
        generalize a'.tmps.getD 34 undef = y34 at hA
        generalize a'.tmps.getD 35 undef = y35 at hA
        generalize a'.tmps.getD 36 undef = y36 at hA
        generalize a'.tmps.getD 37 undef = y37 at hA
        generalize a'.tmps.getD 38 undef = y38 at hA
        generalize a'.tmps.getD 39 undef = y39 at hA
        generalize a'.tmps.getD 40 undef = y40 at hA
        generalize a'.tmps.getD 41 undef = y41 at hA
        generalize a'.tmps.getD 42 undef = y42 at hA
        generalize a'.tmps.getD 43 undef = y43 at hA
        generalize a'.tmps.getD 44 undef = y44 at hA
        subst hA
        go_wp2
        go_roundw
        case rel =>
          obtain ⟨hb0, hfc, hfo⟩ := HB.out
          exact ⟨j + 1, _, by omega, by go_num, hb0.bel, hb0.size, hb0.pa, hb0.pb, hb0.pr, ⟨hfc, hb0.po1⟩, hb0.fr, hfo, hb0.ra, hb0.rb⟩
        case measure => simp [intOf]; omega
    · have hjj : j = 4 := by omega
      subst hjj
      have hfit : ∀ x ∈ combTo a.coefs p b.coefs q 4, I64 x := by
        intro x hx
        obtain ⟨k, _, rfl⟩ := List.mem_map.1 hx
        obtain ⟨p1, p2⟩ := mul_bd HBD.out.p (gi_bd (by omega) HBD.out.xa k)
        obtain ⟨q1, q2⟩ := mul_bd HBD.out.q (gi_bd (by omega) HBD.out.xb k)
        unfold I64; omega
      obtain ⟨A', c', bs', hv, hr, hbs⟩ := Rep.of_own (xs := (combTo a.coefs p b.coefs q 4).map .int) hI.own (by simp [combTo_len]) ((reps_ints _).2 ⟨rfl, rfl, hfit⟩)
      have hlo := fun g hg => own_ge (g := g) hI.own hg
      have hbs' : (bs' = [] ∨ ∃ g, bs' = [g] ∧ w.heap.size + 4 ≤ g) := by
        rcases hbs with ⟨_, h⟩ | ⟨g, h1, h2, _⟩
        · exact .inl h
        · exact .inr ⟨g, h1, h2⟩
      subst hv
      obtain ⟨po1, po2⟩ := hI.po
      obtain ⟨pr1, pr2⟩ := hI.pr
      have f1 := hI.fr (w.heap.size + 2) 0 (by omega) (by omega)
      have f2 := hI.fr (w.heap.size + 2) 1 (by omega) (by omega)
      have HI := Lib.hid (And.intro hI.bel (And.intro hr hbs')); clear hI hr hbs hbs' hlo hfit
      go_wp2
      obtain ⟨h1, h2, h3⟩ := HI.out
      have hn : w.heap.size + 2 ∉ bs' := by
        rcases h3 with rfl | ⟨g, rfl, hg⟩
        · simp
        · simp; omega
      exact bodyPost_ret (v := .agg #[.slice A' 4 c', .int .i64 (p * a.const + q * b.const)]) (by simp [results, Try.results109, go_sem, pr1, pr2]) rfl
        ⟨_, _, _, _, bs', rfl, Rep.aff_iff.2 ⟨_, _, _, rfl, Rep.keep _ h2 (((Keeps.refl _ _).setCell hn _).setCell hn _), by unfold I64; simp only [combF]; omega⟩,
          by rcases h3 with rfl | ⟨g, rfl, hg⟩ <;> simp, fun x hx => by rcases h3 with rfl | ⟨g, rfl, hg⟩ <;> simp at hx; omega, (h1.setCell (by simp; omega) _).setCell (by simp; omega) _⟩
end
end Go.Proofs.Ytadmmlflngkpiaa

/- AddAffine and ScaleAffine of the reference; ScaleAffine of the program. -/
namespace Go.Proofs.Ytadmmlflngkpiaa
open Go.ChangeShapes Go.WideShapes Go.ChangeAt Go.RowKit Go.Deep

theorem combBd_of {a b : Aff} {p q : Int} (ha : affOk a = true) (hb : affOk b = true) (h1 : -10000 ≤ p) (h2 : p ≤ 10000) (h3 : -10000 ≤ q) (h4 : q ≤ 10000) : CombBd a p b q := by
  obtain ⟨x1, x2, x3⟩ := affOk_iff.1 ha
  obtain ⟨y1, y2, y3⟩ := affOk_iff.1 hb
  exact ⟨x1, y1, ⟨h1, h2⟩, ⟨h3, h4⟩, by omega, by omega, fun x hx => by have := x3 x hx; omega, fun x hx => by have := y3 x hx; omega⟩
theorem gi_combTo {xs ys : List Int} {p q : Int} {i j : Nat} (h : i < j) : gi (combTo xs p ys q j) i = p * gi xs i + q * gi ys i := by
  rw [gi_eq (by rw [combTo_len]; exact h)]; simp [combTo]
theorem combF_sum {a b : Aff} {k : Int} (ha : a.coefs.length = 4) (hb : b.coefs.length = 4) : combF a 1 b k = sumF a k b := by
  simp only [combF, sumF, Int.one_mul, Aff.mk.injEq, and_true]
  refine gi_ext (by rw [combTo_len, sumTo_len, ha]) fun i hi => ?_
  rw [combTo_len] at hi
  rw [gi_combTo hi, sumTo_lt _ _ _ _ _ (by omega) (by omega), Int.one_mul]
theorem combF_scale {a : Aff} {k : Int} (ha : a.coefs.length = 4) : combF a k (affConst 0) 0 = sumF (affConst 0) k a := by
  simp only [combF, sumF, affConst, Int.zero_mul, Int.add_zero, Int.zero_add, Aff.mk.injEq, and_true]
  refine gi_ext (by rw [combTo_len, sumTo_len]; rfl) fun i hi => ?_
  rw [combTo_len] at hi
  rw [gi_combTo hi, sumTo_lt _ _ _ _ _ (by omega) (by simp; omega)]
  have : gi [0, 0, 0, 0] i = 0 := by
    rcases (show i = 0 ∨ i = 1 ∨ i = 2 ∨ i = 3 by omega) with rfl | rfl | rfl | rfl <;> rfl
  rw [this]; simp
def ScaleAffineF (a : Aff) (q : Int) : Aff × Bool := if affOk a && inB q (-99) 99 then chkF (sumF (affConst 0) q a) else (affZero, false)

theorem chkF_len (a : Aff) : (chkF a).1.coefs.length ≤ 1000000 := by
  unfold chkF
  split
  · next h => have := (affOk_iff.1 h).1; simp only; omega
  · simp [affZero]
theorem ScaleAffineF_len (a : Aff) (q : Int) : (ScaleAffineF a q).1.coefs.length ≤ 1000000 := by
  unfold ScaleAffineF
  split
  · exact chkF_len _
  · simp [affZero]
theorem AddAffineF_len (a b : Aff) : (AddAffineF a b).1.coefs.length ≤ 1000000 := by
  unfold AddAffineF
  split
  · exact chkF_len _
  · simp [affZero]

section
variable {w : World} {a : Aff} {A : Option Addr} {n c : Nat} {k : Int} {bs : List Nat}
theorem l1CombineSum_c {b : Aff} {B : Option Addr} {m d : Nat} {kb q : Int} {bs' : List Nat} (h : Rep w a.d [.slice A n c, .int .i64 k] bs) (hb : Rep w b.d [.slice B m d, .int .i64 kb] bs') (hbd : CombBd a 1 b q) :
    Calls Try.prog 109 #[.agg #[.slice A n c, .int .i64 k], .int .i64 1, .agg #[.slice B m d, .int .i64 kb], .int .i64 q] w (MadeAff w (sumF a q b)) := by
  rw [← combF_sum hbd.la hbd.lb]
  exact l1Combine_c h hb hbd
theorem l1CombineScale_c {B : Option Addr} {m d : Nat} {kb q : Int} {bs' : List Nat} (h : Rep w a.d [.slice A n c, .int .i64 k] bs) (hb : Rep w (affConst 0).d [.slice B m d, .int .i64 kb] bs') (hbd : CombBd a q (affConst 0) 0) :
    Calls Try.prog 109 #[.agg #[.slice A n c, .int .i64 k], .int .i64 q, .agg #[.slice B m d, .int .i64 kb], .int .i64 0] w (MadeAff w (sumF (affConst 0) q a)) := by
  rw [← combF_scale hbd.la]
  exact l1Combine_c h hb hbd

end
end Go.Proofs.Ytadmmlflngkpiaa

/- A variable replaced: subst, SubstAffine of the program; l1Subst, SubstAffine of the reference. -/
namespace Go.Proofs.Ytadmmlflngkpiaa
open Go.ChangeShapes Go.WideShapes Go.ChangeAt Go.RowKit Go.Deep

/-- the expression without a variable -/
def affCut (a : Aff) (v : Nat) : Aff := ⟨a.coefs.set v 0, a.const⟩
def substF (a : Aff) (v : Nat) (b : Aff) : Aff := sumF (affCut a v) (gi a.coefs v) b
def SubstAffineF (a : Aff) (v : Int) (b : Aff) : Aff × Bool := if affOk a && (affOk b && inB v 0 3) then chkF (substF a v.toNat b) else (affZero, false)
theorem affCut_ok {a : Aff} (h : affOk a = true) (v : Nat) : affOk (affCut a v) = true := by
  obtain ⟨h1, h2, h3⟩ := affOk_iff.1 h
  refine affOk_iff.2 ⟨by simp [affCut, h1], h2, fun x hx => ?_⟩
  rcases List.mem_or_eq_of_mem_set hx with hx | rfl
  · exact h3 x hx
  · omega
theorem gi_ok {a : Aff} (h : affOk a = true) (v : Nat) : -9 ≤ gi a.coefs v ∧ gi a.coefs v ≤ 9 := gi_bd (by omega) (affOk_iff.1 h).2.2 v

section
variable {w : World} {a b : Aff} {A B : Option Addr} {n c m d : Nat} {k kb : Int} {bs bs' : List Nat}

set_option maxHeartbeats 4000000 in
theorem subst_c (h : Rep w a.d [.slice A n c, .int .i64 k] bs) (hb : Rep w b.d [.slice B m d, .int .i64 kb] bs') (ha : affOk a = true) (hb2 : affOk b = true) {v : Int} (h0 : 0 ≤ v) (h4 : v < 4) :
    Calls Try.prog 65 #[.agg #[.slice A n c, .int .i64 k], .int .i64 v, .agg #[.slice B m d, .int .i64 kb]] w (MadeAff w (substF a v.toNat b)) := by
  obtain ⟨j, rfl⟩ := Int.eq_ofNat_of_zero_le h0
  have hj : j < 4 := by omega
  have hla := (affOk_iff.1 ha).1
  have hn4 : n = 4 := by rw [h.aff.2.1.ints_len.1, hla]
  subst hn4
  have HSB := Lib.hid (sumBd_of (affCut_ok ha j) hb2 (k := gi a.coefs j) (by have := gi_ok ha j; omega) (by have := gi_ok ha j; omega))
  have HLB := Lib.hid (Rep.lt _ hb)
  have HI0 := Lib.hid (show substF a ((j : Int)).toNat b = sumF (affCut a j) (gi a.coefs j) b from rfl)
  have hgi := gi_ok ha j
  have H := Lib.hid h; clear h
  have HB := Lib.hid hb; clear hb
  clear h0 h4 ha hb2
  rw [HI0.out]
  go_enter Try.func65, Try.ntmps65
  go_wp2_with fail
  refine (ownAffine_c (H.out.below bel) (by omega)).mono ?_
  rintro e w1 ⟨A1, n1, c1, k1, bs1, rfl, r1, nd1, hb1, b1⟩
  have P1 : Box2 w1 (w.heap.size + 1) (.slice B m d) (.int .i64 kb) := by
    refine ⟨?_, ?_⟩ <;> (rw [b1.cell (by simp [World.setCell]; try omega)]; go_simp)
  have FR1 : w1.frozen? ⟨(w.heap.size + 2), 0, none⟩ = false ∧ w1.frozen? ⟨(w.heap.size + 2), 1, none⟩ = false := by
    refine ⟨?_, ?_⟩ <;> (rw [b1.frozen (by simp [World.setCell]; try omega)]; go_simp)
  have R1 : Box2 w1 (w.heap.size + 2) (.slice none 0 0) (.int .i64 0) := by
    refine ⟨?_, ?_⟩ <;> (rw [b1.cell (by simp [World.setCell]; try omega)]; go_simp)
  have S1 : Below w.heap.size w w1 := bel
  obtain ⟨hk1, r2, hI⟩ := r1.aff
  obtain ⟨hn1, _, _⟩ := r2.ints_len
  rw [hla] at hn1
  subst hn1 hk1
  obtain ⟨b0, o, rfl, hbs, hbl, hc, hf⟩ := r2.ints_at (k := j) (by omega)
  subst hbs
  have hb0 : w.heap.size + 3 ≤ b0 := by have := hb1 b0 (by simp); simpa using this
  have hset := r2.ints_set (j := j) (v := 0) (by omega) (by unfold I64; omega)
  have HR := Lib.hid (And.intro hset hI); clear hset hb1 nd1 r1 r2 b1 hI
  have hz := S1.size
  obtain ⟨W, hW⟩ : ∃ W, W = (w1.setCell ⟨b0, o + j, none⟩ (.int .i64 0)).alloc (.cells #[.slice (some ⟨b0, o, none⟩) 4 c1, .int .i64 a.const] 47) := ⟨_, rfl⟩
  have hsz : (w1.setCell ⟨b0, o + j, none⟩ (.int .i64 0)).heap.size = w1.heap.size := by simp [World.setCell]
  have BW : Below (w.heap.size + 3) w1 W := by rw [hW]; exact ((Below.refl _ _).setCell hb0 _).alloc (by rw [hsz]; omega) _
  have BWw : Below w.heap.size w W := S1.trans (BW.mono (by omega))
  have HQ := Lib.hid (show Rep W (affCut a j).d [.slice (some ⟨b0, o, none⟩) 4 c1, .int .i64 a.const] [b0] from by
    have h1 := HR.out.1
    have h2 : Rep (w1.setCell ⟨b0, o + j, none⟩ (.int .i64 0)) (affCut a j).d [.slice (some ⟨b0, o, none⟩) 4 c1, .int .i64 a.const] [b0] := Rep.aff_iff.2 ⟨_, _, _, rfl, h1, HR.out.2⟩
    rw [hW]; exact h2.below ((Below.refl _ _).alloc (Nat.le_refl _) _))
  have HBW := Lib.hid (HB.out.below BWw)
  have RW : Box2 W (w.heap.size + 2) (.slice none 0 0) (.int .i64 0) := ⟨(BW.cell (p := ⟨w.heap.size + 2, 0, none⟩) (by simp; try omega)).trans R1.1, (BW.cell (p := ⟨w.heap.size + 2, 1, none⟩) (by simp; try omega)).trans R1.2⟩
  have FW : W.frozen? ⟨w.heap.size + 2, 0, none⟩ = false ∧ W.frozen? ⟨w.heap.size + 2, 1, none⟩ = false := ⟨(BW.frozen (p := ⟨w.heap.size + 2, 0, none⟩) (by simp; try omega)).trans FR1.1, (BW.frozen (p := ⟨w.heap.size + 2, 1, none⟩) (by simp; try omega)).trans FR1.2⟩
  have HW := Lib.hid hW; clear hW
  have hP := lt_of_cell P1.1
  have hne1 : ¬ b0 = w1.heap.size := by omega
  have hne2 : ¬ w1.heap.size = b0 := by omega
  have hne3 : ¬ b0 = w.heap.size + 1 := by omega
  have hne4 : ¬ w.heap.size + 1 = b0 := by omega
  go_wp2_with fail
  rw [← HW.out]
  refine (sum_c HQ.out HBW.out HSB.out).mono ?_
  rintro e w2 ⟨A2, n2, c2, k2, bs2, rfl, r2, nd2, hb2, b2⟩
  have hzW : w.heap.size + 3 ≤ W.heap.size := Nat.le_trans (by have := BW.size; have := lt_of_cell R1.1; omega) BW.size
  have R2 := RW.to b2
  have F2 : w2.frozen? ⟨w.heap.size + 2, 0, none⟩ = false ∧ w2.frozen? ⟨w.heap.size + 2, 1, none⟩ = false := ⟨(b2.frozen (p := ⟨w.heap.size + 2, 0, none⟩) (by simp; try omega)).trans FW.1, (b2.frozen (p := ⟨w.heap.size + 2, 1, none⟩) (by simp; try omega)).trans FW.2⟩
  have S2 := below_tr BWw b2
  have hn2 : w.heap.size + 2 ∉ bs2 := fun hx => by have := hb2 _ hx; omega
  have H2 := Lib.hid (And.intro r2 (And.intro nd2 hb2)); clear r2 nd2 hb2
  clear RW FW R1 FR1 P1 BW
  go_wp2
  refine bodyPost_ret (v := .agg #[.slice A2 n2 c2, .int .i64 k2]) (by simp [results, Try.results65, go_sem, R2]) rfl ⟨_, _, _, _, bs2, rfl, Rep.keep _ H2.out.1 (((Keeps.refl _ _).setCell hn2 _).setCell hn2 _), H2.out.2.1, fun x hx => by have := H2.out.2.2 x hx; omega, (S2.setCell (by simp; try omega) _).setCell (by simp; try omega) _⟩
set_option maxRecDepth 100000 in
set_option maxHeartbeats 4000000 in
theorem l1Subst_c (h : Rep w a.d [.slice A n c, .int .i64 k] bs) (hb : Rep w b.d [.slice B m d, .int .i64 kb] bs') (ha : affOk a = true) (hb2 : affOk b = true) {v : Int} (h0 : 0 ≤ v) (h4 : v < 4) :
    Calls Try.prog 100 #[.agg #[.slice A n c, .int .i64 k], .int .i64 v, .agg #[.slice B m d, .int .i64 kb]] w (MadeAff w (substF a v.toNat b)) := by
  obtain ⟨j, rfl⟩ := Int.eq_ofNat_of_zero_le h0
  have hj : j < 4 := by omega
  have hla := (affOk_iff.1 ha).1
  obtain ⟨hka, hra, hI⟩ := h.aff
  have hn4 : n = 4 := by rw [hra.ints_len.1, hla]
  subst hn4 hka
  have HCB := Lib.hid (combBd_of (affCut_ok ha j) hb2 (p := 1) (q := gi a.coefs j) (by omega) (by omega) (by have := gi_ok ha j; omega) (by have := gi_ok ha j; omega))
  have HI0 := Lib.hid (show substF a ((j : Int)).toNat b = sumF (affCut a j) (gi a.coefs j) b from rfl)
  obtain ⟨ba, oa, rfl, _, hba, hca, _⟩ := hra.ints_at (k := j) (by omega)
  have HA := Lib.hid (And.intro hra hI); clear h hra hI
  have HLA := Lib.hid (Rep.lt _ HA.out.1)
  have HB := Lib.hid hb; clear hb
  clear h0 h4 ha hb2
  rw [HI0.out]
  go_enter Try.func100, Try.ntmps100
  go_upto_region 1 with (fail)
  go_cut [7] (fun u wc => ∃ (g bq oq cq : Nat), u = .pointer (some ⟨g, 0, none⟩) ∧ BoxW wc g (.slice (some ⟨bq, oq, none⟩) 4 cq) (.int .i64 a.const) ∧ Rep wc (ints a.coefs) [.slice (some ⟨bq, oq, none⟩) 4 cq] [bq] ∧ bq ≠ g ∧ w.heap.size + 3 ≤ bq ∧ w.heap.size + 3 ≤ g ∧
    Box2 wc w.heap.size (.slice (some ⟨ba, oa, none⟩) 4 c) (.int .i64 a.const) ∧ Box2 wc (w.heap.size + 1) (.slice B m d) (.int .i64 kb) ∧ BoxW wc (w.heap.size + 2) (.slice none 0 0) (.int .i64 0) ∧ Below w.heap.size w wc)
  case first =>
    go_region_held3 (fun w' => Box2 w' w.heap.size (.slice (some ⟨ba, oa, none⟩) 4 c) (.int .i64 a.const)) (first | (refine ⟨?_, ?_⟩ <;> (go_simp; done)) | exact Q4 | (refine Q4.to ?_; (repeat (first | with_reducible exact Below.refl _ _ | refine Below.setCell ?_ (by simp; try omega) _ | refine below_al ?_ _ | refine Below.alloc ?_ (by simp [World.setCell]; try omega) _ | refine below_drewN ?_ _ | refine Below.drew ?_ | refine below_tr ?_ ‹Below _ _ _›)); done) | skip)
      (first
        | (refine wp_append_copy (B := w.heap.size + 3) (.tmp 8) (.tmp 10) rfl Try.underlying22 Try.infoInt rfl ?hG rfl (HA.out.1.below bel) (by omega) (by first | (simp; done) | (simp; omega) | omega) ?_
           case hG => (repeat (first | exact Grow.madeE _ _ (by simp) (by simp) | refine Grow.drewG ?_ | refine Grow.allocG ?_ _))
           intro v4 w4 hG4 hg4
           obtain ⟨A4, c4, bs4, rfl, r4, nd4, hb4, ho4⟩ := hG4.ints
           have Q4 : Box2 w4 w.heap.size (.slice (some ⟨ba, oa, none⟩) 4 c) (.int .i64 a.const) := hg4.touch.box2 ⟨by go_simp, by go_simp⟩ (fun hm => by have h5 : some _ = some w.heap.size := mem_ownL.1 hm; have h6 := Option.some.inj h5; clear h5; simp at h6; omega)
           have b4 : Below (w.heap.size + 3) _ w4 := hg4.below (by first | (simp; done) | (simp; omega) | omega) (fun y hy => by have h5 : some _ = some y := hy; have h6 := Option.some.inj h5; clear h5 hy; simp at h6; omega)
           have B4 := b4.mono (show w.heap.size ≤ w.heap.size + 3 by omega)
           clear hG4
           try (refine have_of (Q := BoxW w4 (w.heap.size + 4) (.slice none 0 0) (.int .i64 0)) ?hq ?_
                case hq => (refine hg4.touch.boxW ⟨⟨?_, ?_⟩, ?_, ?_⟩ ?_ <;> first | (go_simp; done) | (intro hm; have h5 : some _ = some (w.heap.size + 4) := mem_ownL.1 hm; have h6 := Option.some.inj h5; clear h5; simp at h6; done))
                rintro ⟨⟨Q5a, Q5b⟩, Q5c, Q5d⟩)
           try (refine have_of (Q := BoxW w4 (w.heap.size + 3) (.slice none 0 0) (.int .i64 0)) ?hq ?_
                case hq => (refine hg4.touch.boxW ⟨⟨?_, ?_⟩, ?_, ?_⟩ ?_ <;> first | (go_simp; done) | (intro hm; have h5 : some _ = some (w.heap.size + 3) := mem_ownL.1 hm; have h6 := Option.some.inj h5; clear h5; simp at h6; done))
                rintro ⟨⟨Q5a, Q5b⟩, Q5c, Q5d⟩)))
    all_goals
      (go_wp2_with fail
       go_meet
       rw [hla] at r4
       have z4 := b4.size
       simp at z4
       have o4 := hg4.own
       obtain ⟨bq, oq, rfl, hbs4, hbq, _, _⟩ := r4.ints_at (k := 0) (by omega)
       subst hbs4
       have hbB := hb4 bq (by simp)
       have hq := o4 bq (by simp [Value.ownBlock])
       clear o4 ho4 hb4
       simp [Value.ownBlock] at hq
       refine ⟨_, bq, oq, c4, rfl, ⟨⟨by go_simp, by go_simp⟩, by go_simp, by go_simp⟩, ?_, ?_, hbB, ?_, ?_, ?_, ?_, ?_⟩
       · refine Rep.keep _ r4 ?_
         first | exact Keeps.refl _ _ | (refine ((Keeps.refl _ _).setCell ?_ _).setCell ?_ _ <;> (simp; omega)) | (refine (Keeps.refl _ _).alloc (fun x hx => ?_) _; simp at hx; omega)
       · omega
       · omega
       · refine Box2.toB (w := ((w.alloc (.cells #[.slice (some ⟨ba, oa, none⟩) 4 c, .int .i64 a.const] 47)).alloc (.cells #[.slice B m d, .int .i64 kb] 47)).alloc (.cells #[.slice none 0 0, .int .i64 0] 47)) (B := w.heap.size + 3) ⟨by go_simp, by go_simp⟩ (by omega) ?_
         (repeat (first | with_reducible exact Below.refl _ _ | refine Below.setCell ?_ (by simp; try omega) _ | refine Below.alloc ?_ (by first | omega | (simp [World.setCell]; try omega)) _ | refine Below.drew ?_ | refine Below.trans ?_ b4 | refine Below.trans ?_ B4))
       · refine Box2.toB (w := ((w.alloc (.cells #[.slice (some ⟨ba, oa, none⟩) 4 c, .int .i64 a.const] 47)).alloc (.cells #[.slice B m d, .int .i64 kb] 47)).alloc (.cells #[.slice none 0 0, .int .i64 0] 47)) (B := w.heap.size + 3) ⟨by go_simp, by go_simp⟩ (by omega) ?_
         (repeat (first | with_reducible exact Below.refl _ _ | refine Below.setCell ?_ (by simp; try omega) _ | refine Below.alloc ?_ (by first | omega | (simp [World.setCell]; try omega)) _ | refine Below.drew ?_ | refine Below.trans ?_ b4 | refine Below.trans ?_ B4))
       · refine BoxW.toB (w := ((w.alloc (.cells #[.slice (some ⟨ba, oa, none⟩) 4 c, .int .i64 a.const] 47)).alloc (.cells #[.slice B m d, .int .i64 kb] 47)).alloc (.cells #[.slice none 0 0, .int .i64 0] 47)) (B := w.heap.size + 3) ⟨⟨by go_simp, by go_simp⟩, by go_simp, by go_simp⟩ (by omega) ?_
         (repeat (first | with_reducible exact Below.refl _ _ | refine Below.setCell ?_ (by simp; try omega) _ | refine Below.alloc ?_ (by first | omega | (simp [World.setCell]; try omega)) _ | refine Below.drew ?_ | refine Below.trans ?_ b4 | refine Below.trans ?_ B4))
       · (repeat (first | with_reducible exact Below.refl _ _ | refine Below.setCell ?_ (by simp; try omega) _ | refine Below.alloc ?_ (by first | omega | (simp [World.setCell]; try omega)) _ | refine Below.drew ?_ | refine Below.trans ?_ b4 | refine Below.trans ?_ B4)))
  case rest =>
    obtain ⟨g, bq, oq, cq, rfl, G0, r4, hne, hq3, hg3, P2, Q2, R0, b2⟩ := hcut
    obtain ⟨bx, ox, he, _, hbq, hcq, hfq⟩ := r4.ints_at (k := j) (by omega)
    simp only [Option.some.injEq, Addr.mk.injEq, and_true] at he
    obtain ⟨rfl, rfl⟩ := he
    obtain ⟨W, hW⟩ : ∃ W, W = wc.setCell ⟨bq, oq + j, none⟩ (.int .i64 0) := ⟨_, rfl⟩
    have BW : Below w.heap.size w W := by rw [hW]; exact b2.setCell (by simp; omega) _
    have hset := r4.ints_set (j := j) (v := 0) (by omega) (by unfold I64; omega)
    have HQ := Lib.hid (show Rep W (affCut a j).d [.slice (some ⟨bq, oq, none⟩) 4 cq, .int .i64 a.const] [bq] from by rw [hW]; exact Rep.aff_iff.2 ⟨_, _, _, rfl, hset, HA.out.2⟩)
    clear hset
    obtain ⟨⟨G1, G2⟩, _, _⟩ := G0
    have G : Box2 W g (.slice (some ⟨bq, oq, none⟩) 4 cq) (.int .i64 a.const) := by rw [hW]; exact Box2.set ⟨G1, G2⟩ hne _
    have P := (show Box2 W w.heap.size _ _ from by rw [hW]; exact P2.set (by simp; omega) _)
    have Q := (show Box2 W (w.heap.size + 1) _ _ from by rw [hW]; exact Q2.set (by simp; omega) _)
    have R : BoxW W (w.heap.size + 2) (.slice none 0 0) (.int .i64 0) := by rw [hW]; exact BoxW.toB (B := w.heap.size + 3) R0 (by omega) ((Below.refl _ _).setCell (by simp; omega) _)
    have C : W.cell? ⟨ba, oa + j, none⟩ = some (.int .i64 (gi a.coefs j)) := (BW.cell (p := ⟨ba, oa + j, none⟩) hba).trans hca
    have HW := Lib.hid hW
    have HBW := Lib.hid (HB.out.below BW)
    have hz : w.heap.size + 2 < W.heap.size := lt_of_cell R.1.1
    clear hW P2 Q2 R0 b2 r4
    have hji : (j : Int) < 4 := by omega
    have hj0 : (0 : Int) ≤ j := by omega
    go_upto_region 3 with (fail)
    rw [← HW.out]
    clear G1 G2 hcq hfq HW
    go_region_held3 (fun w' => Box2 w' g (.slice (some ⟨bq, oq, none⟩) 4 cq) (.int .i64 a.const) ∧ Box2 w' w.heap.size (.slice (some ⟨ba, oa, none⟩) 4 c) (.int .i64 a.const) ∧ Box2 w' (w.heap.size + 1) (.slice B m d) (.int .i64 kb) ∧ w'.cell? ⟨ba, oa + j, none⟩ = some (.int .i64 (gi a.coefs j))) (first | exact ⟨G, P, Q, C⟩ | exact ⟨G.to (of_drew b5), P.to (of_drew b5), Q.to (of_drew b5), ((of_drew b5).cell (lt_of_cell C)).trans C⟩ | (refine ⟨((G.to (of_drew b5)).set ?_ _).set ?_ _, ((P.to (of_drew b5)).set ?_ _).set ?_ _, ((Q.to (of_drew b5)).set ?_ _).set ?_ _, (((((of_drew b5).mono (show w.heap.size ≤ _ by omega)).setCell ?_ _).setCell ?_ _).cell (p := ⟨ba, oa + j, none⟩) hba).trans C⟩ <;> (simp <;> omega)) | skip)
      (first | (go_at_call 109; refine (l1CombineSum_c (HQ.out.below (of_drew (Below.refl _ _))) (HBW.out.below (of_drew (Below.refl _ _))) HCB.out).mono ?_; rintro e w5 ⟨A5, n5, c5, k5, bs5, rfl, r5, nd5, hb5, b5⟩; have R5 := BoxW.to R (of_drew b5); obtain ⟨⟨R5a, R5b⟩, R5c, R5d⟩ := R5))
    go_wp2
    have S5 : Below w.heap.size w w5 := BW.trans ((of_drew b5).mono (by omega))
    have hge5 : ∀ x ∈ bs5, w.heap.size + 3 ≤ x := fun x hx => by have := hb5 x hx; simp at this; omega
    have hn5 : w.heap.size + 2 ∉ bs5 := fun hx => by have := hge5 _ hx; omega
    exact bodyPost_ret (v := .agg #[.slice A5 n5 c5, .int .i64 k5]) (by simp [results, Try.results100, go_sem, R5a, R5b]) rfl ⟨_, _, _, _, bs5, rfl, Rep.keep _ r5 (((Keeps.refl _ _).setCell hn5 _).setCell hn5 _), nd5, fun x hx => by have := hge5 x hx; omega, (S5.setCell (by simp; try omega) _).setCell (by simp; try omega) _⟩
theorem SubstAffineF_len (a : Aff) (v : Int) (b : Aff) : (SubstAffineF a v b).1.coefs.length ≤ 1000000 := by
  unfold SubstAffineF
  split
  · exact chkF_len _
  · simp [affZero]
end
end Go.Proofs.Ytadmmlflngkpiaa
