/- Points of nests: l2Work, l2Points, NestPoints of the reference. -/
import Derived.Test.YtbhniobgaoncaaaGreatDoorZpRange
import Derived.Test.YtbhniobgaoncaaaGreatDoorZpBasic
set_option linter.all false
set_option linter.unusedSimpArgs false
set_option linter.unusedVariables false
namespace Go.Proofs.YtbhniobgaoncaaaGreatDoor
open Go.ChangeShapes Go.WideShapes Go.ChangeAt Go.RowKit Go.Deep

def sumN (f : Nat → Nat) : Nat → Nat
  | 0 => 0
  | m + 1 => sumN f m + f m
def catN {α : Type} (f : Nat → List α) : Nat → List α
  | 0 => []
  | m + 1 => catN f m ++ f m
/-- how many values the loop takes at a point -/
def widN (l : Lp) (p : List Int) : Nat := (hiF l p - loF l p).toNat
/-- the points of the loops that are left, behind some coordinates; the number of all steps -/
def ptsF : List Lp → List Int → List (List Int)
  | [], p => [p]
  | l :: ls, p => catN (fun k => ptsF ls (p ++ [loF l p + (k : Int)])) (widN l p)
def cntF : List Lp → List Int → Nat
  | [], _ => 1
  | l :: ls, p => 1 + sumN (fun k => cntF ls (p ++ [loF l p + (k : Int)])) (widN l p)
def NestPointsF (xs : List Lp) : List (List Int) × Bool :=
  if NestValidF xs && (decide (cntF xs [] ≤ 1200) && decide ((ptsF xs []).length ≤ 120)) then (ptsF xs [], true) else ([], false)
theorem sumN_le (f : Nat → Nat) : ∀ {j m : Nat}, j ≤ m → sumN f j ≤ sumN f m := fun {j m} h => by
  induction m with
  | zero => rw [Nat.le_zero.1 h]; exact Nat.le_refl _
  | succ m ih =>
    rcases Nat.lt_or_ge m j with hj | hj
    · rw [show j = m + 1 by omega]; exact Nat.le_refl _
    · exact Nat.le_trans (ih hj) (Nat.le_add_right _ _)
/-- bounds of the coordinates that loops take -/
def PtB (p : List Int) : Prop := ∀ i : Nat, i < p.length → -(99 * 10 ^ i) ≤ gi p i ∧ gi p i ≤ 99 * 10 ^ i
theorem PtB.nil : PtB [] := fun i h => by simp at h
theorem PtB.snoc {p : List Int} {v : Int} (h : PtB p) (h1 : -(99 * 10 ^ p.length) ≤ v) (h2 : v ≤ 99 * 10 ^ p.length) : PtB (p ++ [v]) := fun i hi => by
  rw [List.length_append, List.length_singleton] at hi
  rcases Nat.lt_or_ge i p.length with hj | hj
  · have : gi (p ++ [v]) i = gi p i := by simp [gi, List.getD_eq_getElem?_getD, List.getElem?_append_left hj]
    rw [this]; exact h i hj
  · have he : i = p.length := by omega
    subst he
    have : gi (p ++ [v]) p.length = v := by simp [gi, List.getD_eq_getElem?_getD]
    rw [this]; exact ⟨h1, h2⟩
theorem pow_small {i : Nat} (h : i ≤ 3) : (99 * 10 ^ i : Int) ≤ 99000 := by
  have : i = 0 ∨ i = 1 ∨ i = 2 ∨ i = 3 := by omega
  rcases this with rfl | rfl | rfl | rfl <;> decide
theorem PtB.small {p : List Int} (h : PtB p) (hl : p.length ≤ 4) : ∀ x ∈ p, -99000 ≤ x ∧ x ≤ 99000 := fun x hx => by
  obtain ⟨i, hi, rfl⟩ := List.getElem_of_mem hx
  have := h i hi
  rw [gi_eq hi] at this
  have := pow_small (i := i) (by omega)
  omega
theorem PtB.ev {a : Aff} {p : List Int} (ha : affOk a = true) (h : PtB p) : ∀ j : Nat, j ≤ p.length → -(99 * 10 ^ j) ≤ evTo a p j ∧ evTo a p j ≤ 99 * 10 ^ j
  | 0, _ => by obtain ⟨_, h2, _⟩ := affOk_iff.1 ha; simp only [evTo]; omega
  | j + 1, hj => by
    have h1 := PtB.ev ha h j (by omega)
    have h2 := h j (by omega)
    have h3 : -9 ≤ gi a.coefs j ∧ gi a.coefs j ≤ 9 := by
      rcases Nat.lt_or_ge j a.coefs.length with hj | hj
      · rw [gi_eq hj]; exact (affOk_iff.1 ha).2.2 _ (List.getElem_mem _)
      · simp [gi, List.getD_eq_getElem?_getD, hj]
    have h4 := mul_bd h3 h2
    simp only [evTo]
    have h5 : (10 : Int) ^ (j + 1) = 10 ^ j * 10 := Int.pow_succ _ _
    rw [h5]
    generalize (10 : Int) ^ j = T at *
    omega
theorem PtB.evBd {a : Aff} {p : List Int} (ha : affOk a = true) (h : PtB p) (hl : p.length ≤ 4) : EvBd a p := by
  obtain ⟨h1, h2, h3⟩ := affOk_iff.1 ha
  exact ⟨by omega, hl, h2, h3, fun x hx => by have := h.small hl x hx; omega⟩
theorem mxTo_bd {xs : List Aff} {p : List Int} {T : Int} (h0 : 0 < xs.length) (h : ∀ a ∈ xs, -T ≤ evF a p ∧ evF a p ≤ T) : ∀ j : Nat, j ≤ xs.length → -T ≤ mxTo xs p j ∧ mxTo xs p j ≤ T
  | 0, _ => by rw [mxTo, ← evAt_eq h0]; exact h _ (List.getElem_mem _)
  | j + 1, hj => by
    have h1 := mxTo_bd h0 h j (by omega)
    have h2 : -T ≤ evAt xs p j ∧ evAt xs p j ≤ T := by rw [← evAt_eq (show j < xs.length by omega)]; exact h _ (List.getElem_mem _)
    rw [mxTo]; split
    · exact h2
    · exact h1
theorem mnTo_bd {xs : List Aff} {p : List Int} {T : Int} (h0 : 0 < xs.length) (h : ∀ a ∈ xs, -T ≤ evF a p ∧ evF a p ≤ T) : ∀ j : Nat, j ≤ xs.length → -T ≤ mnTo xs p j ∧ mnTo xs p j ≤ T
  | 0, _ => by rw [mnTo, ← evAt_eq h0]; exact h _ (List.getElem_mem _)
  | j + 1, hj => by
    have h1 := mnTo_bd h0 h j (by omega)
    have h2 : -T ≤ evAt xs p j ∧ evAt xs p j ≤ T := by rw [← evAt_eq (show j < xs.length by omega)]; exact h _ (List.getElem_mem _)
    rw [mnTo]; split
    · exact h2
    · exact h1
/-- a loop whose bounds are valid -/
def LpOk (l : Lp) : Prop := (0 < l.lo.length ∧ ∀ a ∈ l.lo, affOk a = true) ∧ 0 < l.hi.length ∧ ∀ a ∈ l.hi, affOk a = true
theorem LpOk.bd {l : Lp} {p : List Int} (h : LpOk l) (hp : PtB p) (hl : p.length ≤ 4) : LpBd l p :=
  ⟨h.1.1, h.2.1, fun a ha => hp.evBd (h.1.2 a ha) hl, fun a ha => hp.evBd (h.2.2 a ha) hl⟩
theorem LpOk.lo {l : Lp} {p : List Int} (h : LpOk l) (hp : PtB p) : -(99 * 10 ^ p.length) ≤ loF l p ∧ loF l p ≤ 99 * 10 ^ p.length :=
  mxTo_bd h.1.1 (fun a ha => hp.ev (h.1.2 a ha) p.length (Nat.le_refl _)) _ (Nat.le_refl _)
theorem LpOk.hi {l : Lp} {p : List Int} (h : LpOk l) (hp : PtB p) : -(99 * 10 ^ p.length) ≤ hiF l p ∧ hiF l p ≤ 99 * 10 ^ p.length :=
  mnTo_bd h.2.1 (fun a ha => hp.ev (h.2.2 a ha) p.length (Nat.le_refl _)) _ (Nat.le_refl _)
theorem nest_ok {xs : List Lp} (h : NestValidF xs = true) : xs.length ≤ 4 ∧ ∀ l ∈ xs, LpOk l := by
  simp only [NestValidF, Bool.and_eq_true, decide_eq_true_iff] at h
  refine ⟨h.1, fun l hl => ?_⟩
  obtain ⟨i, hi, rfl⟩ := List.getElem_of_mem hl
  obtain ⟨h1, h2⟩ := nestFrom_at xs 0 h.2 i hi
  have a1 := sideOk_iff h1
  have a2 := sideOk_iff h2
  exact ⟨⟨a1.1, fun a ha => (a1.2.2 a ha).1⟩, a2.1, fun a ha => (a2.2.2 a ha).1⟩
/-- the next coordinate -/
theorem LpOk.next {l : Lp} {p : List Int} (h : LpOk l) (hp : PtB p) {k : Nat} (hk : k < widN l p) : PtB (p ++ [loF l p + (k : Int)]) := by
  have h1 := h.lo hp
  have h2 := h.hi hp
  unfold widN at hk
  exact hp.snoc (by omega) (by omega)
theorem LpOk.small {l : Lp} {p : List Int} (h : LpOk l) (hp : PtB p) (hl : p.length ≤ 3) : (-99000 ≤ loF l p ∧ loF l p ≤ 99000) ∧ -99000 ≤ hiF l p ∧ hiF l p ≤ 99000 := by
  have h1 := h.lo hp
  have h2 := h.hi hp
  have := pow_small hl
  omega
def WorkEx (ls : List Lp) : Prop := ∀ (xs pre : List Lp) (p : List Int) (w : World) (A B : Option Addr) (n c m d : Nat) (bs bs' : List Nat) (most : Int), xs = pre ++ ls → p.length = pre.length → xs.length ≤ 4 → (∀ l ∈ xs, LpOk l) → PtB p → 0 ≤ most → most ≤ 1200 →
    Rep w (sls Lp.d xs) [.slice A n c] bs → Rep w (ints p) [.slice B m d] bs' →
    Calls Tryz.prog 168 #[.slice A n c, .slice B m d, .int .i64 most] w fun e w' => e = .returned (.int .i64 (min (cntF ls p : Int) (most + 1))) ∧ Below w.heap.size w w'
set_option maxRecDepth 100000 in
set_option maxHeartbeats 4000000 in
theorem l2Work_c : (ls : List Lp) → WorkEx ls
  | [] => by
    intro xs pre p w A B n c m d bs bs' most hx hp hl4 hok hpb h0 h1 h h'
    obtain ⟨rfl, _, _⟩ := h.sls_len
    obtain ⟨rfl, _, _⟩ := h'.ints_len
    have hq : ((p.length : Int) == (xs.length : Int)) = true := ieq_t (by rw [hx, List.append_nil]; omega)
    have hr : min (cntF [] p : Int) (most + 1) = 1 := by simp only [cntF]; omega
    rw [hr]
    clear hx
    go_enter Tryz.func168, Tryz.ntmps168
    go_wp2
    go_ret
    exact ⟨rfl, bel⟩
  | l :: ls => by
    intro xs pre p w A B n c m d bs bs' most hx hp hl4 hok hpb h0 h1 h h'
    have ih := l2Work_c ls
    obtain ⟨rfl, hn1, hn2⟩ := h.sls_len
    obtain ⟨rfl, hm1, hm2⟩ := h'.ints_len
    have hxl : xs.length = p.length + 1 + ls.length := by rw [hx, List.length_append, List.length_cons, hp]; omega
    have hlt : p.length < xs.length := by omega
    have hget : xs[p.length] = l := by
      simp only [hx, hp]; simp
    have hLO := hok l (by rw [hx]; simp)
    have hsm := hLO.small hpb (by omega)
    have hq : ((p.length : Int) == (xs.length : Int)) = false := ieq_f (by omega)
    have IH := Lib.hid ih; clear ih
    have hl3 : p.length ≤ 3 := by omega
    have HX := Lib.hid (And.intro hx (And.intro hp hxl)); clear hx hp hxl
    have HOK := Lib.hid (And.intro hok (And.intro hpb (And.intro hLO hget)))
    have HBD := Lib.hid (show LpBd xs[p.length] p by rw [hget]; exact hLO.bd hpb (by omega))
    have HRL := Lib.hid (show loF xs[p.length] p = loF l p by rw [hget])
    have HRH := Lib.hid (show hiF xs[p.length] p = hiF l p by rw [hget])
    have H := Lib.hid h; clear h
    have HP := Lib.hid h'; clear h'
    obtain ⟨lo, hlo⟩ : ∃ lo, lo = loF l p := ⟨_, rfl⟩
    obtain ⟨hi, hhi⟩ : ∃ hi, hi = hiF l p := ⟨_, rfl⟩
    rw [← hlo, ← hhi] at hsm
    have hw : widN l p = (hi - lo).toNat := by rw [widN, hlo, hhi]
    have HC := Lib.hid (show cntF (l :: ls) p = 1 + sumN (fun k => cntF ls (p ++ [lo + (k : Int)])) (hi - lo).toNat by rw [cntF, hw, hlo])
    have HLO := Lib.hid (And.intro hlo (And.intro hhi hw))
    clear hlo hhi hw hok hpb hLO hget hn1 hn2 hm1 hm2
    obtain ⟨f, hf⟩ : ∃ f : Nat → Nat, f = fun k : Nat => cntF ls (p ++ [lo + (k : Int)]) := ⟨_, rfl⟩
    rw [← hf] at HC
    have HF := Lib.hid hf; clear hf
    rw [HC.out]
    obtain ⟨be, oe, cse, le, rfl, hble, hre, _, _, hce⟩ := H.out.sls_at Lp.d_size (k := p.length) hlt
    have Ge := Lib.hid hre
    obtain ⟨A1e, c1e, A2e, c2e, d1e, d2e, rfl, rfl, g1e, g2e⟩ := Rep.lp_iff.1 hre
    have k0e := (hce 0 _ rfl).1; rw [Nat.add_zero] at k0e
    have k1e := (hce 1 _ rfl).1
    have Q1e := Lib.hid g1e
    have Q2e := Lib.hid g2e
    clear hce hre g1e g2e
    go_enter Tryz.func168, Tryz.ntmps168
    go_wp2_with fail
    refine (l2Range_c (Ge.out.below bel) (HP.out.below bel) HBD.out).mono ?_
    rintro e w1 ⟨rfl, b1⟩
    have S1 : Below w.heap.size w w1 := bel
    rw [HRL.out, HRH.out, ← HLO.out.1, ← HLO.out.2.1]
    clear b1 k0e k1e hq
    go_wp2
    go_loopw [7, 10] (fun u i wr => ∃ k : Nat, k ≤ (hi - lo).toNat ∧ i = .int .i64 (lo + (k : Int)) ∧ u = .int .i64 (min ((1 + sumN f k : Nat) : Int) (most + 1)) ∧ Below w.heap.size w wr) (fun _ i _ => (hi - intOf i).toNat)
    case atStart => exact ⟨0, Nat.zero_le _, int_eq (by simp), int_eq (by simp only [sumN]; omega), S1⟩
    case round =>
      clear S1
      obtain ⟨k, hk, rfl, rfl, hb⟩ := hrel
      obtain ⟨nn, hnn⟩ : ∃ nn : Int, nn = min ((1 + sumN f k : Nat) : Int) (most + 1) := ⟨_, rfl⟩
      rw [← hnn]
      have hn1 : 1 ≤ nn ∧ nn ≤ most + 1 := by omega
      by_cases hlk : k < (hi - lo).toNat
      case neg =>
        have he : k = (hi - lo).toNat := by omega
        have HR := Lib.hid (show min ((1 + sumN f (hi - lo).toNat : Nat) : Int) (most + 1) = nn by rw [hnn, he])
        clear hnn
        go_wp2
        go_ret
        exact ⟨ret_int HR.out.symm, hb⟩
      by_cases hnm : nn ≤ most
      case neg =>
        have hle := sumN_le f (show k ≤ (hi - lo).toNat by omega)
        have HR := Lib.hid (show min ((1 + sumN f (hi - lo).toNat : Nat) : Int) (most + 1) = nn by omega)
        clear hnn hle
        go_wp2
        go_ret
        exact ⟨ret_int HR.out.symm, hb⟩
      have HN := Lib.hid (show nn = 1 + (sumN f k : Int) by omega); clear hnn
      have hkv : lo + (k : Int) < hi := by omega
      have HPB := Lib.hid (HOK.out.2.2.1.next HOK.out.2.1 (k := k) (by rw [HLO.out.2.2]; exact hlk))
      rw [← HLO.out.1] at HPB
      obtain ⟨v, hv⟩ : ∃ v, v = lo + (k : Int) := ⟨_, rfl⟩
      rw [← hv] at HPB hkv ⊢
      have hvb : -99000 ≤ v ∧ v ≤ 99000 := by omega
      have HV := Lib.hid hv; clear hv
      have HPr := Lib.hid (HP.out.below hb)
      have B0 : Below wr.heap.size wr (wr.alloc (.cells #[] 3)) := bel
      go_wp2_with (first
        | (at_builtin
           refine wpList_append_more (w0 := wr.alloc (.cells #[] 3)) (B := wr.heap.size) (xs := []) (ys := p.map D.int) rfl (.tmp 40) (.tmp 41) _ rfl _ Tryz.underlying44 Tryz.infoInt rfl (by decide) rfl (Grow.made wr _ 1 (Nat.le_refl _)) (Below.refl _ _) rfl (HPr.out.below B0) ?hys ?hn ?hf ?hlen ?hbase ?_
           case hys => intro y hy; obtain ⟨_, _, rfl⟩ := List.mem_map.1 hy; rfl
           case hn => rw [HPr.out.ints_tail]; simp
           case hf => rw [HPr.out.ints_tail]; simp
           case hlen => simp; omega
           case hbase => simp
           intro v1 w3 hG3 hg3
           rw [List.nil_append] at hG3
           have B3 : Below wr.heap.size wr w3 := B0.trans (hg3.belowG (by simp) (Grow.made wr 3 1 (Nat.le_refl _)))
           have HG3 := Lib.hid hG3
           have O3 := Lib.hid (one_int w3 (show I64 v by unfold I64; omega) 3)
           clear hG3 hg3 B0)
        | (at_builtin
           refine wpList_append_more (w0 := w3) (B := wr.heap.size) (xs := p.map D.int) (ys := [D.int v]) rfl (.tmp 42) (.tmp 44) _ rfl _ Tryz.underlying44 Tryz.infoInt rfl (by decide) rfl HG3.out ?hb0 rfl O3.out ?hys ?hn ?hf ?hlen ?hbase ?_
           case hb0 => exact (Below.refl _ _).alloc (Nat.le_refl _) _
           case hys => intro y hy; simp only [List.mem_singleton] at hy; rw [hy]; rfl
           case hn => simp
           case hf => simp
           case hlen => simp; omega
           case hbase => exact B3.size
           intro v2 w4 hG4 hg4))
      rw [show p.map D.int ++ [D.int v] = (p ++ [v]).map D.int by simp] at hG4
      have B4 : Below wr.heap.size wr w4 := (B3.alloc B3.size _).trans (hg4.below (Nat.le_trans B3.size (by simp)) (fun b hb => (HG3.out.own_ge b hb).1))
      obtain ⟨A4, c4, bs4, rfl, r4, _, _, _⟩ := hG4.ints
      have R4 := Lib.hid r4; clear r4 hG4 hg4
      have S4 := below_tr hb B4
      go_wp2_with fail
      refine (IH.out xs _ (p ++ [v]) _ _ _ _ _ _ _ _ _ (most - nn) (show xs = (pre ++ [l]) ++ ls by rw [HX.out.1]; simp) (by simp [HX.out.2.1]) hl4 HOK.out.1 HPB.out (by omega) (by omega) (H.out.below S4) R4.out).mono ?_
      rintro e w5 ⟨rfl, b5⟩
      obtain ⟨r, hr⟩ : ∃ r : Int, r = min (cntF ls (p ++ [v]) : Int) (most - nn + 1) := ⟨_, rfl⟩
      rw [← hr]
      have hr1 : 0 ≤ r ∧ r ≤ most - nn + 1 := by omega
      have HRR := Lib.hid hr; clear hr
      have S5 := below_tr S4 b5
      go_wp2
      go_roundw
      case rel =>
        refine ⟨k + 1, by omega, int_eq (by rw [HV.out]; omega), int_eq ?_, S5⟩
        have h1 := HRR.out
        have h2 := HN.out
        have h3 : f k = cntF ls (p ++ [v]) := by rw [HF.out, HV.out]
        simp only [sumN]
        rw [h3]
        omega
      case measure => simp [intOf]; omega

theorem take_pre {α : Type} {a b : List α} {n : Nat} (h : n ≤ a.length) : (a ++ b).take n = a.take n := by rw [List.take_append_of_le_length h]
theorem catN_pre {α : Type} (f : Nat → List α) {j m : Nat} (h : j ≤ m) : ∃ r, catN f m = catN f j ++ r := by
  induction m with
  | zero => rw [Nat.le_zero.1 h]; exact ⟨[], by simp⟩
  | succ m ih =>
    rcases Nat.lt_or_ge m j with hj | hj
    · rw [show j = m + 1 by omega]; exact ⟨[], by simp⟩
    · obtain ⟨r, hr⟩ := ih hj
      exact ⟨r ++ f m, by rw [catN, hr, List.append_assoc]⟩
/-- a list of lists as data -/
def lls (xs : List (List Int)) : List D := xs.map ints
def PtsEx (ls : List Lp) : Prop := ∀ (xs pre : List Lp) (p : List Int) (w : World) (A B : Option Addr) (n c m d : Nat) (bs bs' : List Nat) (Bg : Nat) (v : Value) (o : List (List Int)), xs = pre ++ ls → p.length = pre.length → xs.length ≤ 4 → (∀ l ∈ xs, LpOk l) → PtB p → o.length ≤ 120 →
    Rep w (sls Lp.d xs) [.slice A n c] bs → Rep w (ints p) [.slice B m d] bs' → Grow w Bg 44 1 v (lls o) → Bg ≤ w.heap.size → (∀ y ∈ bs, v.ownBlock ≠ some y) → (∀ y ∈ bs', v.ownBlock ≠ some y) →
    Calls Tryz.prog 169 #[v, .slice A n c, .slice B m d] w fun e w' => ∃ v', e = .returned v' ∧ Grow w' Bg 44 1 v' (lls ((o ++ ptsF ls p).take 121)) ∧ Grew w w' v v'
set_option maxRecDepth 100000 in
set_option maxHeartbeats 4000000 in
theorem l2Points_c : (ls : List Lp) → PtsEx ls
  | [] => by
    intro xs pre p w A B n c m d bs bs' Bg v o hx hp hl4 hok hpb ho h h' hG hBg hv1 hv2
    obtain ⟨rfl, _, _⟩ := h.sls_len
    obtain ⟨rfl, _, _⟩ := h'.ints_len
    have hq : ((p.length : Int) == (xs.length : Int)) = true := ieq_t (by rw [hx, List.append_nil]; omega)
    have HR := Lib.hid (show (o ++ ptsF [] p).take 121 = o ++ [p] by rw [ptsF, List.take_of_length_le (by simp; omega)])
    have HP := Lib.hid h'; clear h'
    have HG := Lib.hid hG; clear hG
    have hpl : p.length ≤ 4 := by rw [hp]; rw [hx, List.append_nil] at hl4; exact hl4
    clear hx hp h hv1 hv2
    obtain ⟨Av, cv, hfv, _, _⟩ := HG.out.form
    have HFV := Lib.hid hfv; clear hfv
    have B0 : Below w.heap.size w (w.alloc (.cells #[] 3)) := bel
    go_enter Tryz.func169, Tryz.ntmps169
    go_wp2_with (first
      | (at_builtin
         refine wpList_append_more (w0 := w.alloc (.cells #[] 3)) (B := w.heap.size) (xs := []) (ys := p.map D.int) rfl (.tmp 16) (.tmp 17) _ rfl _ Tryz.underlying44 Tryz.infoInt rfl (by decide) rfl (Grow.made w _ 1 (Nat.le_refl _)) (Below.refl _ _) rfl (HP.out.below B0) ?hys ?hn ?hf ?hlen ?hbase ?_
         case hys => intro y hy; obtain ⟨_, _, rfl⟩ := List.mem_map.1 hy; rfl
         case hn => rw [HP.out.ints_tail]; simp
         case hf => rw [HP.out.ints_tail]; simp
         case hlen => simp; omega
         case hbase => simp
         intro v1 w3 hG3 hg3
         rw [List.nil_append] at hG3
         have B3 : Below w.heap.size w w3 := B0.trans (hg3.belowG (by simp) (Grow.made w 3 1 (Nat.le_refl _)))
         obtain ⟨A3, c3, bs3, rfl, r3, nd3, hb3, _⟩ := hG3.ints
         have O3 := Lib.hid (one_new w3 r3 44)
         have N3 := Lib.hid (And.intro nd3 hb3)
         clear hG3 hg3 B0 r3 nd3 hb3)
      | (at_builtin
         refine wpList_append_more (w0 := w) (B := Bg) (xs := lls o) (ys := [ints p]) rfl (.tmp 15) (.tmp 19) _ rfl _ Tryz.underlying157 Tryz.infoInts rfl (by decide) rfl HG.out ?hb0 rfl O3.out ?hys ?hn ?hf ?hlen ?hbase ?_
         case hb0 => exact bel
         case hys => intro y hy; simp only [List.mem_singleton] at hy; rw [hy]; rfl
         case hn => exact N3.out.1
         case hf => exact N3.out.2
         case hlen => simp [lls]; omega
         case hbase => exact hBg
         intro v2 w4 hG4 hg4))
    go_ret
    rw [HR.out]
    refine ⟨_, rfl, ?_, ?_⟩
    · rw [show lls (o ++ [p]) = lls o ++ [ints p] by simp [lls]]; exact hG4
    · exact (Grew.of_below (show Below w.heap.size w (w3.alloc _) from bel) v).trans hg4
  | l :: ls => by
    intro xs pre p w A B n c m d bs bs' Bg v o hx hp hl4 hok hpb ho h h' hG hBg hv1 hv2
    have ih := l2Points_c ls
    obtain ⟨rfl, hn1, hn2⟩ := h.sls_len
    obtain ⟨rfl, hm1, hm2⟩ := h'.ints_len
    have hxl : xs.length = p.length + 1 + ls.length := by rw [hx, List.length_append, List.length_cons, hp]; omega
    have hlt : p.length < xs.length := by omega
    have hget : xs[p.length] = l := by
      simp only [hx, hp]; simp
    have hLO := hok l (by rw [hx]; simp)
    have hsm := hLO.small hpb (by omega)
    have hq : ((p.length : Int) == (xs.length : Int)) = false := ieq_f (by omega)
    have IH := Lib.hid ih; clear ih
    have hl3 : p.length ≤ 3 := by omega
    have HX := Lib.hid (And.intro hx (And.intro hp hxl)); clear hx hp hxl
    have HOK := Lib.hid (And.intro hok (And.intro hpb (And.intro hLO hget)))
    have HBD := Lib.hid (show LpBd xs[p.length] p by rw [hget]; exact hLO.bd hpb (by omega))
    have HRL := Lib.hid (show loF xs[p.length] p = loF l p by rw [hget])
    have HRH := Lib.hid (show hiF xs[p.length] p = hiF l p by rw [hget])
    have HA := Lib.hid (And.intro hv1 (And.intro (Rep.lt _ h) (And.intro hv2 (Rep.lt _ h')))); clear hv1 hv2
    have H := Lib.hid h; clear h
    have HP := Lib.hid h'; clear h'
    have HG := Lib.hid hG; clear hG
    obtain ⟨lo, hlo⟩ : ∃ lo, lo = loF l p := ⟨_, rfl⟩
    obtain ⟨hi, hhi⟩ : ∃ hi, hi = hiF l p := ⟨_, rfl⟩
    rw [← hlo, ← hhi] at hsm
    have hw : widN l p = (hi - lo).toNat := by rw [widN, hlo, hhi]
    have HC := Lib.hid (show ptsF (l :: ls) p = catN (fun k => ptsF ls (p ++ [lo + (k : Int)])) (hi - lo).toNat by rw [ptsF, hw, hlo])
    have HLO := Lib.hid (And.intro hlo (And.intro hhi hw))
    clear hlo hhi hw hok hpb hLO hget hn1 hn2 hm1 hm2
    obtain ⟨f, hf⟩ : ∃ f : Nat → List (List Int), f = fun k : Nat => ptsF ls (p ++ [lo + (k : Int)]) := ⟨_, rfl⟩
    rw [← hf] at HC
    have HF := Lib.hid hf; clear hf
    rw [HC.out]
    obtain ⟨be, oe, cse, le, rfl, hble, hre, _, _, hce⟩ := H.out.sls_at Lp.d_size (k := p.length) hlt
    have Ge := Lib.hid hre
    obtain ⟨A1e, c1e, A2e, c2e, d1e, d2e, rfl, rfl, g1e, g2e⟩ := Rep.lp_iff.1 hre
    have k0e := (hce 0 _ rfl).1; rw [Nat.add_zero] at k0e
    have k1e := (hce 1 _ rfl).1
    have Q1e := Lib.hid g1e
    have Q2e := Lib.hid g2e
    clear hce hre g1e g2e
    go_enter Tryz.func169, Tryz.ntmps169
    go_wp2_with fail
    refine (l2Range_c (Ge.out.below bel) (HP.out.below bel) HBD.out).mono ?_
    rintro e w1 ⟨rfl, b1⟩
    have S1 : Below w.heap.size w w1 := bel
    rw [HRL.out, HRH.out, ← HLO.out.1, ← HLO.out.2.1]
    have HG1 := Lib.hid (HG.out.below b1)
    clear b1 k0e k1e hq
    go_wp2
    go_loopw [0, 9] (fun u i wr => ∃ k : Nat, k ≤ (hi - lo).toNat ∧ i = .int .i64 (lo + (k : Int)) ∧ Grow wr Bg 44 1 u (lls ((o ++ catN f k).take 121)) ∧ Grew w wr v u) (fun _ i _ => (hi - intOf i).toNat)
    case atStart => exact ⟨0, Nat.zero_le _, int_eq (by simp), by rw [show (o ++ catN f 0).take 121 = o by rw [catN, List.append_nil, List.take_of_length_le (by omega)]]; exact HG1.out, Grew.of_below S1 v⟩
    case round =>
      clear S1
      obtain ⟨k, hk, rfl, hGr, hgr⟩ := hrel
      obtain ⟨R, hR⟩ : ∃ R, R = (o ++ catN f k).take 121 := ⟨_, rfl⟩
      rw [← hR] at hGr
      obtain ⟨Au, cu, hfu, hc1, hc2⟩ := hGr.form
      simp only [lls, List.length_map] at hfu hc1
      have hR121 : R.length ≤ 121 := by rw [hR, List.length_take]; omega
      have HGr := Lib.hid hGr; clear hGr
      have Hgr := Lib.hid hgr; clear hgr
      by_cases hlk : k < (hi - lo).toNat
      case neg =>
        have he : k = (hi - lo).toNat := by omega
        have HRR := Lib.hid (show (o ++ catN f (hi - lo).toNat).take 121 = R by rw [hR, he])
        clear hR
        subst hfu
        go_wp2
        go_ret
        rw [HRR.out]
        exact ⟨_, rfl, HGr.out, Hgr.out⟩
      by_cases hnm : R.length ≤ 120
      case neg =>
        have HRR := Lib.hid (show (o ++ catN f (hi - lo).toNat).take 121 = R by
          obtain ⟨r, hr⟩ := catN_pre f (show k ≤ (hi - lo).toNat by omega)
          have h121 : 121 ≤ (o ++ catN f k).length := by rw [hR, List.length_take] at hnm; omega
          rw [hr, ← List.append_assoc, take_pre h121, hR])
        clear hR
        subst hfu
        go_wp2
        go_ret
        rw [HRR.out]
        exact ⟨_, rfl, HGr.out, Hgr.out⟩
      have HRR := Lib.hid (show R = o ++ catN f k by
        rw [hR, List.length_take] at hnm
        rw [hR, List.take_of_length_le (by omega)]); clear hR
      have hkv : lo + (k : Int) < hi := by omega
      have HPB := Lib.hid (HOK.out.2.2.1.next HOK.out.2.1 (k := k) (by rw [HLO.out.2.2]; exact hlk))
      rw [← HLO.out.1] at HPB
      obtain ⟨x, hv⟩ : ∃ x, x = lo + (k : Int) := ⟨_, rfl⟩
      rw [← hv] at HPB hkv ⊢
      have hvb : -99000 ≤ x ∧ x ≤ 99000 := by omega
      have HV := Lib.hid hv; clear hv
      have HPr := Lib.hid (HP.out.grew Hgr.out HA.out.2.2.1)
      have HNr := Lib.hid (H.out.grew Hgr.out HA.out.1)
      have hzr := Hgr.out.touch.size
      have B0 : Below wr.heap.size wr (wr.alloc (.cells #[] 3)) := bel
      have HFU := Lib.hid hfu
      subst hfu
      go_wp2_with (first
        | (at_builtin
           refine wpList_append_more (w0 := wr.alloc (.cells #[] 3)) (B := wr.heap.size) (xs := []) (ys := p.map D.int) rfl (.tmp 44) (.tmp 45) _ rfl _ Tryz.underlying44 Tryz.infoInt rfl (by decide) rfl (Grow.made wr _ 1 (Nat.le_refl _)) (Below.refl _ _) rfl (HPr.out.below B0) ?hys ?hn ?hf ?hlen ?hbase ?_
           case hys => intro y hy; obtain ⟨_, _, rfl⟩ := List.mem_map.1 hy; rfl
           case hn => rw [HPr.out.ints_tail]; simp
           case hf => rw [HPr.out.ints_tail]; simp
           case hlen => simp; omega
           case hbase => simp
           intro v1 w3 hG3 hg3
           rw [List.nil_append] at hG3
           have B3 : Below wr.heap.size wr w3 := B0.trans (hg3.belowG (by simp) (Grow.made wr 3 1 (Nat.le_refl _)))
           have HG3 := Lib.hid hG3
           have O3 := Lib.hid (one_int w3 (show I64 x by unfold I64; omega) 3)
           clear hG3 hg3 B0)
        | (at_builtin
           refine wpList_append_more (w0 := w3) (B := wr.heap.size) (xs := p.map D.int) (ys := [D.int x]) rfl (.tmp 46) (.tmp 48) _ rfl _ Tryz.underlying44 Tryz.infoInt rfl (by decide) rfl HG3.out ?hb0 rfl O3.out ?hys ?hn ?hf ?hlen ?hbase ?_
           case hb0 => exact (Below.refl _ _).alloc (Nat.le_refl _) _
           case hys => intro y hy; simp only [List.mem_singleton] at hy; rw [hy]; rfl
           case hn => simp
           case hf => simp
           case hlen => simp; omega
           case hbase => exact B3.size
           intro v2 w4 hG4 hg4))
      rw [show p.map D.int ++ [D.int x] = (p ++ [x]).map D.int by simp] at hG4
      have B4 : Below wr.heap.size wr w4 := (B3.alloc B3.size _).trans (hg4.below (Nat.le_trans B3.size (by simp)) (fun b hb => (HG3.out.own_ge b hb).1))
      obtain ⟨A4, c4, bs4, rfl, r4, _, hb4, _⟩ := hG4.ints
      have R4 := Lib.hid r4; clear r4 hG4 hg4
      have hown : ∀ y ∈ bs4, (Value.slice Au R.length cu).ownBlock ≠ some y := fun y hy e => by
        have := (HGr.out.own_ge y e).2
        have := hb4 y hy
        omega
      go_wp2_with fail
      refine (IH.out xs _ (p ++ [x]) _ _ _ _ _ _ _ _ _ Bg _ R (show xs = (pre ++ [l]) ++ ls by rw [HX.out.1]; simp) (by simp [HX.out.2.1]) hl4 HOK.out.1 HPB.out hnm (HNr.out.below B4) R4.out (HGr.out.below B4) (Nat.le_trans hBg (Nat.le_trans hzr B4.size)) (Hgr.out.apart HA.out.1 HA.out.2.1) hown).mono ?_
      rintro e w5 ⟨v5, rfl, hG5, hg5⟩
      have G5 := Lib.hid hG5; clear hG5
      have g5 := Lib.hid ((Hgr.out.trans (Grew.of_below B4 _)).trans hg5); clear hg5
      go_wp2
      go_roundw
      case rel =>
        refine ⟨k + 1, by omega, int_eq (by rw [HV.out]; omega), ?_, g5.out⟩
        have h3 : f k = ptsF ls (p ++ [x]) := by rw [HF.out, HV.out]
        have := G5.out
        rw [HRR.out, ← h3, List.append_assoc] at this
        exact this
      case measure => simp [intOf]; omega
end Go.Proofs.YtbhniobgaoncaaaGreatDoor
