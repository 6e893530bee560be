/- The Go type Access: how it reads; the law package's functions on it and on slices of it. Printed by tygen.py. -/
import Derived.Test.YtgogjbnneoadkaaGreatZfSqAffine
import Derived.Test.YtgogjbnneoadkaaGreatZfBasic
import Derived.Test.YtgogjbnneoadkaaGreatZfTyLoop
import Derived.Test.YtgogjbnneoadkaaGreatZfCore
set_option linter.all false
set_option maxHeartbeats 4000000
set_option maxRecDepth 100000
namespace Go.Proofs.YtgogjbnneoadkaaGreat
open Go.ChangeShapes Go.WideShapes Go.ChangeAt Go.RowKit Go.Deep
section
variable {w : World} {x : Aff} {cs : List Value} {bs : List Nat}
theorem uN (h : Rep w x.d cs bs) : Calls Tryz.prog 205 #[.agg cs.toArray] w fun e w' => e = .returned (.bool (xG x)) /\ Below w.heap.size w w' := by
 obtain ⟨A, n, c, rfl, _⟩ := Rep.aff_iff.1 h;exact qXN h
theorem xC (h : Rep w x.d cs bs) : Calls Tryz.prog 214 #[.agg cs.toArray] w fun e w' => e = .returned (.bool (xG x)) /\ Below w.heap.size w w' := by
 obtain ⟨A, n, c, rfl, _⟩ := Rep.aff_iff.1 h;exact qXO h
theorem qVO (h : Rep w x.d cs bs) : Calls Tryz.prog 116 #[.agg cs.toArray] w fun e w' => e = .returned (.int .i64 (depF x.coefs)) /\ Below w.heap.size w w' := by
 obtain ⟨A, n, c, rfl, _⟩ := Rep.aff_iff.1 h;exact qLX h
theorem qFW (h : Rep w x.d cs bs) : Calls Tryz.prog 124 #[.agg cs.toArray] w fun e w' => e = .returned (.int .i64 (depF x.coefs)) /\ Below w.heap.size w w' := by
 obtain ⟨A, n, c, rfl, _⟩ := Rep.aff_iff.1 h;exact qCZ h
theorem qZO {xs : List Int} {B : Option Addr} {m d : Nat} {bs' : List Nat} (h : Rep w x.d cs bs) (hp : Rep w (ints xs) [.slice B m d] bs') (he : EvBd x xs) :
  Calls Tryz.prog 176 #[.agg cs.toArray, .slice B m d] w fun e w' => e = .returned (.int .i64 (evF x xs)) /\ Below w.heap.size w w' := by
 obtain ⟨A, n, c, rfl, _⟩ := Rep.aff_iff.1 h;exact qRX h hp he
theorem qGI {xs : List Int} {B : Option Addr} {m d : Nat} {bs' : List Nat} (h : Rep w x.d cs bs) (hp : Rep w (ints xs) [.slice B m d] bs') (he : EvBd x xs) :
  Calls Tryz.prog 189 #[.agg cs.toArray, .slice B m d] w fun e w' => e = .returned (.int .i64 (evF x xs)) /\ Below w.heap.size w w' := by
 obtain ⟨A, n, c, rfl, _⟩ := Rep.aff_iff.1 h;exact qCR h hp he
end
def xZ (d : Int) (a : Aff) : Bool := !xG a || decide (d < (depF a.coefs : Int))
def xJ (xs : List Aff) (d : Int) : Bool := decide (1 <= xs.length) && decide (xs.length <= 2) && !xs.any (xZ d)
def xT : List Lp -> Nat -> Bool
 | [], _ => true
 | x :: xs, i => xJ x.lo i && xJ x.hi i && xT xs (i + 1)
def qB (xs : List Lp) : Bool := decide (xs.length <= 4) && xT xs 0
theorem qZA (xs : List Lp) (j : Nat) (h : j < xs.length) : xT (xs.drop j) j = (xJ xs[j].lo j && xJ xs[j].hi j && xT (xs.drop (j + 1)) (j + 1)) := by
 rw [<- List.getElem_cons_drop h, xT]
theorem qVY {α : Type} (p : α -> Bool) (xs : List α) (j : Nat) (h : j < xs.length) : (xs.drop j).any p = (p xs[j] || (xs.drop (j + 1)).any p) := by
 rw [<- List.getElem_cons_drop h, List.any_cons]
theorem qXH {d : Int} {a : Aff} (h : xG a = false) : xZ d a = true := by simp [xZ, h]
theorem qWT {d : Int} {a : Aff} (h : xG a = true) (hd : d < (depF a.coefs : Int)) : xZ d a = true := by simp [xZ, h, hd]
theorem qUK {d : Int} {a : Aff} (h : xG a = true) (hd : ¬ d < (depF a.coefs : Int)) : xZ d a = false := by simp [xZ, h, hd]
section
variable {w : World} {A : Option Addr} {n c : Nat} {bs : List Nat}
theorem qKT {xs : List Aff} {dp : Int} (h : Rep w (sls Aff.d xs) [.slice A n c] bs) :
  Calls Tryz.prog 204 #[.slice A n c, .int .i64 dp] w fun e w' => e = .returned (.bool (xJ xs dp)) /\ Below w.heap.size w w' := by
 obtain ⟨rfl, h1, h2⟩ := h.sls_len;have hn : xs.length <= 9223372036854775807 := qX h1 h2;clear h1 h2;have H := qQ h; clear h;go_enter Tryz.func204, Tryz.ntmps204;go_wp2;go_loopw [5] (fun i wr => ∃ j : Nat, j <= xs.length /\ i = .int .i64 j /\ xs.any (xZ dp) = (xs.drop j).any (xZ dp) /\ Below w.heap.size w wr) (fun i _ => xs.length - (intOf i).toNat)
 case atStart => exact ⟨0, Nat.zero_le _, rfl, by simp, Below.refl _ _⟩
 case round =>
  obtain ⟨j, hj, rfl, hi, hb⟩ := hrel;have HI := qQ hi; clear hi;by_cases hlt : j < xs.length
  ·have HD := qQ (qVY (xZ dp) xs j hlt)
   obtain ⟨b, o, cs, l, rfl, hbl, hr, _, _, hc⟩ := (H.out.below hb).sls_at Aff.d_size (k := j) hlt;have G := qQ hr;obtain ⟨A1, c1, d1, rfl, rfl, g1, g2⟩ := Rep.aff_iff2.1 hr;have k0 := (hc 0 _ rfl).1; rw [Nat.add_zero] at k0;have k1 := (hc 1 _ rfl).1;have Q1 := qQ g1;have Q2 := qQ g2;clear hc hr g1 g2
   cases hv : xG xs[j] with
   | false =>
    have HX := qQ (show xJ xs dp = false by simp only [xJ, HI.out, HD.out, qXH hv, Bool.true_or, Bool.not_true, Bool.and_false]);have HV := qQ hv; clear hv;go_wp2_with fail;refine (uN G.out).mono ?_;rintro e w1 ⟨rfl, b1⟩;rw [HV.out];go_wp2;go_ret;exact ⟨qH HX.out.symm, qY hb b1⟩
   | true =>
    have HV := qQ hv; clear hv;go_wp2_with fail;refine (uN G.out).mono ?_;rintro e w1 ⟨rfl, b1⟩;rw [HV.out];have k0_1 := (b1.cell (p := ⟨b, o + j * 2, none⟩) hbl).trans k0;have k1_1 := (b1.cell (p := ⟨b, o + j * 2 + 1, none⟩) hbl).trans k1;have S1 := qY hb b1;have G1 := qQ (G.out.below b1);clear k0 k1 G b1;go_wp2_with fail;refine (qVO G1.out).mono ?_;rintro e w2 ⟨rfl, b2⟩;have S2 := qY S1 b2;by_cases hgt : dp < (depF xs[j].coefs : Int)
    ·have HX := qQ (show xJ xs dp = false by simp only [xJ, HI.out, HD.out, qWT HV.out hgt, Bool.true_or, Bool.not_true, Bool.and_false])
     go_wp2;go_ret;exact ⟨qH HX.out.symm, S2⟩
    ·have HX := qQ (show (xs.drop j).any (xZ dp) = (xs.drop (j + 1)).any (xZ dp) by rw [HD.out, qUK HV.out hgt, Bool.false_or])
     go_wp2;go_roundw
     case rel => exact ⟨j + 1, by omega, by go_num, by rw [HI.out, HX.out], S2⟩
     case measure => simp [intOf]; omega
  ·have hjj : j = xs.length := by omega
   subst hjj;have HA := qQ (show xs.any (xZ dp) = false by rw [HI.out, List.drop_length]; rfl);by_cases l1 : 1 <= xs.length
   ·by_cases l2 : xs.length <= 2
    ·have HX := qQ (show xJ xs dp = true by simp [xJ, HA.out, l1, l2])
     go_wp2;go_ret;exact ⟨qH (by rw [HX.out] <;> first | rfl | (simp; done) | (simp; omega)), hb⟩
    ·have HX := qQ (show xJ xs dp = false by simp [xJ, l2])
     go_wp2;go_ret;exact ⟨qH (by rw [HX.out] <;> first | rfl | (simp; done) | (simp; omega)), hb⟩
   ·have HX := qQ (show xJ xs dp = false by simp only [xJ, l1, decide_false, Bool.false_and])
    go_wp2;go_ret;exact ⟨qH (by rw [HX.out] <;> first | rfl | (simp; done) | (simp; omega)), hb⟩
theorem vG {xs : List Lp} (h : Rep w (sls Lp.d xs) [.slice A n c] bs) :
  Calls Tryz.prog 168 #[.slice A n c] w fun e w' => e = .returned (.bool (qB xs)) /\ Below w.heap.size w w' := by
 obtain ⟨rfl, h1, h2⟩ := h.sls_len;have hn : xs.length <= 9223372036854775807 := qX h1 h2;clear h1 h2;have H := qQ h; clear h;by_cases l4 : xs.length <= 4
 case neg =>
  have HX := qQ (show qB xs = false by simp [qB, l4]);go_enter Tryz.func168, Tryz.ntmps168;go_wp2;go_loop [3] (fun i => i = .int .i64 0) (fun i => 0)
  case atStart => rfl
  case round =>
   subst hrel;go_wp2;go_ret;exact ⟨qH (by rw [HX.out] <;> first | rfl | (simp; done) | (simp; omega)), Below.refl _ _⟩
 case pos =>
  go_enter Tryz.func168, Tryz.ntmps168;go_wp2;go_loopw [3] (fun i wr => ∃ j : Nat, j <= xs.length /\ i = .int .i64 j /\ xT xs 0 = xT (xs.drop j) j /\ Below w.heap.size w wr) (fun i _ => xs.length - (intOf i).toNat)
  case atStart => exact ⟨0, Nat.zero_le _, rfl, by simp, Below.refl _ _⟩
  case round =>
   obtain ⟨j, hj, rfl, hi, hb⟩ := hrel;have HI := qQ hi; clear hi;by_cases hlt : j < xs.length
   ·have HD := qQ (qZA xs j hlt)
    obtain ⟨b, o, cs, l, rfl, hbl, hr, _, _, hc⟩ := (H.out.below hb).sls_at Lp.d_size (k := j) hlt;have G := qQ hr;obtain ⟨A1, c1, A2, c2, d1, d2, rfl, rfl, g1, g2⟩ := Rep.lp_iff.1 hr;have k0 := (hc 0 _ rfl).1; rw [Nat.add_zero] at k0;have k1 := (hc 1 _ rfl).1;have Q1 := qQ g1;have Q2 := qQ g2;clear hc hr g1 g2
    cases hv : xJ xs[j].lo j with
    | false =>
     have HX := qQ (show qB xs = false by simp only [qB, HI.out, HD.out, hv, Bool.false_and, Bool.and_false]);have HV := qQ hv; clear hv;go_wp2_with fail;refine (qKT Q1.out).mono ?_;rintro e w1 ⟨rfl, b1⟩;rw [HV.out];go_wp2;go_ret;exact ⟨qH HX.out.symm, qY hb b1⟩
    | true =>
     have HV := qQ hv; clear hv;go_wp2_with fail;refine (qKT Q1.out).mono ?_;rintro e w1 ⟨rfl, b1⟩;rw [HV.out];have k1_1 := (b1.cell (p := ⟨b, o + j * 2 + 1, none⟩) hbl).trans k1;have S1 := qY hb b1;have Q2_1 := qQ (Q2.out.below b1);clear k0 k1 Q2 b1;go_wp2_with fail;refine (qKT Q2_1.out).mono ?_;rintro e w2 ⟨rfl, b2⟩;have S2 := qY S1 b2
     cases hw : xJ xs[j].hi j with
     | false =>
      have HX := qQ (show qB xs = false by simp only [qB, HI.out, HD.out, hw, Bool.false_and, Bool.and_false]);clear hw;go_wp2;go_ret;exact ⟨qH HX.out.symm, S2⟩
     | true =>
      have HX := qQ (show xT (xs.drop j) j = xT (xs.drop (j + 1)) (j + 1) by rw [HD.out, HV.out, hw]; rfl);clear hw;go_wp2;go_roundw
      case rel => exact ⟨j + 1, by omega, by go_num, by rw [HI.out, HX.out], S2⟩
      case measure => simp [intOf]; omega
   ·have hjj : j = xs.length := by omega
    subst hjj;have HX := qQ (show qB xs = true by simp [qB, HI.out, l4, xT]);go_wp2;go_ret;exact ⟨qH (by rw [HX.out] <;> first | rfl | (simp; done) | (simp; omega)), hb⟩
theorem qFK {x : Aff} {cs : List Value} {dp : Int} {g : Nat} (h : Rep w x.d cs bs) (hg : w.cell? ⟨g, 0, none⟩ = some (.int .i64 dp)) :
  Calls Tryz.prog 231 (#[.agg cs.toArray] ++ #[.pointer (some ⟨g, 0, none⟩)]) w fun e w' => e = .returned (.bool (xZ dp x)) /\ Below w.heap.size w w' := by
 show Calls Tryz.prog 231 #[.agg cs.toArray, .pointer (some ⟨g, 0, none⟩)] w _;have G := qQ h;obtain ⟨A1, c1, d1, rfl, rfl, g1, g2⟩ := Rep.aff_iff2.1 h;clear h g1 g2;have hgl := qW hg;have hg2 : (w.alloc (.cells #[.slice A1 x.coefs.length c1, .int .i64 x.const] 61)).cell? ⟨g, 0, none⟩ = some (.int .i64 dp) := by rw [World.cell?_alloc_lt _ _ _ hgl]; exact hg
 have P0 := Box2.new w (.slice A1 x.coefs.length c1) (.int .i64 x.const) 61;have B0 : Below w.heap.size w (w.alloc (.cells #[.slice A1 x.coefs.length c1, .int .i64 x.const] 61)) := bel;obtain ⟨W, hW⟩ : ∃ W, W = w.alloc (.cells #[.slice A1 x.coefs.length c1, .int .i64 x.const] 61) := ⟨_, rfl⟩;rw [<- hW] at hg2 P0 B0;have HW := qQ hW; clear hW;have G0 := qQ (G.out.below B0)
 cases hv : xG x with
 | false =>
  have HX := qQ (show xZ dp x = false ∨ xZ dp x = true by cases xZ dp x <;> simp);have HY := qQ (qXH (d := dp) hv);have HV := qQ hv; clear hv;go_enter Tryz.func231, Tryz.ntmps231;go_wp2;rw [<- HW.out];refine wp_region_noPanic ?_;refine wp_region_held_drew (S := fun w' => Box2 w' w.heap.size (.slice A1 x.coefs.length c1) (.int .i64 x.const) /\ w'.cell? ⟨g, 0, none⟩ = some (.int .i64 dp)) (by kernel_rfl) (⟨P0, hg2⟩) (fun hHeld => ?_);refine goR 0 hHeld ?_;refine zF (i := 1) rfl (by kernel_rfl) (qK rfl) (fun K hK => ?_);go_simp
  (refine (xC (G0.out.drewN 1)).mono ?_; rintro e w1 ⟨he, b1⟩; rw [HV.out] at he; subst he; replace b1 := qL b1)
  go_wp2_with fail;refine hK.out _ _ (⟨P0.to b1, by rw [b1.cell (qW hg2)]; exact hg2⟩) (fun hHeld => ?_);clear hK K
  try simp only [Act.put, aq0, aq1, aq2]
  refine goR 2 hHeld ?_;refine goR 3 hHeld ?_;refine goS 4 hHeld ?_;refine goS 5 hHeld ?_;refine goS 6 hHeld ?_;refine goS 7 hHeld ?_;refine goR 8 hHeld ?_;refine goR 9 hHeld ?_;refine wpAnyH_done (by kernel_rfl) ?_ _;refine NoPanic.normal ?_;go_wp2;go_ret;exact ⟨qH HY.out.symm, qY B0 b1⟩
 | true =>
  have HV := qQ hv; clear hv;have HY := qQ (show xZ dp x = decide (dp < (depF x.coefs : Int)) by simp [xZ, HV.out]);go_enter Tryz.func231, Tryz.ntmps231;go_wp2;rw [<- HW.out];refine wp_region_noPanic ?_;refine wp_region_held_drew (S := fun w' => Box2 w' w.heap.size (.slice A1 x.coefs.length c1) (.int .i64 x.const) /\ w'.cell? ⟨g, 0, none⟩ = some (.int .i64 dp)) (by kernel_rfl) (⟨P0, hg2⟩) (fun hHeld => ?_);refine goR 0 hHeld ?_;refine zF (i := 1) rfl (by kernel_rfl) (qK rfl) (fun K hK => ?_);go_simp
  (refine (xC (G0.out.drewN 1)).mono ?_; rintro e w1 ⟨he, b1⟩; rw [HV.out] at he; subst he; replace b1 := qL b1)
  go_wp2_with fail;refine hK.out _ _ (⟨P0.to b1, by rw [b1.cell (qW hg2)]; exact hg2⟩) (fun hHeld => ?_);clear hK K
  try simp only [Act.put, aq0, aq1, aq2]
  refine goR 2 hHeld ?_;refine goR 3 hHeld ?_;refine goG 4 hHeld ?_;refine goG 6 hHeld ?_;refine zF (i := 5) rfl (by kernel_rfl) (by kernel_rfl) (fun K hK => ?_);go_simp
  (refine (qFW (G0.out.below b1)).mono ?_; rintro e w2 ⟨rfl, b2⟩)
  go_wp2_with fail;refine hK.out _ _ (⟨(P0.to b1).to b2, by rw [b2.cell (qZ (qW hg2) b1.size), b1.cell (qW hg2)]; exact hg2⟩) (fun hHeld => ?_);clear hK K
  try simp only [Act.put, aq0, aq1, aq2]
  refine goG 7 hHeld ?_;refine goR 8 hHeld ?_;refine goR 9 hHeld ?_;refine wpAnyH_done (by kernel_rfl) ?_ _;refine NoPanic.normal ?_;go_wp2;go_ret;exact ⟨qH HY.out.symm, qY (qY B0 b1) b2⟩
theorem qFY : xD Tryz.prog 231 := fun args W => by go_simp
theorem qJX {xs : List Aff} {dp : Int} (h : Rep w (sls Aff.d xs) [.slice A n c] bs) :
  Calls Tryz.prog 211 #[.slice A n c, .int .i64 dp] w fun e w' => e = .returned (.bool (xJ xs dp)) /\ Below w.heap.size w w' := by
 obtain ⟨rfl, h1, h2⟩ := h.sls_len;have hn : xs.length <= 9223372036854775807 := qX h1 h2;clear h1 h2;have H := qQ h; clear h
 cases hv : inB (xs.length : Int) 1 2 with
 | false =>
  have HX := qQ (show xJ xs dp = false by
   unfold xJ;by_cases l1 : 1 <= xs.length
   ·by_cases l2 : xs.length <= 2
    ·rw [uH (by omega) (by omega)] at hv; cases hv
    ·simp [l2]
   ·simp only [l1, decide_false, Bool.false_and])
  have HV := qQ hv; clear hv;go_enter Tryz.func211, Tryz.ntmps211;go_wp2_with fail;refine (xX _ _ _ _).mono ?_;rintro e w' ⟨rfl, rfl⟩;rw [HV.out];go_wp2;go_ret;exact ⟨qH HX.out.symm, bel⟩
 | true =>
  have HX := qQ (show xJ xs dp = !xs.any (xZ dp) by
   have := uZ.1 hv;unfold xJ;simp only [show (1 <= xs.length) = True from eq_true (by omega), show (xs.length <= 2) = True from eq_true (by omega), decide_true, Bool.true_and])
  have HV := qQ hv; clear hv;go_enter Tryz.func211, Tryz.ntmps211;go_wp2_with fail;refine (xX _ _ _ _).mono ?_;rintro e w' ⟨rfl, rfl⟩;rw [HV.out];go_wp2_with fail;refine (yX (p := xZ dp) (H.out.below bel) qFY fun x cs bs W _ hb r => qFK r (by rw [hb.cell (by simp)]; go_simp)).mono ?_;rintro e w1 ⟨rfl, b1⟩;go_wp2;go_ret;exact ⟨qH HX.out.symm, bel⟩
theorem wL {xs : List Lp} (h : Rep w (sls Lp.d xs) [.slice A n c] bs) :
  Calls Tryz.prog 180 #[.slice A n c] w fun e w' => e = .returned (.bool (qB xs)) /\ Below w.heap.size w w' := by
 obtain ⟨rfl, h1, h2⟩ := h.sls_len;have hn : xs.length <= 9223372036854775807 := qX h1 h2;clear h1 h2;have H := qQ h; clear h;go_enter Tryz.func180, Tryz.ntmps180;go_wp2;go_loopw [7] (fun i wr => ∃ j : Nat, j <= xs.length /\ i = .int .i64 j /\ xT xs 0 = xT (xs.drop j) j /\ Below w.heap.size w wr) (fun i _ => xs.length - (intOf i).toNat)
 case atStart => exact ⟨0, Nat.zero_le _, rfl, by simp, Below.refl _ _⟩
 case round =>
  obtain ⟨j, hj, rfl, hi, hb⟩ := hrel;have HI := qQ hi; clear hi;by_cases hlt : j < xs.length
  ·have HD := qQ (qZA xs j hlt)
   obtain ⟨b, o, cs, l, rfl, hbl, hr, _, _, hc⟩ := (H.out.below hb).sls_at Lp.d_size (k := j) hlt;have G := qQ hr;obtain ⟨A1, c1, A2, c2, d1, d2, rfl, rfl, g1, g2⟩ := Rep.lp_iff.1 hr;have k0 := (hc 0 _ rfl).1; rw [Nat.add_zero] at k0;have k1 := (hc 1 _ rfl).1;have Q1 := qQ g1;have Q2 := qQ g2;clear hc hr g1 g2
   cases hv : xJ xs[j].lo j with
   | false =>
    have HX := qQ (show qB xs = false by simp only [qB, HI.out, HD.out, hv, Bool.false_and, Bool.and_false]);have HV := qQ hv; clear hv;go_wp2_with fail;refine (qJX (Q1.out.below bel)).mono ?_;rintro e w1 ⟨rfl, b1⟩;rw [HV.out];have S1 : Below w.heap.size w w1 := qY hb bel;go_wp2;go_ret;exact ⟨qH HX.out.symm, S1⟩
   | true =>
    have HV := qQ hv; clear hv;go_wp2_with fail;refine (qJX (Q1.out.below bel)).mono ?_;rintro e w1 ⟨rfl, b1⟩;rw [HV.out];have P1 : Box2 w1 wr.heap.size (.slice A1 xs[j].lo.length c1) (.slice A2 xs[j].hi.length c2) := by
     refine ⟨?_, ?_⟩ <;> (rw [b1.cell (by simp; try omega)]; go_simp)
    have T1 : Below wr.heap.size wr w1 := bel;have S1 := qY hb T1;have Q2_1 := qQ (Q2.out.below T1);clear k0 k1 Q2 b1 T1;go_wp2_with fail;refine (qJX Q2_1.out).mono ?_;rintro e w2 ⟨rfl, b2⟩;have S2 := qY S1 b2
    cases hw : xJ xs[j].hi j with
    | false =>
     have HX := qQ (show qB xs = false by simp only [qB, HI.out, HD.out, hw, Bool.false_and, Bool.and_false]);clear hw;go_wp2;go_ret;exact ⟨qH HX.out.symm, S2⟩
    | true =>
     have HX := qQ (show xT (xs.drop j) j = xT (xs.drop (j + 1)) (j + 1) by rw [HD.out, HV.out, hw]; rfl);clear hw;go_wp2;go_roundw
     case rel => exact ⟨j + 1, by omega, by go_num, by rw [HI.out, HX.out], S2⟩
     case measure => simp [intOf]; omega
  ·have hjj : j = xs.length := by omega
   subst hjj;have HX := qQ (show qB xs = decide (xs.length <= 4) by simp [qB, HI.out, xT]);go_wp2;go_ret;exact ⟨qH (by rw [HX.out] <;> first | rfl | (rw [decide_eq_decide]; omega)), hb⟩
end
structure Acc where
 arr : ByteArray
 subs : List Aff
def Acc.d (x : Acc) : D := .st [.str x.arr, sls Aff.d x.subs]
theorem Acc.d_size (x : Acc) : x.d.size = 2 := rfl
theorem Rep.acc_iff {w : World} {x : Acc} {cs : List Value} {bs : List Nat} : Rep w x.d cs bs ↔ ∃ (A2 : Option Addr) (c2 : Nat) (d2 : List Nat), cs = [.string x.arr, .slice A2 x.subs.length c2] /\ bs = d2 /\ x.arr.size <= maxLen /\ Rep w (sls Aff.d x.subs) [.slice A2 x.subs.length c2] d2 := by
 constructor
 ·intro h
  replace h : Reps w [.str x.arr, sls Aff.d x.subs] cs bs := h;obtain ⟨_, _, _, _, rfl, rfl, g1, h⟩ := h;obtain ⟨_, _, _, _, rfl, rfl, g2, h⟩ := h;obtain ⟨rfl, rfl⟩ := h;obtain ⟨rfl, rfl, g1⟩ := g1;obtain ⟨B2, e2, rfl, _⟩ := g2.sls_form;exact ⟨_, _, _, rfl, by simp, g1, g2⟩
 ·rintro ⟨A2, c2, d2, rfl, rfl, g1, g2⟩
  have h : Reps w [.str x.arr, sls Aff.d x.subs] _ _ := ⟨_, _, _, _, rfl, rfl, ⟨rfl, rfl, g1⟩, ⟨_, _, _, _, rfl, rfl, g2, ⟨rfl, rfl⟩⟩⟩;simpa using (show Rep w x.d _ _ from h)
theorem qYM {w : World} {x : Acc} {cs cs' : List Value} {bs bs' : List Nat} (h : Rep w x.d cs bs) (h' : Rep w x.d cs' bs') :
  Calls Tryz.prog 202 #[.agg cs.toArray, .agg cs'.toArray] w fun e w' => e = .returned (.bool true) /\ Below w.heap.size w w' := by
 have H := qQ h;have H' := qQ h';obtain ⟨A2, c2, d2, rfl, rfl, g1, g2⟩ := Rep.acc_iff.1 h;obtain ⟨A2', c2', d2', rfl, rfl, g1', g2'⟩ := Rep.acc_iff.1 h';have q1 := qQ g1;have G2 := qQ g2;have G2' := qQ g2';clear h h' H H' g1 g1' g2 g2';go_enter Tryz.func202, Tryz.ntmps202;go_wp2_with fail;refine (qZG (G2.out.below bel) (G2'.out.below bel)).mono ?_;rintro e w1 ⟨rfl, b1⟩;have P1 : Box2 w1 w.heap.size (.string x.arr) (.slice A2 x.subs.length c2) := by
  refine ⟨?_, ?_⟩ <;> (rw [b1.cell (by simp; try omega)]; go_simp)
 have Q1 : Box2 w1 (w.heap.size + 1) (.string x.arr) (.slice A2' x.subs.length c2') := by
  refine ⟨?_, ?_⟩ <;> (rw [b1.cell (by simp; try omega)]; go_simp)
 have S1 : Below w.heap.size w w1 := bel;clear b1;go_wp2;go_ret;exact ⟨rfl, bel⟩
theorem qXL (x : Acc) : szD x.d = x.arr.size + szD (sls Aff.d x.subs) := by
 have h : szD x.d = szDs [.str x.arr, sls Aff.d x.subs] := by simp only [Acc.d, szD]
 rw [h]; simp only [szDs, szD, yI]; omega
theorem yD {w : World} {x : Acc} {cs : List Value} {bs : List Nat} {left : Int} (h : Rep w x.d cs bs) (h0 : 0 <= left) (h1 : left <= 1048576) :
  Calls Tryz.prog 193 #[.agg cs.toArray, .int .i64 left] w fun e w' => e = .returned (.int .i64 (szR left (szD x.d))) /\ Below w.heap.size w w' := by
 obtain ⟨A2, c2, d2, rfl, rfl, g1, g2⟩ := Rep.acc_iff.1 h;rw [qXL x];have hl1 : x.arr.size <= 9223372036854775807 := qX g1 (by unfold maxLen; omega);have G2 := qQ g2;clear h g1 g2;by_cases hs0 : (left : Int) - ((x.arr.size : Nat) : Int) < 0
 ·have HR := qQ (show szR left (x.arr.size + szD (sls Aff.d x.subs)) = -1 from qA (by omega))
  have HS0 := qQ (qA hs0);go_enter Tryz.func193, Tryz.ntmps193;go_wp2;go_ret;exact ⟨qF HR.out.symm, bel⟩
 ·have HS0 := qQ (zY (left := left) (tot := x.arr.size) (by omega))
  have hp0 : 0 <= left - ((x.arr.size : Nat) : Int) := by omega
  clear hs0;by_cases hs1 : (left - ((x.arr.size : Nat) : Int) : Int) - ((szD (sls Aff.d x.subs) : Nat) : Int) < 0
  ·have HR := qQ (show szR left (x.arr.size + szD (sls Aff.d x.subs)) = -1 from qA (by omega))
   have HS1 := qQ (qA hs1);go_enter Tryz.func193, Tryz.ntmps193;go_wp2_with fail;refine (vJ (G2.out.below bel) (by omega) (by omega)).mono ?_;rintro e w1 ⟨rfl, b1⟩;rw [HS1.out];have P1 : Box2 w1 w.heap.size (.string x.arr) (.slice A2 x.subs.length c2) := by
    refine ⟨?_, ?_⟩ <;> (rw [b1.cell (by simp; try omega)]; go_simp)
   have S1 : Below w.heap.size w w1 := bel;clear b1;go_wp2;go_ret;exact ⟨qF HR.out.symm, bel⟩
  ·have HS1 := qQ (zY (left := left - ((x.arr.size : Nat) : Int)) (tot := szD (sls Aff.d x.subs)) (by omega))
   have hp1 : 0 <= left - ((x.arr.size : Nat) : Int) - ((szD (sls Aff.d x.subs) : Nat) : Int) := by omega
   clear hs1;have HR := qQ (show szR left (x.arr.size + szD (sls Aff.d x.subs)) = left - ((x.arr.size : Nat) : Int) - ((szD (sls Aff.d x.subs) : Nat) : Int) by rw [zY (by omega)] <;> omega);go_enter Tryz.func193, Tryz.ntmps193;go_wp2_with fail;refine (vJ (G2.out.below bel) (by omega) (by omega)).mono ?_;rintro e w1 ⟨rfl, b1⟩;rw [HS1.out];have P1 : Box2 w1 w.heap.size (.string x.arr) (.slice A2 x.subs.length c2) := by
    refine ⟨?_, ?_⟩ <;> (rw [b1.cell (by simp; try omega)]; go_simp)
   have S1 : Below w.heap.size w w1 := bel;clear b1;go_wp2;go_ret;exact ⟨qF HR.out.symm, bel⟩
theorem qYW {w : World} {x : Acc} {cs : List Value} {bs : List Nat} (h : Rep w x.d cs bs) (hz : szD x.d <= 10000000) :
  Calls Tryz.prog 199 #[.agg cs.toArray] w (vO w x.d) := by
 rw [qXL] at hz;obtain ⟨A2, c2, d2, rfl, rfl, g1, g2⟩ := Rep.acc_iff.1 h;have G2 := qQ g2;have Z2 := qQ (show szD (sls Aff.d x.subs) <= 10000000 by omega);have I1 := qQ g1;clear h hz g1 g2;go_enter Tryz.func199, Tryz.ntmps199;go_wp2_with fail;refine (qZX (G2.out.below bel) Z2.out).mono ?_;rintro e w1 ⟨Ar1, nr1, cr1, bs1, rfl, r1, nd1, hy1, b1⟩;obtain ⟨hn1, _, _⟩ := r1.sls_len;subst hn1;have hb1 : ∀ y ∈ bs1, w.heap.size + 3 <= y := fun y hy => by have := hy1 y hy; (try simp [World.setCell] at this); omega
 have PA1 : w1.cell? ⟨w.heap.size, 0, none⟩ = some (.string x.arr) /\ w1.cell? ⟨w.heap.size, 1, none⟩ = some (.slice A2 x.subs.length c2) := by
  refine ⟨?_, ?_⟩ <;> (rw [b1.cell (by simp [World.setCell]; try (omega))]; go_simp)
 have PR1 : w1.cell? ⟨w.heap.size + 1, 0, none⟩ = some (.string ⟨#[]⟩) /\ w1.cell? ⟨w.heap.size + 1, 1, none⟩ = some (.slice none 0 0) := by
  refine ⟨?_, ?_⟩ <;> (rw [b1.cell (by simp [World.setCell]; try (omega))]; go_simp)
 have PO1 : w1.cell? ⟨w.heap.size + 2, 0, none⟩ = some (.string x.arr) /\ w1.cell? ⟨w.heap.size + 2, 1, none⟩ = some (.slice none 0 0) := by
  refine ⟨?_, ?_⟩ <;> (rw [b1.cell (by simp [World.setCell]; try (omega))]; go_simp)
 have F1 : w1.frozen? ⟨w.heap.size + 1, 0, none⟩ = false /\ w1.frozen? ⟨w.heap.size + 1, 1, none⟩ = false /\ w1.frozen? ⟨w.heap.size + 2, 0, none⟩ = false /\ w1.frozen? ⟨w.heap.size + 2, 1, none⟩ = false := by
  refine ⟨?_, ?_, ?_, ?_⟩ <;> (rw [b1.frozen (by simp [World.setCell]; try (omega))]; go_simp)
 have S1 : Below w.heap.size w w1 := bel;have ZS1 := qQ (show w.heap.size + 3 <= w1.heap.size by have := b1.size; (try simp [World.setCell] at this); omega);have RR1_1 := qQ r1; have HB1 := qQ hb1; have ND1 := qQ nd1; have LT1 := qQ (Rep.lt _ r1);clear r1 hb1 nd1 hy1 b1;have RALL := qQ (show Rep w1 x.d [.string x.arr, .slice Ar1 x.subs.length cr1] (bs1) from (show ∀ W, Reps W [.str x.arr, sls Aff.d x.subs] ([.string x.arr] ++ ([.slice Ar1 x.subs.length cr1] ++ ([]))) ([] ++ (bs1 ++ ([]))) -> Rep W x.d [.string x.arr, .slice Ar1 x.subs.length cr1] (bs1) from fun W hq => by simpa [List.append_assoc] using (show Rep W x.d _ _ from hq)) _ ⟨_, _, _, _, rfl, rfl, ⟨rfl, rfl, I1.out⟩, ⟨_, _, _, _, rfl, rfl, RR1_1.out, ⟨rfl, rfl⟩⟩⟩);have NDALL := qQ (show (bs1 : List Nat).Nodup from ND1.out);have HBALL := qQ (show ∀ y ∈ (bs1 : List Nat), w.heap.size + 3 <= y from HB1.out);clear RR1_1 HB1 ND1 LT1;go_wp2;refine bodyPost_ret (v := .agg #[.string x.arr, .slice Ar1 x.subs.length cr1]) (by simp [results, Tryz.results199, go_sem, PR1, PO1]) rfl ⟨[.string x.arr, .slice Ar1 x.subs.length cr1], bs1, rfl, ?_, NDALL.out, fun y hy => by have := HBALL.out y hy; omega, ?_⟩
 ·exact Rep.keep _ RALL.out (by repeat (first | with_reducible exact qD.refl _ _ | refine qD.setCell ?_ (fun hm => by have := HBALL.out _ hm; dsimp only at this; omega) _))
 ·exact (by repeat (first | with_reducible exact S1 | refine Below.setCell ?_ (by simp; try omega) _))
def qMV (w : World) (x : Acc) (e : Ending) (w' : World) : Prop := ∃ (A2 : Option Addr) (c2 : Nat) (bs : List Nat), e = .returned (.agg #[.string x.arr, .slice A2 x.subs.length c2]) /\ Rep w' x.d [.string x.arr, .slice A2 x.subs.length c2] bs /\ bs.Nodup /\ (∀ b ∈ bs, w.heap.size <= b) /\ Below w.heap.size w w'
end Go.Proofs.YtgogjbnneoadkaaGreat
