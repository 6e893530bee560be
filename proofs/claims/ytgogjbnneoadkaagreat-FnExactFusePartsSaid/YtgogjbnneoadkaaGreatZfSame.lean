/- AffineSame and LexLess: the reference's and the program's. -/
import Derived.Test.YtgogjbnneoadkaaGreatZfOrder
import Derived.Test.YtgogjbnneoadkaaGreatZfDeps1
import Derived.Test.YtgogjbnneoadkaaGreatZfCore
import Derived.Test.YtgogjbnneoadkaaGreatZfPgF
import Derived.Test.YtgogjbnneoadkaaGreatZfFin
import Derived.Test.YtgogjbnneoadkaaGreatZfWith
import Derived.Test.YtgogjbnneoadkaaGreatZfActs
import Derived.Test.YtgogjbnneoadkaaGreatZfBasic
set_option linter.all false
set_option maxHeartbeats 400000
namespace Go.Proofs.YtgogjbnneoadkaaGreat
open Go.ChangeShapes Go.WideShapes Go.ChangeAt Go.RowKit Go.Deep
end Go.Proofs.YtgogjbnneoadkaaGreat
namespace Go.Proofs.YtgogjbnneoadkaaGreat
end Go.Proofs.YtgogjbnneoadkaaGreat
namespace Go.Proofs.YtgogjbnneoadkaaGreat
open Go.ChangeShapes Go.WideShapes Go.ChangeAt Go.RowKit Go.Deep
end Go.Proofs.YtgogjbnneoadkaaGreat
namespace Go.Proofs.YtgogjbnneoadkaaGreat
def qGQ (p : Pgm) (part loop : Int) : Prop := (0 <= part /\ part < (p.parts.length : Int)) /\ 0 <= loop /\ loop < ((p.parts.getD part.toNat ⟨[], []⟩).nest.length : Int)
instance (p : Pgm) (part loop : Int) : Decidable (qGQ p part loop) := by unfold qGQ; infer_instance
end Go.Proofs.YtgogjbnneoadkaaGreat
namespace Go.Proofs.YtgogjbnneoadkaaGreat
open Go.ChangeShapes Go.WideShapes Go.ChangeAt Go.RowKit Go.Deep
def qND (xs : List In) (i : Int) : In := xs.getD i.toNat ⟨0, 0, []⟩
theorem qVZ {xs : List In} {i : Nat} (h : i < xs.length) : qND xs (i : Int) = xs[i] := by simp [qND, List.getD_eq_getElem?_getD, h]
theorem qBJ {α : Type} {l : List α} {f : α -> Bool} {j : Nat} (h : j < l.length) : (l.drop j).any f = (f l[j] || (l.drop (j + 1)).any f) := by
 rw [List.drop_eq_getElem_cons h, List.any_cons]
theorem qLE {α : Type} {l : List α} {f : α -> Bool} : (l.drop l.length).any f = false := by simp
def cmpI (x y : Int) : Int := if x < y then -1 else if y < x then 1 else 0
def cmpL : List Int -> List Int -> Int
 | [], [] => 0
 | [], _ :: _ => -1
 | _ :: _, [] => 1
 | x :: xs, y :: ys => if cmpI x y = 0 then cmpL xs ys else cmpI x y
def uE (xs ys : List Int) : Bool := decide (cmpL xs ys < 0)
section
variable {w : World} {a b : Aff} {xs ys : List Int} {A B : Option Addr} {n m c d : Nat} {k k' : Int} {bs bs' : List Nat}
theorem qRZ (hA : Rep w (ints xs) [.slice A n c] bs) (hB : Rep w (ints ys) [.slice B m d] bs') :
  Calls Tryz.prog 109 #[.slice A n c, .slice B m d] w fun e w' => e = .returned (.bool (decide (xs = ys))) /\ ∃ nq, w' = w.drewN nq := by
 obtain ⟨rfl, h1, h2⟩ := hA.ints_len;obtain ⟨rfl, h3, h4⟩ := hB.ints_len;have hn : xs.length <= 9223372036854775807 := qX h1 h2;have hm : ys.length <= 9223372036854775807 := qX h3 h4;clear h1 h2 h3 h4;by_cases hl : xs.length = ys.length
 ·have hl1 : ((xs.length : Int) != (ys.length : Int)) = false := by simp [hl]
  have HL := qQ hl; clear hl;go_enter Tryz.func109, Tryz.ntmps109;go_wp2;go_loopw [5] (fun i w' => ∃ k : Nat, k <= xs.length /\ i = .int .i64 k /\ xs.take k = ys.take k /\ ∃ nq, w' = w.drewN nq) (fun i _ => xs.length - (intOf i).toNat)
  case atStart => exact ⟨0, Nat.zero_le _, rfl, rfl, 0, rfl⟩
  case round =>
   obtain ⟨k, hk, rfl, htake, nq, rfl⟩ := hrel;have HT := qQ htake; clear htake;by_cases hlt : k < xs.length
   ·obtain ⟨b, off, rfl, _, _, hc1, _⟩ := hA.ints_at hlt
    have hlt2 : k < ys.length := by rw [<- HL.out]; exact hlt
    obtain ⟨b', off', rfl, _, _, hc2, _⟩ := hB.ints_at hlt2;go_wp2;go_quiet (fail);by_cases hq : gi xs k = gi ys k
    ·have hq1 : (gi xs k != gi ys k) = false := by simp [hq]
     have HQ := qQ hq; clear hq;go_wp2;go_roundw
     case rel => exact ⟨k + 1, by omega, by go_num, (qJW HT.out hlt hlt2).2 HQ.out, _, rfl⟩
     case measure => simp [intOf]; omega
    ·have hq1 : (gi xs k != gi ys k) = true := by simp [hq]
     go_wp2;go_ret;exact ⟨qH (by rw [eq_comm, decide_eq_false_iff_not]; intro h; subst h; exact hq rfl), _, World.drewN_drewN _ _ _⟩
   ·go_wp2
    go_ret;exact ⟨qH (by rw [eq_comm, decide_eq_true_iff]; have := HT.out; rwa [List.take_of_length_le (by omega), List.take_of_length_le (by have := HL.out; omega)] at this), _, rfl⟩
 ·have hl1 : ((xs.length : Int) != (ys.length : Int)) = true := by simp; omega
  go_enter Tryz.func109, Tryz.ntmps109;go_wp2;go_ret;exact ⟨qH (by rw [eq_comm, decide_eq_false_iff_not]; intro h; subst h; exact hl rfl), 0, rfl⟩
theorem qJD (h : Rep w a.d [.slice A n c, .int .i64 k] bs) (h' : Rep w b.d [.slice B m d, .int .i64 k'] bs') :
  Calls Tryz.prog 151 #[.agg #[.slice A n c, .int .i64 k], .agg #[.slice B m d, .int .i64 k']] w fun e w' => e = .returned (.bool (xH a b)) /\ Below w.heap.size w w' := by
 obtain ⟨rfl, h1, _⟩ := h.aff;obtain ⟨rfl, h2, _⟩ := h'.aff;have HH := qQ (qV h1 h2); clear h1 h2 h h';by_cases hq : a.const = b.const
 ·have hq1 : (a.const == b.const) = true := by simp [hq]
  have HF := qQ (show xH a b = decide (a.coefs = b.coefs) by simp [xH, hq]);clear hq;go_enter Tryz.func151, Tryz.ntmps151;go_wp2_with fail;refine (qRZ (HH.out.1.below bel) (HH.out.2.below bel)).mono ?_;rintro e w1 ⟨rfl, nq, rfl⟩;go_wp2;go_ret;exact ⟨qH HF.out.symm, bel⟩
 ·have hq1 : (a.const == b.const) = false := by simp [hq]
  have HF := qQ (show xH a b = false by simp [xH, hq]);clear hq;go_enter Tryz.func151, Tryz.ntmps151;go_wp2;go_ret;exact ⟨qH HF.out.symm, bel⟩
theorem qJA (h : Rep w a.d [.slice A n c, .int .i64 k] bs) (h' : Rep w b.d [.slice B m d, .int .i64 k'] bs') :
  Calls Tryz.prog 107 #[.agg #[.slice A n c, .int .i64 k], .agg #[.slice B m d, .int .i64 k']] w fun e w' => e = .returned (.bool (xH a b)) /\ Below w.heap.size w w' := by
 obtain ⟨rfl, h1, _⟩ := h.aff;obtain ⟨rfl, h2, _⟩ := h'.aff;have HH := qQ (qV h1 h2); clear h1 h2 h h';by_cases hc : a.coefs = b.coefs
 ·have HD := qQ (show decide (a.coefs = b.coefs) = true by simp [hc])
  have HF := qQ (show xH a b = (a.const == b.const) by simp only [xH, hc]; simp; rfl);clear hc;go_enter Tryz.func107, Tryz.ntmps107;go_wp2_with fail;refine (qWM (HH.out.1.below bel) (HH.out.2.below bel)).mono ?_;rintro e w1 ⟨rfl, nq, rfl⟩;rw [HD.out];go_wp2;go_ret;exact ⟨qH HF.out.symm, bel⟩
 ·have HD := qQ (show decide (a.coefs = b.coefs) = false by simp [hc])
  have HF := qQ (show xH a b = false by simp [xH, hc]);clear hc;go_enter Tryz.func107, Tryz.ntmps107;go_wp2_with fail;refine (qWM (HH.out.1.below bel) (HH.out.2.below bel)).mono ?_;rintro e w1 ⟨rfl, nq, rfl⟩;rw [HD.out];go_wp2;go_ret;exact ⟨qH HF.out.symm, bel⟩
theorem vR (x : Int) (w : World) : Calls Tryz.prog 191 #[.int .i64 x] w fun e w' => e = .returned (.bool false) /\ w = w' := by
 go_enter Tryz.func191, Tryz.ntmps191;go_wp2;go_ret;exact ⟨qH (by simp), rfl⟩
theorem qMD (x y : Int) (w : World) : Calls Tryz.prog 153 #[.int .i64 x, .int .i64 y] w fun e w' => e = .returned (.int .i64 (cmpI x y)) /\ w = w' := by
 by_cases h1 : x < y
 ·have HF := qQ (show cmpI x y = -1 from if_pos h1)
  go_enter Tryz.func153, Tryz.ntmps153;go_wp2_with fail;refine (vR _ _).mono ?_;rintro e w1 ⟨rfl, rfl⟩;go_wp2_with fail;refine (vR _ _).mono ?_;rintro e w1 ⟨rfl, rfl⟩;go_wp2;go_ret;exact ⟨qF HF.out.symm, rfl⟩
 ·by_cases h2 : y < x
  ·have HF := qQ (show cmpI x y = 1 by unfold cmpI; rw [if_neg h1, if_pos h2])
   go_enter Tryz.func153, Tryz.ntmps153;go_wp2_with fail;refine (vR _ _).mono ?_;rintro e w1 ⟨rfl, rfl⟩;go_wp2_with fail;refine (vR _ _).mono ?_;rintro e w1 ⟨rfl, rfl⟩;go_wp2;go_ret;exact ⟨qF HF.out.symm, rfl⟩
  ·have HF := qQ (show cmpI x y = 0 by unfold cmpI; rw [if_neg h1, if_neg h2])
   go_enter Tryz.func153, Tryz.ntmps153;go_wp2_with fail;refine (vR _ _).mono ?_;rintro e w1 ⟨rfl, rfl⟩;go_wp2_with fail;refine (vR _ _).mono ?_;rintro e w1 ⟨rfl, rfl⟩;go_wp2;go_ret;exact ⟨qF HF.out.symm, rfl⟩
theorem qLM {j : Nat} (h1 : j < xs.length) (h2 : j < ys.length) : cmpL (xs.drop j) (ys.drop j) = if cmpI xs[j] ys[j] = 0 then cmpL (xs.drop (j + 1)) (ys.drop (j + 1)) else cmpI xs[j] ys[j] := by
 rw [<- List.getElem_cons_drop h1, <- List.getElem_cons_drop h2, cmpL]
theorem qUV {j : Nat} (h1 : j < xs.length) (h2 : ys.length <= j) : cmpL (xs.drop j) (ys.drop j) = 1 := by
 rw [<- List.getElem_cons_drop h1, List.drop_eq_nil_of_le h2, cmpL]
theorem qYR {j : Nat} (h1 : xs.length <= j) (h2 : j < ys.length) : cmpL (xs.drop j) (ys.drop j) = -1 := by
 rw [<- List.getElem_cons_drop h2, List.drop_eq_nil_of_le h1, cmpL]
theorem qDM {j : Nat} (h1 : xs.length <= j) (h2 : ys.length <= j) : cmpL (xs.drop j) (ys.drop j) = 0 := by
 rw [List.drop_eq_nil_of_le h1, List.drop_eq_nil_of_le h2, cmpL]
theorem qTY (hA : Rep w (ints xs) [.slice A n c] bs) (hB : Rep w (ints ys) [.slice B m d] bs') :
  Calls Tryz.prog 108 #[.slice A n c, .slice B m d] w fun e w' => e = .returned (.int .i64 (cmpL xs ys)) /\ w = w' := by
 obtain ⟨rfl, h1, h2⟩ := hA.ints_len;obtain ⟨rfl, h3, h4⟩ := hB.ints_len;have hn : xs.length <= 9223372036854775807 := qX h1 h2;have hm : ys.length <= 9223372036854775807 := qX h3 h4;clear h1 h2 h3 h4;go_enter Tryz.func108, Tryz.ntmps108;go_wp2;go_loop [5, 6, 7, 8, 11] (fun _ _ _ _ i => ∃ j : Nat, j <= xs.length /\ j <= ys.length /\ i = .int .i64 j /\ cmpL xs ys = cmpL (xs.drop j) (ys.drop j)) (fun _ _ _ _ i => xs.length - (intOf i).toNat)
 case atStart => exact ⟨0, Nat.zero_le _, Nat.zero_le _, rfl, rfl⟩
 case round =>
  obtain ⟨j, hj, hj2, rfl, hd⟩ := hrel;have HD := qQ hd; clear hd;by_cases hlt : j < xs.length
  ·obtain ⟨b, off, rfl, _, _, hc1, _⟩ := hA.ints_at hlt
   rw [vB hlt] at hc1;by_cases hlt2 : j < ys.length
   ·obtain ⟨b', off', rfl, _, _, hc2, _⟩ := hB.ints_at hlt2
    rw [vB hlt2] at hc2;have HS := qQ (qLM hlt hlt2);go_wp2_with fail;refine (qMD _ _ _).mono ?_;rintro e w1 ⟨rfl, rfl⟩;by_cases hq : cmpI xs[j] ys[j] = 0
    ·have hq1 : (cmpI xs[j] ys[j] != 0) = false := by simp [hq]
     have HE := qQ (HD.out.trans (HS.out.trans (if_pos hq)));clear hq;go_wp2;go_round
     case rel => exact ⟨j + 1, by omega, by omega, by go_num, HE.out⟩
     case measure => simp [intOf]; omega
    ·have hq1 : (cmpI xs[j] ys[j] != 0) = true := by simp [hq]
     have HE := qQ (HD.out.trans (HS.out.trans (if_neg hq)));clear hq;go_wp2;go_ret;exact ⟨qF HE.out.symm, rfl⟩
   ·have HE := qQ (HD.out.trans (qUV hlt (by omega)))
    go_wp2;go_ret;exact ⟨qF HE.out.symm, rfl⟩
  ·have hjj : j = xs.length := by omega
   subst hjj;by_cases hlt2 : xs.length < ys.length
   ·have HE := qQ (HD.out.trans (qYR (qJ _) hlt2))
    go_wp2;go_ret;exact ⟨qF HE.out.symm, rfl⟩
   ·have HE := qQ (HD.out.trans (qDM (qJ _) (by omega)))
    go_wp2;go_ret;exact ⟨qF HE.out.symm, rfl⟩
theorem qKM (hA : Rep w (ints xs) [.slice A n c] bs) (hB : Rep w (ints ys) [.slice B m d] bs') :
  Calls Tryz.prog 58 #[.slice A n c, .slice B m d] w fun e w' => e = .returned (.bool (uE xs ys)) /\ w = w' := by
 have HH := qQ (qV hA hB); clear hA hB;go_enter Tryz.func58, Tryz.ntmps58;go_wp2_with fail;refine (qTY HH.out.1 HH.out.2).mono ?_;rintro e w1 ⟨rfl, rfl⟩;go_wp2;go_ret;exact ⟨rfl, rfl⟩
theorem qLN {x y : Int} (h : ¬ x = y) : ¬ cmpI x y = 0 /\ (cmpI x y < 0 ↔ x < y) := by
 unfold cmpI;by_cases h1 : x < y
 ·rw [if_pos h1]; omega
 ·rw [if_neg h1, if_pos (by omega)]; omega
theorem qCJ {x y : Int} (h : x = y) : cmpI x y = 0 := by unfold cmpI; rw [if_neg (by omega), if_neg (by omega)]
theorem qKX (hA : Rep w (ints xs) [.slice A n c] bs) (hB : Rep w (ints ys) [.slice B m d] bs') :
  Calls Tryz.prog 56 #[.slice A n c, .slice B m d] w fun e w' => e = .returned (.bool (uE xs ys)) /\ ∃ nq, w' = w.drewN nq := by
 obtain ⟨rfl, h1, h2⟩ := hA.ints_len;obtain ⟨rfl, h3, h4⟩ := hB.ints_len;have hn : xs.length <= 9223372036854775807 := qX h1 h2;have hm : ys.length <= 9223372036854775807 := qX h3 h4;clear h1 h2 h3 h4;go_enter Tryz.func56, Tryz.ntmps56;go_wp2;go_loopw [5] (fun i w' => ∃ j : Nat, j <= xs.length /\ j <= ys.length /\ i = .int .i64 j /\ cmpL xs ys = cmpL (xs.drop j) (ys.drop j) /\ ∃ nq, w' = w.drewN nq) (fun i _ => xs.length - (intOf i).toNat)
 case atStart => exact ⟨0, Nat.zero_le _, Nat.zero_le _, rfl, rfl, 0, rfl⟩
 case round =>
  obtain ⟨j, hj, hj2, rfl, hd, nq, rfl⟩ := hrel;have HD := qQ hd; clear hd;by_cases hlt : j < xs.length
  ·obtain ⟨b, off, rfl, _, _, hc1, _⟩ := hA.ints_at hlt
   rw [vB hlt] at hc1;by_cases hlt2 : j < ys.length
   ·obtain ⟨b', off', rfl, _, _, hc2, _⟩ := hB.ints_at hlt2
    rw [vB hlt2] at hc2;have HS := qQ (qLM hlt hlt2);by_cases hq : xs[j] = ys[j]
    ·have hq1 : (xs[j] != ys[j]) = false := by simp [hq]
     have HE := qQ (HD.out.trans (HS.out.trans (if_pos (qCJ hq))));clear hq;go_wp2;go_quiet (fail);go_wp2;go_roundw
     case rel => exact ⟨j + 1, by omega, by omega, by go_num, HE.out, _, rfl⟩
     case measure => simp [intOf]; omega
    ·have hq1 : (xs[j] != ys[j]) = true := by simp [hq]
     have HE := qQ (show uE xs ys = decide (xs[j] < ys[j]) by
      rw [uE, HD.out, HS.out, if_neg (qLN hq).1];simp only [(qLN hq).2])
     clear hq;go_wp2;go_quiet (fail);go_wp2;go_quiet (fail);go_wp2;go_ret;exact ⟨qH HE.out.symm, _, by rw [World.drewN_drewN, World.drewN_drewN]⟩
   ·have HE := qQ (show uE xs ys = false by rw [uE, HD.out, qUV hlt (by omega)]; rfl)
    go_wp2;go_ret;exact ⟨qH (by rw [HE.out, decide_eq_false_iff_not]; omega), _, rfl⟩
  ·have hjj : j = xs.length := by omega
   subst hjj;by_cases hlt2 : xs.length < ys.length
   ·have HE := qQ (show uE xs ys = true by rw [uE, HD.out, qYR (qJ _) hlt2]; rfl)
    go_wp2;go_ret;exact ⟨qH HE.out.symm, _, rfl⟩
   ·have HE := qQ (show uE xs ys = false by rw [uE, HD.out, qDM (qJ _) (by omega)]; rfl)
    go_wp2;go_ret;exact ⟨qH HE.out.symm, _, rfl⟩
end
end Go.Proofs.YtgogjbnneoadkaaGreat
