/- The accesses that an expression reads: reads of the program. The elements' own blocks are the expression's. -/
import Derived.Test.YtgogjbnneoadkaaGreatZfTyArray
import Derived.Test.YtgogjbnneoadkaaGreatZfScanI
import Derived.Test.YtgogjbnneoadkaaGreatZfPoints
import Derived.Test.YtgogjbnneoadkaaGreatZfTyAccess
import Derived.Test.YtgogjbnneoadkaaGreatZfCore
import Derived.Test.YtgogjbnneoadkaaGreatZfBasic
set_option linter.all false
set_option maxHeartbeats 4000000
set_option maxRecDepth 100000
namespace Go.Proofs.YtgogjbnneoadkaaGreat
open Go.ChangeShapes Go.WideShapes Go.ChangeAt Go.RowKit Go.Deep
def allN (f : Nat -> Bool) : Nat -> Nat -> Bool
 | 0, _ => true
 | n + 1, j => f j && allN f n (j + 1)
theorem qUY {f : Nat -> Bool} {n j : Nat} (h : j < n) : allN f (n - j) j = (f j && allN f (n - (j + 1)) (j + 1)) := by
 rw [show n - j = (n - (j + 1)) + 1 by omega]; rfl
theorem qDE (f : Nat -> Bool) (n : Nat) : allN f (n - n) n = true := by simp [allN]
theorem qLI {f : Nat -> Bool} : ∀ (n j : Nat), allN f n j = true -> ∀ i, j <= i -> i < j + n -> f i = true
 | 0, j, _, i, h1, h2 => by omega
 | n + 1, j, h, i, h1, h2 => by
  simp only [allN, Bool.and_eq_true] at h;rcases Nat.eq_or_lt_of_le h1 with rfl | hl
  ·exact h.1
  ·exact qLI n (j + 1) h.2 i hl (by omega)
def nthA (xs : List Ar) (j : Nat) : Ar := xs.getD j ⟨⟨#[]⟩, []⟩
theorem yN {xs : List Ar} {j : Nat} (h : j < xs.length) : nthA xs j = xs[j] := by simp [nthA, List.getD_eq_getElem?_getD, h]
def ltB (a b : ByteArray) : Bool := Op.bytesLess a.toList b.toList
def xS (n : Int) : Bool := !inB n 1 6
def uP (l : List Int) : Bool := inB (l.length : Int) 1 2 && !l.any xS
def qKY (xs : List Ar) (j : Nat) : Bool := decide (j = 0) || ltB (nthA xs (j - 1)).name (nthA xs j).name
def wC (xs : List Ar) (j : Nat) : Bool := qQN (nthA xs j).name && (qKY xs j && uP (nthA xs j).dims)
def xM (xs : List Ar) : Bool := allN (wC xs) xs.length 0 && decide (xs.length <= 4)
def xK (xs : List Int) : Nat -> Int
 | 0 => 1
 | j + 1 => xK xs j * gi xs j
def szF (a : Ar) : Int := xK a.dims a.dims.length
def uX (xs : List Ar) : Nat -> Int
 | 0 => 0
 | j + 1 => uX xs j + szF (nthA xs j)
def qJH (xs : List Ar) : Int := uX xs xs.length
def qPU (xs : List Aff) (j : Nat) : Aff := xs.getD j ⟨[], 0⟩
theorem qNS {xs : List Aff} {j : Nat} (h : j < xs.length) : qPU xs j = xs[j] := by simp [qPU, List.getD_eq_getElem?_getD, h]
def atN (subs : List Aff) (dims pt : List Int) : Nat -> Nat -> Int -> Int
 | 0, _, r => r
 | n + 1, k, r => if 0 <= evF (qPU subs k) pt /\ evF (qPU subs k) pt < gi dims k then atN subs dims pt n (k + 1) (r * gi dims k + evF (qPU subs k) pt) else -1
def atF (a : Acc) (x : Ar) (pt : List Int) : Int := if a.subs.length = x.dims.length then atN a.subs x.dims pt a.subs.length 0 0 else -1
def qWD (xs : List Ar) (a : Acc) (pt : List Int) : Nat -> Nat -> Int
 | 0, _ => -1
 | n + 1, j => if (nthA xs j).name.toList = a.arr.toList then (if 0 <= atF a (nthA xs j) pt then uX xs j + atF a (nthA xs j) pt else -1) else qWD xs a pt n (j + 1)
def cellF (xs : List Ar) (a : Acc) (pt : List Int) : Int := qWD xs a pt xs.length 0
theorem qZU {l : List Int} (h : uP l = true) : (1 <= l.length /\ l.length <= 2) /\ ∀ j, j < l.length -> 1 <= gi l j /\ gi l j <= 6 := by
 simp only [uP, Bool.and_eq_true, Bool.not_eq_true', List.any_eq_false] at h;obtain ⟨h1, h2⟩ := h;have := uZ.1 h1;refine ⟨by omega, fun j hj => ?_⟩;have h3 := h2 _ (List.getElem_mem hj);simp only [xS, Bool.not_eq_true, Bool.not_eq_false'] at h3;rw [vB hj];exact uZ.1 h3
theorem qUM {l : List Int} (h : uP l = true) : ∀ j, j <= l.length -> 1 <= xK l j /\ xK l j <= 6 ^ j
 | 0, _ => by simp [xK]
 | j + 1, hj => by
  obtain ⟨h1, h2⟩ := qUM h j (by omega);obtain ⟨h3, h4⟩ := (qZU h).2 j hj;have e : (6 : Int) ^ (j + 1) = 6 ^ j * 6 := Int.pow_succ _ _;simp only [xK];refine ⟨?_, ?_⟩
  ·have := Int.mul_le_mul h1 h3 (by omega) (by omega); omega
  ·rw [e]; exact Int.mul_le_mul h2 h4 (by omega) (by have : (0 : Int) < 6 ^ j := Int.pow_pos (by omega); omega)
theorem vU {l : List Int} (h : uP l = true) {j : Nat} (hj : j <= l.length) : 1 <= xK l j /\ xK l j <= 36 := by
 have h1 := qUM h j hj;have h2 := (qZU h).1;have : j = 0 ∨ j = 1 ∨ j = 2 := by omega
 rcases this with rfl | rfl | rfl <;> simp at h1 <;> omega
theorem yB {xs : List Ar} (h : xM xs = true) : xs.length <= 4 /\ ∀ j, j < xs.length -> uP (nthA xs j).dims = true := by
 simp only [xM, Bool.and_eq_true, decide_eq_true_iff] at h;refine ⟨h.2, fun j hj => ?_⟩;have := qLI _ _ h.1 j (Nat.zero_le _) (by omega);simp only [wC, Bool.and_eq_true] at this;exact this.2.2
theorem yP {xs : List Ar} (h : xM xs = true) : ∀ j, j <= xs.length -> 0 <= uX xs j /\ uX xs j <= 36 * (j : Int)
 | 0, _ => by simp [uX]
 | j + 1, hj => by
  have h1 := yP h j (by omega);have h2 := vU ((yB h).2 j hj) (qJ _);simp only [uX, szF];omega
theorem qBZ {subs : List Aff} {dims pt : List Int} (h : uP dims = true) (hl : subs.length = dims.length) : ∀ (n k : Nat) (r : Int), k + n = subs.length -> 0 <= r -> r < xK dims k -> -1 <= atN subs dims pt n k r /\ atN subs dims pt n k r < xK dims subs.length
 | 0, k, r, hk, h0, h1 => by
  have : k = subs.length := by omega
  subst this;simp only [atN]; omega
 | n + 1, k, r, hk, h0, h1 => by
  have h2 := (qZU h).2 k (by omega);simp only [atN]
  split
  ·next hv =>
   refine qBZ h hl n (k + 1) _ (by omega) ?_ ?_
   ·have := Int.mul_nonneg h0 (show 0 <= gi dims k by omega); omega
   ·have : r * gi dims k <= (xK dims k - 1) * gi dims k := Int.mul_le_mul_of_nonneg_right (by omega) (by omega)
    simp only [xK];rw [Int.sub_mul] at this;omega
  ·have := qUM h subs.length (by omega); omega
theorem qTA {dims : List Int} (h : uP dims = true) {k : Nat} (hk : k < dims.length) {r v : Int} (h0 : 0 <= r) (h1 : r < xK dims k) (hv0 : 0 <= v) (hv : v < gi dims k) : 0 <= r * gi dims k /\ 0 <= r * gi dims k + v /\ r * gi dims k + v < xK dims (k + 1) /\ xK dims (k + 1) <= 36 := by
 have h2 := (qZU h).2 k hk;have h3 := Int.mul_nonneg h0 (show 0 <= gi dims k by omega);have : r * gi dims k <= (xK dims k - 1) * gi dims k := Int.mul_le_mul_of_nonneg_right (by omega) (by omega);have h4 := vU h (j := k + 1) (by omega);rw [Int.sub_mul] at this;simp only [xK] at h4 ⊢;omega
theorem qCA {a : Acc} {x : Ar} {pt : List Int} (h : uP x.dims = true) : -1 <= atF a x pt /\ atF a x pt < szF x := by
 have hp := vU h (qJ _);unfold atF szF
 split
 ·next hl =>
  have := qBZ (pt := pt) h hl a.subs.length 0 0 (by omega) (by omega) (by simp [xK]);rw [hl] at this;rw [hl];exact this
 ·omega
theorem qDR {xs : List Ar} {a : Acc} {pt : List Int} (h : xM xs = true) : ∀ (n j : Nat), j + n = xs.length -> -1 <= qWD xs a pt n j /\ qWD xs a pt n j < qJH xs
 | 0, j, hj => by
  have := yP h xs.length (qJ _);simp only [qWD, qJH]; omega
 | n + 1, j, hj => by
  have hm : ∀ (d i : Nat), i + d <= xs.length -> uX xs i <= uX xs (i + d) := by
   intro d
   induction d with
   | zero => intro i _; exact Int.le_refl _
   | succ d ih =>
    intro i hi;have h1 := ih i (by omega);have h2 := vU ((yB h).2 (i + d) (by omega)) (qJ _);rw [show i + (d + 1) = (i + d) + 1 by omega];simp only [uX, szF];omega
  simp only [qWD]
  split
  ·split
   ·have h1 := qCA (a := a) (pt := pt) ((yB h).2 j (by omega))
    have h2 := yP h j (by omega);have h3 := hm n (j + 1) (by omega);rw [show j + 1 + n = xs.length by omega] at h3;simp only [uX] at h3;unfold qJH;omega
   ·have := yP h xs.length (qJ _)
    unfold qJH; omega
  ·exact qDR h n (j + 1) (by omega)
theorem qQS {xs : List Ar} {a : Acc} {pt : List Int} (h : xM xs = true) : -1 <= cellF xs a pt /\ cellF xs a pt < qJH xs := qDR h _ _ (by omega)
theorem qXY {xs : List Ar} (h : xM xs = true) : 0 <= qJH xs /\ qJH xs <= 144 := by
 have := yP h xs.length (qJ _);have := (yB h).1;unfold qJH; omega
mutual
def xF : Ex -> List Acc
 | ⟨k, _, _, r, kids⟩ => if k = 3 then r :: [] else xU kids
def xU : List Ex -> List Acc
 | [] => []
 | x :: l => xF x ++ xU l
end
theorem qXT {w : World} {xs : List Acc} {A : Option Addr} {n c : Nat} {bs : List Nat} {g : FuncId} {cap : Array Value} {p : Acc -> Bool} (h : Rep w (sls Acc.d xs) [.slice A n c] bs) (hg : xD Tryz.prog g)
  (hp : ∀ x cs bs W, x ∈ xs -> Below w.heap.size w W -> Rep W (Acc.d x) cs bs -> Calls Tryz.prog g (#[.agg cs.toArray] ++ cap) W fun e w' => e = .returned (.bool (p x)) /\ Below W.heap.size W w') :
  Calls Tryz.prog 218 #[.slice A n c, .func (.func g) #[] cap] w fun e w' => e = .returned (.int .i64 (idxI p xs 0)) /\ Below w.heap.size w w' := by
 obtain ⟨rfl, h2, h3⟩ := h.sls_len;have hn : xs.length <= 9223372036854775807 := qX h2 h3;clear h2 h3;have H := qQ h; clear h;have HP := qQ hp; clear hp;unfold xD at hg;go_enter Tryz.func218, Tryz.ntmps218;go_wp2;go_loopw [8] (fun i wr => ∃ j : Nat, j <= xs.length /\ i = .int .i64 j /\ idxI p xs 0 = idxI p (xs.drop j) j /\ Below w.heap.size w wr) (fun i _ => xs.length - (intOf i).toNat)
 case atStart => exact ⟨0, Nat.zero_le _, rfl, by simp, Below.refl _ _⟩
 case round =>
  obtain ⟨j, hj, rfl, hi, hb⟩ := hrel;have HI := qQ hi; clear hi;by_cases hlt : j < xs.length
  ·have hd := qQ (wN p xs j hlt)
   obtain ⟨b, o, cs, l, rfl, hbl, hr, _, _, hc⟩ := (H.out.below hb).sls_at Acc.d_size (k := j) hlt;have G := qQ hr;obtain ⟨A2, c2, d2, rfl, rfl, g1, g2⟩ := Rep.acc_iff.1 hr;have k0 := (hc 0 _ rfl).1; rw [Nat.add_zero] at k0;have k1 := (hc 1 _ rfl).1;clear hc hr g1 g2;go_wp2_with fail;refine (HP.out _ _ _ _ (List.getElem_mem hlt) (by exact hb) G.out).mono ?_;rintro e w1 ⟨rfl, b1⟩;have S1 := qY hb b1;by_cases hpx : p xs[j] = true
   ·have hd2 := qQ (hd.out.trans (if_pos hpx))
    have HX := qQ hpx; clear hpx;rw [HX.out];go_wp2;go_ret;exact ⟨qF (by rw [HI.out, hd2.out]), S1⟩
   ·have hd2 := qQ (hd.out.trans (if_neg hpx))
    simp only [Bool.not_eq_true] at hpx;have HX := qQ hpx; clear hpx;rw [HX.out];go_wp2;go_roundw
    case rel => exact ⟨j + 1, by omega, by go_num, by rw [HI.out, hd2.out], S1⟩
    case measure => simp [intOf]; omega
  ·have hjj : j = xs.length := by omega
   subst hjj;go_wp2;go_ret;exact ⟨qF (by rw [HI.out]; simp [idxI]), hb⟩
theorem wO {w : World} {xs : List Acc} {A : Option Addr} {n c : Nat} {bs : List Nat} {g : FuncId} {cap : Array Value} {p : Acc -> Bool} (h : Rep w (sls Acc.d xs) [.slice A n c] bs) (hg : xD Tryz.prog g)
  (hp : ∀ x cs bs W, x ∈ xs -> Below w.heap.size w W -> Rep W (Acc.d x) cs bs -> Calls Tryz.prog g (#[.agg cs.toArray] ++ cap) W fun e w' => e = .returned (.bool (p x)) /\ Below W.heap.size W w') :
  Calls Tryz.prog 186 #[.slice A n c, .func (.func g) #[] cap] w fun e w' => e = .returned (.bool (xs.any p)) /\ Below w.heap.size w w' := by
 have hx := qQ (qQF p xs 0 (Int.le_refl _));have HH := qQ h; clear h;have HP := qQ hp; clear hp;go_enter Tryz.func186, Tryz.ntmps186;go_wp2_with fail;refine (qXT HH.out hg HP.out).mono ?_;rintro e w1 ⟨rfl, b1⟩;go_wp2;go_ret;exact ⟨qH hx.out, b1⟩
def wV (w : World) (B : Nat) (e : TypeId) (size : Nat) (v : Value) (xs : List D) (S : List Nat) : Prop :=
 ∃ es cb, w.ownsRow B e size v xs.length es /\ Reps w xs es cb /\ List.Sublist cb S
section
variable {P : Program} {w w' : World} {B : Nat} {e : TypeId} {size : Nat} {v : Value} {xs : List D} {S T : List Nat}
theorem wV.nil (w : World) (B : Nat) (e : TypeId) (size : Nat) : wV w B e size (.slice none 0 0) [] [] :=
 ⟨[], [], ⟨by simp, .inl ⟨rfl, rfl⟩⟩, ⟨rfl, rfl⟩, by simp⟩
theorem wV.below (h : wV w B e size v xs S) (hb : Below w.heap.size w w') : wV w' B e size v xs S := by
 obtain ⟨es, cb, h1, h2, h3⟩ := h;exact ⟨es, cb, qQJ h1 hb.size fun g _ hl => hb.block g hl, Reps.keep _ h2 ⟨hb.size, fun y hy => hb.block y (Reps.lt _ h2 y hy)⟩, h3⟩
theorem wV.rep (h : wV w B e size v xs S) : ∃ A c bs, v = .slice A xs.length c /\ Rep w (.sl xs) [.slice A xs.length c] bs /\ List.Sublist bs.tail S /\ ∀ y ∈ bs.head?, B <= y := by
 obtain ⟨es, cb, h1, h2, h3⟩ := h;obtain ⟨A, c, bs, rfl, h6, h7⟩ := Rep.of_own h1 rfl h2;refine ⟨A, c, bs, rfl, h6, ?_⟩;rcases h7 with ⟨_, rfl⟩ | ⟨g, rfl, hg, _⟩
 ·exact ⟨by simp, by simp⟩
 ·refine ⟨h3, fun y hy => ?_⟩
  simp only [List.head?_cons, Option.mem_some_iff] at hy;rw [<- hy]; exact hg
theorem wV.form (h : wV w B e size v xs S) : ∃ A c, v = .slice A xs.length c /\ xs.length <= c /\ c <= maxLen := by
 obtain ⟨A, c, bs, rfl, h6, _⟩ := h.rep;obtain ⟨h1, h2, h3⟩ := h6.sl_len;exact ⟨A, c, rfl, h2, h3⟩
theorem wV.own_ge (h : wV w B e size v xs S) : ∀ b, v.ownBlock = some b -> B <= b /\ b < w.heap.size := by
 obtain ⟨es, cb, h1, _⟩ := h;exact fun b hb => uQ h1 hb
theorem qJS (w : World) (t ty : TypeId) (i : TypeInfo) (z : Value) (bytes : Nat) (ht : P.underlying t = some (.slice e)) (hi : P.info? e = some i) (hz : i.zero = some z)
  (hsize : i.size = size) (hby : i.bytes = bytes) (hzs : z.cells.size = size) (hsz : 0 < size) (hG : wV w B e size v xs S) {ys : List D} {A : Option Addr} {m c : Nat} {bs : List Nat}
  (hr : Rep w (.sl ys) [.slice A m c] bs) (hs : ∀ y ∈ ys, y.size = size) (hT : List.Sublist bs.tail T) (hST : ∀ y ∈ S ++ T, y < B)
  (h63 : xs.length + ys.length <= 100000000000) (hbytes : bytes <= 1024) (hbase : B <= w.heap.size) :
  ∃ v' w', (Builtin.append_ #[t, t] ty #[v, .slice A m c]).run P w = .ok v' w' /\ wV w' B e size v' (xs ++ ys) (S ++ T) /\ Grew w w' v v' := by
 have hG1 := hG;obtain ⟨es, cb, hown, q2, q3⟩ := hG;obtain ⟨A', c', es2, cb2, he, hc1, hc2, hreps, h0⟩ := hr;simp only [List.cons.injEq, Value.slice.injEq] at he;obtain ⟨⟨rfl, rfl, rfl⟩, _⟩ := he;rcases h0 with ⟨rfl, rfl⟩ | ⟨b, o, rfl, rfl, hb, hcell⟩
 ·obtain ⟨Av, cv, hv, hle, hcm⟩ := hG1.form
  obtain ⟨ees, _⟩ := hreps;refine ⟨v, w, ?_, by
   obtain ⟨es, cb, a1, a2, a3⟩ := hG1;exact ⟨es, cb, by simpa using a1, by simpa using a2, a3.trans (List.sublist_append_left _ _)⟩, Grew.refl _ _⟩
  rw [hv];refine run_append_nothing w t t ty e i ht hi Av xs.length cv hle _ ?_;rcases A with _ | ad
  ·exact Src.ofNil w ht c
  ·exact Src.ofSlice w ht ad 0 c [] (by simp) (by simp) (by simp)
 ·have hl2 : es2.length = ys.length * size := by rw [Reps.length _ hreps, yO ys hs]
  obtain ⟨v', w', hrun, h2, h3, _, h5⟩ := run_append_own_at (P := P) w B t ty e i z size bytes ht hi hz hsize hby hzs hsz v xs.length es hown ⟨b, o, none⟩ ys.length c es2 hl2
   (fun j u hu => by rw [uG]; exact (hcell j u hu).1) (Reps.one _ hreps) (by unfold maxLen; omega) (by have := Nat.mul_le_mul h63 hbytes; omega) hbase
  have hblk : ∀ y, y < w.heap.size -> v.ownBlock ≠ some y -> w'.heap[y]? = w.heap[y]? := fun y hy hne => h3.block y hy (fun e => hne e.symm);simp only [List.tail_cons] at hT;have hlow : ∀ y, y < B -> v.ownBlock ≠ some y := fun y hy e => by have := (uQ hown e).1; omega
  refine ⟨v', w', hrun, ⟨es ++ es2, cb ++ cb2, by simpa using h2, ?_, q3.append hT⟩, ⟨h3.os, h3.tape, h3.output, h3.size, fun y hy hm => hblk y hy fun e => hm (qU.2 e)⟩, fun y hy => ?_⟩
  ·refine (xQ xs ys).2 ⟨es, es2, cb, cb2, rfl, rfl, Reps.keep _ q2 ⟨h3.size, fun y hy => ?_⟩, Reps.keep _ hreps ⟨h3.size, fun y hy => ?_⟩⟩
   ·exact hblk y (Reps.lt _ q2 y hy) (hlow y (hST y (List.mem_append_left _ (q3.subset hy))))
   ·exact hblk y (Reps.lt _ hreps y hy) (hlow y (hST y (List.mem_append_right _ (hT.subset hy))))
  ·rcases h5 with h5 | h5
   ·rw [h5] at hy; exact .inl hy
   ·rw [h5] at hy
    have : w.heap.size = y := by simpa using hy
    exact .inr (by omega)
theorem qVK {o : Oper} {a : Act} {K : Act -> World -> Prop} {Q : Exit -> Act -> World -> Prop} (s x : Operand) (t : TypeId)
  (ho : o.op = .call { callee := .builtin .append, args := #[s, x], argTypes := #[t, t] })
  (z : Value) (ht : P.underlying t = some (.slice e)) (hinfo : (P.info? e).map (fun i => (i.zero, i.size, decide (i.bytes <= 1024))) = some (some z, size, true)) (hzs : z.cells.size = size) (hsz : 0 < size) (hs : a.eval s = v) (hG : wV w B e size v xs S)
  {ys : List D} {A : Option Addr} {m c : Nat} {bs : List Nat} (hx : a.eval x = .slice A m c) (hr : Rep w (.sl ys) [.slice A m c] bs) (hys : ∀ y ∈ ys, y.size = size) (hT : List.Sublist bs.tail T) (hST : ∀ y ∈ S ++ T, y < B)
  (h63 : xs.length + ys.length <= 100000000000) (hbase : B <= w.heap.size)
  (h : ∀ v' w', wV w' B e size v' (xs ++ ys) (S ++ T) -> Grew w w' v v' -> K (a.put o.dst v') w') : o.wp P a w K Q := by
 obtain ⟨i, hi, hzz⟩ := Option.map_eq_some_iff.1 hinfo;simp only [Prod.mk.injEq, decide_eq_true_iff] at hzz;obtain ⟨v', w', hrun, h2, h3⟩ := qJS (P := P) w t o.type i z i.bytes ht hi hzz.1 hzz.2.1 rfl hzs hsz hG hr hys hT hST h63 hzz.2.2 hbase;unfold Oper.wp execOp;simp only [ho, resolve, invoke, builtin, Sem.run_bind, Sem.run_pure, Result.andThen_ok, List.map_toArray, List.map_cons, List.map_nil, hs, hx, hrun];exact h v' w' h2 h3
theorem qZZ {ops : Array Oper} {rest : List Oper} {o : Oper} {a : Act} {Q : Exit -> Act -> World -> Prop} (hgd : o.guard = none) (s x : Operand) (t : TypeId)
  (ho : o.op = .call { callee := .builtin .append, args := #[s, x], argTypes := #[t, t] })
  (z : Value) (ht : P.underlying t = some (.slice e)) (hinfo : (P.info? e).map (fun i => (i.zero, i.size, decide (i.bytes <= 1024))) = some (some z, size, true)) (hzs : z.cells.size = size) (hsz : 0 < size) (hs : a.eval s = v) (hG : wV w B e size v xs S)
  {ys : List D} {A : Option Addr} {m c : Nat} {bs : List Nat} (hx : a.eval x = .slice A m c) (hr : Rep w (.sl ys) [.slice A m c] bs) (hys : ∀ y ∈ ys, y.size = size) (hT : List.Sublist bs.tail T) (hST : ∀ y ∈ S ++ T, y < B)
  (h63 : xs.length + ys.length <= 100000000000) (hbase : B <= w.heap.size)
  (h : ∀ v' w', wV w' B e size v' (xs ++ ys) (S ++ T) -> Grew w w' v v' -> wpList P ops Q rest (a.put o.dst v') w') : wpList P ops Q (o :: rest) a w :=
 wpList_plain hgd fun _ hK => qVK s x t ho z ht hinfo hzs hsz hs hG hx hr hys hT hST h63 hbase fun v' w' h2 h3 => hK _ _ (h v' w' h2 h3)
end
theorem Reps.parts {w : World} {s : Nat} : (xs : List D) -> {es : List Value} -> {cb : List Nat} -> Reps w xs es cb -> (∀ x ∈ xs, x.size = s) ->
  ∃ L : List (List Nat), L.length = xs.length /\ L.flatten = cb /\ ∀ k (h : k < xs.length), ∃ cs, Rep w xs[k] cs (L.getD k []) /\ ∀ j u, cs[j]? = some u -> es[k * s + j]? = some u
 | [], es, cb, h, _ => ⟨[], rfl, by rw [h.2]; rfl, fun k hk => absurd hk (by simp)⟩
 | x :: xs, es, cb, h, hs => by
  obtain ⟨c1, c2, b1, b2, rfl, rfl, h1, h2⟩ := h;obtain ⟨L, hl, hf, hk⟩ := Reps.parts xs h2 fun y hy => hs y (List.mem_cons_of_mem _ hy);have hx := hs x List.mem_cons_self;have hlen := Rep.length _ h1;refine ⟨b1 :: L, by simp [hl], by simp [hf], fun k hk' => ?_⟩;rcases k with _ | k
  ·exact ⟨c1, h1, fun j u hu => by
    rw [Nat.zero_mul, Nat.zero_add, List.getElem?_append_left (by
     rcases Nat.lt_or_ge j c1.length with h | h
     ·exact h
     ·rw [List.getElem?_eq_none h] at hu; cases hu)]
    exact hu⟩
  ·obtain ⟨cs, h3, h4⟩ := hk k (by simpa using hk')
   refine ⟨cs, h3, fun j u hu => ?_⟩;rw [List.getElem?_append_right (by rw [hlen, hx, Nat.add_mul]; omega), hlen, hx, show (k + 1) * s + j - s = k * s + j by rw [Nat.add_mul]; omega];exact h4 j u hu
theorem Rep.sls_parts {α : Type} {w : World} {f : α -> D} {xs : List α} {A : Option Addr} {n c s : Nat} {bs : List Nat} (hs : ∀ x, (f x).size = s) (h : Rep w (sls f xs) [.slice A n c] bs) :
  ∃ L : List (List Nat), L.length = xs.length /\ List.Sublist L.flatten bs /\ (∀ y ∈ L.flatten, y < w.heap.size) /\ ∀ k (hk : k < xs.length), ∃ b o cs, A = some ⟨b, o, none⟩ /\ b < w.heap.size /\ Rep w (f xs[k]) cs (L.getD k []) /\ ∀ j u, cs[j]? = some u -> w.cell? ⟨b, o + k * s + j, none⟩ = some u := by
 have hlt := Rep.lt _ h;obtain ⟨A', c', es, cb, he, hc1, hc2, hreps, h0⟩ := h;simp only [List.cons.injEq, Value.slice.injEq] at he;obtain ⟨⟨rfl, rfl, rfl⟩, _⟩ := he;obtain ⟨L, hl, hf, hk⟩ := Reps.parts (s := s) _ hreps fun x hx => by obtain ⟨y, _, rfl⟩ := List.mem_map.1 hx; exact hs y
 rw [List.length_map] at hl;refine ⟨L, hl, ?_, fun y hy => Reps.lt _ hreps y (by rw [<- hf]; exact hy), fun k hk' => ?_⟩
 ·rcases h0 with ⟨h0, rfl⟩ | ⟨b, o, rfl, rfl, hb, hcell⟩
  ·have : xs = [] := by simpa using h0
   subst this;have : L = [] := List.eq_nil_of_length_eq_zero hl;subst this; simp
  ·rw [hf]; exact List.sublist_cons_self _ _
 ·rcases h0 with ⟨h0, rfl⟩ | ⟨b, o, rfl, rfl, hb, hcell⟩
  ·have : xs = [] := by simpa using h0
   subst this; simp at hk'
  ·obtain ⟨cs, h3, h4⟩ := hk k (by simpa using hk')
   simp only [List.getElem_map] at h3;refine ⟨b, o, cs, rfl, hb, h3, fun j u hu => ?_⟩;have := (hcell _ _ (h4 j u hu)).1
   rwa [<- Nat.add_assoc] at this
theorem qGB {α : Type} (L : List (List α)) (k : Nat) (h : k < L.length) : (L.take (k + 1)).flatten = (L.take k).flatten ++ L.getD k [] := by
 rw [List.take_succ_eq_append_getElem h, List.flatten_append]; simp [List.getD_eq_getElem?_getD, h]
theorem wY {α : Type} (L : List (List α)) (k : Nat) : List.Sublist (L.take k).flatten L.flatten := by
 have : L.flatten = (L.take k).flatten ++ (L.drop k).flatten := by rw [<- List.flatten_append, List.take_append_drop]
 rw [this]; exact List.sublist_append_left _ _
theorem qZR (x : Ex) : xF x = if x.kind = 3 then [x.read] else xU x.kids := by cases x; simp only [xF]
theorem jB : (xs ys : List Ex) -> xU (xs ++ ys) = xU xs ++ xU ys
 | [], ys => by simp [xU]
 | x :: xs, ys => by rw [List.cons_append, xU, jB xs ys, xU, List.append_assoc]
theorem qVL {xs : List Ex} {k : Nat} (h : k < xs.length) : xU (xs.take (k + 1)) = xU (xs.take k) ++ xF xs[k] := by
 rw [List.take_succ_eq_append_getElem h, jB]; simp [xU]
theorem qQB {xs : List Ex} (k : Nat) : (xU (xs.take k)).length <= (xU xs).length := by
 have : xU xs = xU (xs.take k) ++ xU (xs.drop k) := by rw [<- jB, List.take_append_drop]
 rw [this, List.length_append]; omega
theorem Tryz.infoAcc : (Tryz.prog.info? 97).map (fun i => (i.zero, i.size, decide (i.bytes <= 1024))) = some (some (.agg #[.string ⟨#[]⟩, .slice none 0 0]), 2, true) := by kernel_rfl
def qAQ (w : World) (xs : List Acc) (bs : List Nat) (e : Ending) (w' : World) : Prop :=
 ∃ A c bs', e = .returned (.slice A xs.length c) /\ Rep w' (sls Acc.d xs) [.slice A xs.length c] bs' /\ List.Sublist bs'.tail bs /\ (∀ y ∈ bs'.head?, w.heap.size <= y) /\ Below w.heap.size w w'
theorem xV {w : World} {d : D} {cells : List Value} {b : List Nat} {N : Nat} (h : Rep w d cells b) (t : TypeId) (hN : w.heap.size = N) : Rep (w.alloc (.cells cells.toArray t)) (.sl [d]) [.slice (some ⟨N, 0, none⟩) 1 1] (N :: b) := by
 subst hN; exact qVN w h t
def qHZ (x : Ex) : Prop := ∀ (w : World) (cs : List Value) (bs : List Nat), (xF x).length <= 1000000 -> Rep w x.d cs bs ->
  Calls Tryz.prog 148 #[.agg cs.toArray] w (qAQ w (xF x) bs)
theorem qBG {x : Ex} (hrec : ∀ y ∈ x.kids, qHZ y) : qHZ x := by
 intro w cs bs hN h;have HREC := qQ hrec; clear hrec;have HE := qQ (qZR x);have HLT := qQ (Rep.lt _ h);obtain ⟨A3, c3, A6, c6, A7, c7, d3, d6, d7, rfl, rfl, g1, g2, g3, g4, g5, g6, g7⟩ := Rep.ex_iff.1 h;have Gkind := qQ g1;have Gnum := qQ g2;have Gindex := qQ ((Rep.aff_iff2 (x := x.index)).2 ⟨_, _, _, rfl, rfl, g3, g4⟩);have Gread := qQ ((Rep.acc_iff (x := x.read)).2 ⟨_, _, _, rfl, rfl, g5, g6⟩);have Gkids := qQ g7;clear h g1 g2 g3 g4 g5 g6 g7;have hn : x.kids.length <= 9223372036854775807 := qX Gkids.out.sls_len.2.1 Gkids.out.sls_len.2.2;by_cases hk : x.kind = 3
 ·have q1 : (x.kind == 3) = true := vV hk
  have HR := qQ (HE.out.trans (if_pos hk)); clear hk HE;rw [HR.out];have B0 : Below w.heap.size w (w.alloc (.cells #[.int .i64 x.kind, .int .i64 x.num, .slice A3 x.index.coefs.length c3, .int .i64 x.index.const, .string x.read.arr, .slice A6 x.read.subs.length c6, .slice A7 x.kids.length c7] 100)) := bel;have O := qQ (xV (N := w.heap.size + 1) (Gread.out.below B0) 97 (by simp));go_enter Tryz.func148, Tryz.ntmps148;go_wp2;go_ret;refine ⟨_, 1, _, rfl, O.out, ?_, ?_, ?_⟩
  ·simp
  ·intro y hy
   simp only [List.head?_cons, Option.mem_some_iff] at hy;omega
  ·exact B0.alloc B0.size _
 have q1 : (x.kind == 3) = false := uF hk;have HR := qQ (HE.out.trans (if_neg hk)); clear hk HE;rw [HR.out] at hN ⊢;obtain ⟨L, hl, hsub, hLB, hL⟩ := Gkids.out.sls_parts Ex.d_size;have HL := qQ (qV hl (qV hsub (qV hLB hL))); clear hl hsub hLB hL;have HNN := qQ hN; clear hN;go_enter Tryz.func148, Tryz.ntmps148;go_wp2;go_loopw [3, 15] (fun u i wr => ∃ j : Nat, j <= x.kids.length /\ i = .int .i64 j /\ wV wr w.heap.size 97 2 u ((xU (x.kids.take j)).map Acc.d) (L.take j).flatten /\ Below w.heap.size w wr) (fun _ i _ => x.kids.length - (intOf i).toNat)
 case atStart => exact ⟨0, Nat.zero_le _, rfl, by simpa [xU] using wV.nil _ _ _ _, bel⟩
 case round =>
  obtain ⟨j, hj, rfl, hG, hb⟩ := hrel;obtain ⟨Au, cu, hfu, _, _⟩ := hG.form;rw [List.length_map] at hfu;have HG := qQ hG; clear hG;by_cases hlt : j < x.kids.length
  ·have HT := qQ (qVL hlt)
   have hle := qQB (xs := x.kids) (j + 1);rw [HT.out, List.length_append] at hle;have h63 := HNN.out;have HFT := qQ (qGB L j (by rw [HL.out.1]; exact hlt));obtain ⟨be, oe, cse, hA, hble, hrk, hck⟩ := HL.out.2.2.2 j hlt;have hSB : ∀ y ∈ (L.take j).flatten ++ L.getD j [], y < w.heap.size := fun y hy => by
    rw [<- HFT.out] at hy;exact HL.out.2.2.1 y ((wY L (j + 1)).subset hy)
   have HSB := qQ hSB; clear hSB;obtain ⟨A3e, c3e, A6e, c6e, A7e, c7e, d3e, d6e, d7e, hcs, hbs, _⟩ := Rep.ex_iff.1 hrk;subst hcs;have Ge := qQ hrk; clear hrk;have k0e := (hb.cell hble).trans (hck 0 _ rfl); rw [Nat.add_zero] at k0e;have k1e := (hb.cell hble).trans (hck 1 _ rfl);have k2e := (hb.cell hble).trans (hck 2 _ rfl);have k3e := (hb.cell hble).trans (hck 3 _ rfl);have k4e := (hb.cell hble).trans (hck 4 _ rfl);have k5e := (hb.cell hble).trans (hck 5 _ rfl);have k6e := (hb.cell hble).trans (hck 6 _ rfl);have hblw := qZ hble hb.size;clear hck hbs;subst hA hfu;go_wp2_with fail;refine (HREC.out _ (List.getElem_mem hlt) _ _ _ (by omega) (Ge.out.below (qY hb bel))).mono ?_;rintro e w1 ⟨A1, c1, bs1, rfl, r1, hs1, _, b1⟩;have T1 : Below wr.heap.size wr w1 := bel;have S1 := qY hb T1;have HG1 := qQ (HG.out.below T1);have R1 := qQ r1;have hz1 := S1.size;clear b1 T1 r1 k0e k1e k2e k3e k4e k5e k6e;go_wp2_with (
    at_builtin;refine qZZ (T := L.getD j []) rfl (.tmp 19) (.tmp 21) _ rfl _ Tryz.underlying190 Tryz.infoAcc rfl (by decide) rfl HG1.out rfl R1.out ?hys hs1 HSB.out ?hlen hz1 ?_
    case hys => intro y hy; obtain ⟨z, _, rfl⟩ := List.mem_map.1 hy; rfl
    case hlen => simp only [List.length_map]; omega
    intro v2 w2 hG2 hg2)
   rw [<- List.map_append, <- HT.out, <- HFT.out] at hG2;have HG2 := qQ hG2;have S2 := S1.trans (hg2.below hz1 fun b hb => (HG1.out.own_ge b hb).1);clear hG2 hg2;go_wp2;go_roundw
   case rel => exact ⟨j + 1, by omega, by go_num, HG2.out, S2⟩
   case measure => simp [intOf]; omega
  ·have hjj : j = x.kids.length := by omega
   subst hjj;have HX := qQ (show xU x.kids = xU (x.kids.take x.kids.length) by rw [List.take_length]);subst hfu;go_wp2;go_ret;have hr := HG.out.rep;obtain ⟨A5, c5, bs5, he5, hr5, hs5, hy5⟩ := hr;rw [List.length_map] at he5 hr5;simp only [Value.slice.injEq, true_and] at he5;obtain ⟨rfl, rfl⟩ := he5;rw [HX.out];refine ⟨_, _, bs5, rfl, hr5, ?_, hy5, hb⟩;refine (hs5.trans (wY L _)).trans (HL.out.2.1.trans ?_);exact List.sublist_append_right _ _
theorem qTO (x : Ex) : qHZ x := Ex.ind (P := qHZ) (fun x hx => qBG hx) x
end Go.Proofs.YtgogjbnneoadkaaGreat
