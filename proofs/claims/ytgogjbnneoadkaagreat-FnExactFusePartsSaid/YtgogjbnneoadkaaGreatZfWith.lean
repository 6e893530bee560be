/- The reference's program with other parts in place of some: l8With. -/
import Derived.Test.YtgogjbnneoadkaaGreatZfFin
set_option linter.all false
set_option maxHeartbeats 8000000
set_option maxRecDepth 100000
namespace Go.Proofs.YtgogjbnneoadkaaGreat
open Go.ChangeShapes Go.WideShapes Go.ChangeAt Go.RowKit Go.Deep
section
variable {P : Program} {w w' : World} {C : Nat -> Prop} {B : Nat} {e : TypeId} {size : Nat} {v : Value} {xs ys : List D}
def jM (w : World) (C : Nat -> Prop) (B : Nat) (e : TypeId) (size : Nat) (v : Value) (xs : List D) : Prop := ∃ es cb, w.ownsRow B e size v xs.length es /\ Reps w xs es cb /\ ∀ y ∈ cb, C y
theorem jM.made (w : World) {g : Nat} (C : Nat -> Prop) (e : TypeId) (size : Nat) (hg : w.heap.size = g) : jM (w.alloc (.cells #[] e)) C g e size (.slice (some ⟨g, 0, none⟩) 0 0) [] := by
 subst hg;exact ⟨[], [], ⟨by simp, .inr ⟨w.heap.size, 0, #[], rfl, qJ _, heap_alloc_new w _, qJ _, Nat.zero_le _, by simp, by simp⟩⟩, ⟨rfl, rfl⟩, by simp⟩
theorem jM.own_ge (h : jM w C B e size v xs) : ∀ b, v.ownBlock = some b -> B <= b /\ b < w.heap.size := by
 obtain ⟨es, cb, h1, _⟩ := h;exact fun b hb => uQ h1 hb
theorem jM.rep (h : jM w C B e size v xs) : ∃ A c bs, v = .slice A xs.length c /\ Rep w (.sl xs) [.slice A xs.length c] bs /\ ∀ y ∈ bs, C y ∨ v.ownBlock = some y := by
 obtain ⟨es, cb, h1, h2, h9⟩ := h;obtain ⟨A, c, bs, h3, h4, h5⟩ := Rep.of_own h1 rfl h2;refine ⟨A, c, bs, h3, h4, ?_⟩;rcases h5 with ⟨_, rfl⟩ | ⟨g, rfl, _, hg⟩
 ·simp
 ·intro y hy
  rcases List.mem_cons.1 hy with rfl | hy
  ·exact .inr hg
  ·exact .inl (h9 y hy)
theorem jM.form (h : jM w C B e size v xs) : ∃ A c, v = .slice A xs.length c /\ xs.length <= c /\ c <= maxLen := by
 obtain ⟨A, c, bs, rfl, h6, _⟩ := h.rep;obtain ⟨h1, h2, h3⟩ := h6.sl_len;exact ⟨A, c, rfl, h2, h3⟩
theorem zI {o : Oper} {a : Act} {K : Act -> World -> Prop} {Q : Exit -> Act -> World -> Prop} (s x : Operand) (t : TypeId)
  (ho : o.op = .call { callee := .builtin .append, args := #[s, x], argTypes := #[t, t] })
  (z : Value) (ht : P.underlying t = some (.slice e)) (hinfo : (P.info? e).map (fun i => (i.zero, i.size, decide (i.bytes <= 1024))) = some (some z, size, true)) (hzs : z.cells.size = size) (hsz : 0 < size) (hs : a.eval s = v) (hG : jM w C B e size v xs)
  {A : Option Addr} {m c : Nat} {bs : List Nat} (hx : a.eval x = .slice A m c) (hr : Rep w (.sl ys) [.slice A m c] bs) (hys : ∀ y ∈ ys, y.size = size) (hlt : ∀ y ∈ bs, C y) (hCB : ∀ y, C y -> y < B)
  (h63 : xs.length + ys.length <= 100000000000) (hbase : B <= w.heap.size)
  (h : ∀ v' w', jM w' C B e size v' (xs ++ ys) -> Below B w w' -> Grew w w' v v' -> K (a.put o.dst v') w') : o.wp P a w K Q := by
 obtain ⟨i, hi, hzz⟩ := Option.map_eq_some_iff.1 hinfo;simp only [Prod.mk.injEq, decide_eq_true_iff] at hzz;obtain ⟨hz, hsize, hbytes⟩ := hzz;obtain ⟨es, cb, q1, q2, q3⟩ := hG;obtain ⟨A', c', es2, cb2, he, hc1, hc2, hreps, h0⟩ := hr;simp only [List.cons.injEq, Value.slice.injEq] at he;obtain ⟨⟨rfl, rfl, rfl⟩, _⟩ := he;unfold Oper.wp execOp;rcases h0 with ⟨rfl, rfl⟩ | ⟨b, oo, rfl, rfl, hb, hcell⟩
 ·obtain ⟨Av, cv, hv, hle, hcm⟩ : ∃ A c, v = .slice A xs.length c /\ xs.length <= c /\ c <= maxLen := jM.form (C := C) (B := B) ⟨es, cb, q1, q2, q3⟩
  have hrun : (Builtin.append_ #[t, t] o.type #[v, .slice A 0 c]).run P w = .ok v w := by
   rw [hv];refine run_append_nothing w t t o.type e i ht hi Av xs.length cv hle _ ?_;rcases A with _ | ad
   ·exact Src.ofNil w ht c
   ·exact Src.ofSlice w ht ad 0 c [] (by simp) (by simp) (by simp)
  simp only [List.length_nil] at hx;simp only [ho, resolve, invoke, builtin, Sem.run_bind, Sem.run_pure, Result.andThen_ok, List.map_toArray, List.map_cons, List.map_nil, hs, hx, hrun];exact h v w (by rw [List.append_nil]; exact ⟨es, cb, q1, q2, q3⟩) (Below.refl _ _) (Grew.refl _ _)
 ·have hl2 : es2.length = ys.length * size := by rw [Reps.length _ hreps, yO ys hys]
  obtain ⟨v', w', hrun, h2, h3, _, h5⟩ := run_append_own_at (P := P) w B t o.type e i z size i.bytes ht hi hz hsize rfl hzs hsz v xs.length es q1 ⟨b, oo, none⟩ ys.length c es2 hl2
   (fun j u hu => by rw [uG]; exact (hcell j u hu).1) (Reps.one _ hreps) (by unfold maxLen; omega) (by have := Nat.mul_le_mul h63 hbytes; omega) hbase
  have hbl : Below B w w' := (Below.refl _ _).grown h3 hbase fun k hk => (uQ q1 hk).1;simp only [ho, resolve, invoke, builtin, Sem.run_bind, Sem.run_pure, Result.andThen_ok, List.map_toArray, List.map_cons, List.map_nil, hs, hx, hrun];refine h v' w' ⟨es ++ es2, cb ++ cb2, by simpa using h2, (xQ xs ys).2 ⟨es, es2, cb, cb2, rfl, rfl, Reps.keep _ q2 (.of_below hbl fun y hy => hCB y (q3 y hy)), Reps.keep _ hreps (.of_below hbl fun y hy => hCB y (hlt y (List.mem_cons_of_mem _ hy)))⟩, fun y hy => ?_⟩ hbl ⟨⟨h3.os, h3.tape, h3.output, h3.size, fun y hy hm => h3.block y hy fun e => hm (qU.2 e.symm)⟩, fun y hy => ?_⟩
  ·rcases List.mem_append.1 hy with hy | hy
   ·exact q3 y hy
   ·exact hlt y (List.mem_cons_of_mem _ hy)
  ·rcases h5 with h5 | h5
   ·rw [h5] at hy; exact .inl hy
   ·rw [h5] at hy
    have : w.heap.size = y := by simpa using hy
    exact .inr (by omega)
end
section
variable {α : Type} {f : α -> D} {w : World} {xs : List α} {n c s k : Nat} {bs : List Nat}
theorem Rep.sls_take {A : Option Addr} (h : Rep w (sls f xs) [.slice A n c] bs) (hk : k <= n) : ∃ bs', Rep w (sls f (xs.take k)) [.slice A k c] bs' /\ ∀ y ∈ bs', y ∈ bs := by
 obtain ⟨rfl, _, _⟩ := h.sls_len;obtain ⟨A', c', es, cb, he, h1, h2, hr, h0⟩ := h;simp only [List.cons.injEq, Value.slice.injEq] at he;obtain ⟨⟨rfl, _, rfl⟩, _⟩ := he;rw [List.length_map] at h1;have hm : xs.map f = (xs.take k).map f ++ (xs.drop k).map f := by rw [<- List.map_append, List.take_append_drop]
 rw [hm] at hr;obtain ⟨e0, e1, l0, l1, rfl, rfl, r0, r1⟩ := (xQ _ _).1 hr;have hlk : ((xs.take k).map f).length = k := by rw [List.length_map, List.length_take]; omega
 rcases h0 with ⟨hx, rfl⟩ | ⟨b, o, rfl, rfl, hb, hc⟩
 ·have hx0 : xs = [] := by simpa using hx
  subst hx0;obtain rfl : k = 0 := by simpa using hk
  exact ⟨[], Rep.sls_nil (by simpa using h2), by simp⟩
 ·by_cases h00 : k = 0
  ·subst h00
   exact ⟨[], Rep.sls_nil h2, by simp⟩
  ·refine ⟨b :: l0, ⟨some ⟨b, o, none⟩, c, e0, l0, by rw [hlk], by rw [hlk]; omega, h2, r0, .inr ⟨b, o, rfl, rfl, hb, fun j u hu => hc j u ?_⟩⟩, fun y hy => ?_⟩
   ·have hj : j < e0.length := by
     rcases Nat.lt_or_ge j e0.length with h | h
     ·exact h
     ·rw [List.getElem?_eq_none h] at hu; cases hu
    rw [List.getElem?_append_left hj]; exact hu
   ·rcases List.mem_cons.1 hy with rfl | hy
    ·exact List.mem_cons_self
    ·exact List.mem_cons_of_mem _ (List.mem_append_left _ hy)
theorem Rep.sls_drop {b o : Nat} (hs : ∀ x, (f x).size = s) (h : Rep w (sls f xs) [.slice (some ⟨b, o, none⟩) n c] bs) (hk : k < n) : ∃ bs', Rep w (sls f (xs.drop k)) [.slice (some ⟨b, o + k * s, none⟩) (n - k) (c - k)] bs' /\ ∀ y ∈ bs', y ∈ bs := by
 obtain ⟨rfl, _, _⟩ := h.sls_len;obtain ⟨A', c', es, cb, he, h1, h2, hr, h0⟩ := h;simp only [List.cons.injEq, Value.slice.injEq] at he;obtain ⟨⟨rfl, _, rfl⟩, _⟩ := he;rw [List.length_map] at h1;have hm : xs.map f = (xs.take k).map f ++ (xs.drop k).map f := by rw [<- List.map_append, List.take_append_drop]
 rw [hm] at hr;obtain ⟨e0, e1, l0, l1, rfl, rfl, r0, r1⟩ := (xQ _ _).1 hr;have hl0 : e0.length = k * s := by rw [Reps.length _ r0, yO (s := s) _ (fun x hx => by obtain ⟨y, _, rfl⟩ := List.mem_map.1 hx; exact hs y), List.length_map, List.length_take, Nat.min_eq_left (by omega)]
 have hlk : ((xs.drop k).map f).length = xs.length - k := by rw [List.length_map, List.length_drop]
 rcases h0 with ⟨hx, rfl⟩ | ⟨b', o', hA, rfl, hb, hc⟩
 ·have hx0 : xs = [] := by simpa using hx
  subst hx0;simp at hk
 ·simp only [Option.some.injEq, Addr.mk.injEq, and_true] at hA
  obtain ⟨rfl, rfl⟩ := hA;refine ⟨b :: l1, ⟨some ⟨b, o + k * s, none⟩, c - k, e1, l1, by rw [hlk], by rw [hlk]; omega, by omega, r1, .inr ⟨b, o + k * s, rfl, rfl, hb, fun j u hu => ?_⟩⟩, fun y hy => ?_⟩
  ·have := hc (k * s + j) u (by rw [List.getElem?_append_right (by omega), hl0, Nat.add_sub_cancel_left]; exact hu)
   rwa [<- Nat.add_assoc] at this
  ·rcases List.mem_cons.1 hy with rfl | hy
   ·exact List.mem_cons_self
   ·exact List.mem_cons_of_mem _ (List.mem_append_right _ hy)
end
theorem Rep.pgm_ofW {w : World} {xs : List Ar} {ys : List Prt} {u v : Value} {d1 d2 : List Nat} (h1 : Rep w (sls Ar.d xs) [u] d1) (h2 : Rep w (sls Prt.d ys) [v] d2) : Rep w (⟨xs, ys⟩ : Pgm).d [u, v] (d1 ++ d2) :=
 ⟨[u], [v], d1, d2, rfl, rfl, h1, [v], [], d2, [], rfl, by simp, h2, rfl, rfl⟩
def wH (p : Pgm) (k m : Nat) (ys : List Prt) : Pgm := ⟨p.arrays, p.parts.take k ++ ys ++ p.parts.drop (k + m)⟩
theorem qNC {w : World} {p : Pgm} {k m : Nat} {ys : List Prt} {cs : List Value} {bs : List Nat} {A : Option Addr} {n c : Nat} {bs2 : List Nat} (h : Rep w p.d cs bs) (h2 : Rep w (sls Prt.d ys) [.slice A n c] bs2) (hv : qMZ p) (hk : k + m <= p.parts.length) (h0 : 0 < p.parts.length) (hyl : ys.length <= 1000) :
  Calls Tryz.prog 33 #[.agg cs.toArray, .int .i64 (k : Int), .int .i64 (m : Int), .slice A n c] w (zP w (finF (wH p k m ys))) := by
 have HH := qQ h;have HY := qQ h2;have HV := qQ hv;obtain ⟨A1, c1, A2, c2, d1, d2, rfl, rfl, g1, g2⟩ := Rep.pgm_iff.1 h;have hpl : p.parts.length <= 1000000 := hv.2.2.1;obtain ⟨hyn, _, _⟩ := h2.sls_len;subst hyn;clear g1 g2 h h2 hv;go_enter Tryz.func33, Tryz.ntmps33;go_wp2_with fail;refine (qKF (HH.out.below bel) HV.out).mono ?_;rintro e w1 ⟨cs1, bs1, rfl, r1, nd1, hb1, b1⟩;obtain ⟨A1c, c1c, A2c, c2c, e1, e2, rfl, rfl, rA, rP⟩ := Rep.pgm_iff.1 r1;have X1 : BoxW w1 (w.heap.size + 1) (.slice none 0 0) (.slice none 0 0) := BoxW.to ⟨⟨by go_simp, by go_simp⟩, by go_simp, by go_simp⟩ b1;have S1 : Below w.heap.size w w1 := bel;obtain ⟨b, o, _, _, hA, _⟩ := rP.sls_at Prt.d_size h0;subst hA;have RP := qQ rP;have RA := qQ rA;have HX1 := qQ X1;have hpc := rP.sls_len;have hpc2 : p.parts.length <= c2c := hpc.2.1;have hpc3 : c2c <= 9223372036854775807 := hpc.2.2;clear hb1 nd1 b1 r1 X1 rA rP hpc;go_wp2;obtain ⟨W2, hW2⟩ : ∃ W2, W2 = (w1.alloc (.cells #[.slice A1c p.arrays.length c1c, .slice (some ⟨b, o, none⟩) p.parts.length c2c] 30)).alloc (.cells #[.slice A1c p.arrays.length c1c, .slice none 0 0] 30) := ⟨_, rfl⟩;have XC : Box2 W2 w1.heap.size (.slice A1c p.arrays.length c1c) (.slice (some ⟨b, o, none⟩) p.parts.length c2c) := by rw [hW2]; exact (Box2.new w1 _ _ _).to ((Below.refl _ _).alloc (qJ _) _)
 have XO : BoxW W2 (w1.heap.size + 1) (.slice A1c p.arrays.length c1c) (.slice none 0 0) := by
  rw [hW2];have := BoxW.new (w1.alloc (.cells #[.slice A1c p.arrays.length c1c, .slice (some ⟨b, o, none⟩) p.parts.length c2c] 30)) (.slice A1c p.arrays.length c1c) (.slice none 0 0) 30
  rwa [show (w1.alloc (.cells #[.slice A1c p.arrays.length c1c, .slice (some ⟨b, o, none⟩) p.parts.length c2c] 30)).heap.size = w1.heap.size + 1 by simp] at this
 have T2 : Below w1.heap.size w1 W2 := by rw [hW2]; exact zZ (zZ (Below.refl _ _) _) _
 have hz2 : W2.heap.size = w1.heap.size + 2 := by rw [hW2]; simp
 rw [<- hW2];clear hW2;obtain ⟨bt, RT, hbt⟩ := (RP.out.below T2).sls_take (k := k) (by omega);have hlP : ∀ y ∈ e2, y < w1.heap.size := fun y hy => Rep.lt _ RP.out y hy;have HT := qQ (qV RT (fun y hy => hlP y (hbt y hy) : ∀ y ∈ bt, y < w1.heap.size));have RY2 := HY.out.below (qY S1 T2);have HYY := qQ (qV RY2 (fun y hy => by have := Rep.lt _ HY.out y hy; have := S1.size; omega : ∀ y ∈ bs2, y < w1.heap.size));have HLP := qQ hlP;clear RT hbt RY2 hlP;have hw1 : IntKind.i64.wrap ((k : Int) + (m : Int)) = (k : Int) + (m : Int) := by rw [IntKind.wrap_i64]; omega
 have htn : ((k : Int) + (m : Int)).toNat = k + m := by omega
 have hq0 : (0 : Int) <= (k : Int) + (m : Int) := by omega
 have hq1 : (k : Int) + (m : Int) <= (p.parts.length : Int) := by omega
 have hq2 : k <= c2c := by omega
 have hq3 : k + m <= p.parts.length := hk;have hg2 : w1.heap.size + 1 ≠ w1.heap.size := by omega
 obtain ⟨A3, b3, RD, hbd, hA3⟩ : ∃ A3 b3, Rep W2 (sls Prt.d (p.parts.drop (k + m))) [.slice A3 (p.parts.length - (k + m)) (c2c - (k + m))] b3 /\ (∀ y ∈ b3, y < w1.heap.size) /\ A3 = (if c2c = k + m then some ⟨b, o, none⟩ else some ⟨b, o + (k + m) * 2, none⟩) := by
  have hm0 : c2c - (k + m) <= maxLen := by unfold maxLen; omega
  rcases Nat.lt_or_ge (k + m) p.parts.length with hlt | hge
  ·obtain ⟨b3, q1, q2⟩ := (RP.out.below T2).sls_drop Prt.d_size hlt
   exact ⟨_, b3, q1, fun y hy => HLP.out y (q2 y hy), by rw [if_neg (by omega)]⟩
  ·rw [List.drop_eq_nil_of_le hge, show p.parts.length - (k + m) = 0 by omega]
   exact ⟨_, [], Rep.sls_nil hm0, by simp, rfl⟩
 have HD := qQ (qV RD hbd);clear RD hbd;have HXO := qQ XO;obtain ⟨⟨x0, x1⟩, x2, x3⟩ := XO;have ltx := qW x0;by_cases hcq : c2c = k + m
 case pos =>
  rw [if_pos hcq] at hA3;subst hA3;have hcF : (c2c = k + m) = True := eq_true hcq;clear hcq;refine wp_region_noPanic ?_;refine wp_region_held_drew (S := fun w' => Box2 w' w1.heap.size (.slice A1c p.arrays.length c1c) (.slice (some ⟨b, o, none⟩) p.parts.length c2c)) (by kernel_rfl) (XC) (fun hHeld => ?_);refine goR 1 hHeld ?_;refine goR 2 hHeld ?_;refine goR 3 hHeld ?_;refine qVH (i := 4) (v := ?_) rfl rfl (by kernel_rfl) (by kernel_rfl) (by kernel_rfl) (fun _ _ _ h => h) ?_ hHeld ?_;rotate_left 1
  ·intro w hSw; (try dsimp only at hSw); go_simp
   try simp only [hw1, htn, hq0, hq1, hq2, hq3, hcF, if_true, if_false, Nat.zero_add, Int.toNat_natCast]
   try with_reducible rfl
  simp only [Act.put, aq0, aq1, aq2];refine goR 6 hHeld ?_;refine goR 8 hHeld ?_;refine goR 9 hHeld ?_;refine goR 10 hHeld ?_;refine goR 11 hHeld ?_;refine qVH (i := 12) (v := ?_) rfl rfl (by kernel_rfl) (by kernel_rfl) (by kernel_rfl) (fun _ _ _ h => h) ?_ hHeld ?_;rotate_left 1
  ·intro w hSw; (try dsimp only at hSw); go_simp
   try simp only [hw1, htn, hq0, hq1, hq2, hq3, hcF, if_true, if_false, Nat.zero_add, Int.toNat_natCast]
   try with_reducible rfl
  simp only [Act.put, aq0, aq1, aq2];refine qVH (i := 13) (v := ?_) rfl rfl (by kernel_rfl) (by kernel_rfl) (by kernel_rfl) (fun _ _ _ h => h) ?_ hHeld ?_;rotate_left 1
  ·intro w hSw; (try dsimp only at hSw); go_simp
   try simp only [hw1, htn, hq0, hq1, hq2, hq3, hcF, if_true, if_false, Nat.zero_add, Int.toNat_natCast]
   try with_reducible rfl
  simp only [Act.put, aq0, aq1, aq2];refine zF (i := 0) rfl (by kernel_rfl) (qK rfl) (fun K hK => ?_)
  (unfold Oper.wp; go_simp)
  refine hK.out _ _ (hHeld.to ((Below.refl _ _).alloc (qJ _) _)) (fun hHeld => ?_);clear hK K
  try simp only [Act.put, aq0, aq1, aq2]
  refine zF (i := 5) rfl (by kernel_rfl) (qK rfl) (fun K hK => ?_)
  (refine zI (C := (· < w1.heap.size)) (B := w1.heap.size + 2) (xs := []) (ys := (p.parts.take k).map Prt.d) (.tmp 17) (.tmp 21) _ rfl _ Tryz.underlying28 Tryz.infoPart rfl (by decide) rfl ?hG5 rfl (HT.out.1.below bel) ?hys5 HT.out.2 (fun y hy => by have h9 : y < w1.heap.size := hy; omega) ?hl5 ?hb5 ?_; (case hys5 => (intro y hy; obtain ⟨z, _, rfl⟩ := List.mem_map.1 hy; exact Prt.d_size z)); (case hl5 => (simp only [List.length_append, List.length_map, List.length_take, List.length_drop, List.length_nil]; omega)); (case hb5 => (simp; omega)); (case hG5 => (first | exact jM.made W2.drew _ _ _ hz2 | exact jM.made W2 _ _ _ hz2)); intro v5 w5 hG5 b5 _; obtain ⟨A5, c5, hf5, _, _⟩ := hG5.form; subst hf5; have z5 := b5.size; (try simp at z5); have B5 : Below W2.heap.size W2 w5 := by (rw [hz2]; exact Below.trans (by rw [<- hz2]; exact bel) b5))
  refine hK.out _ _ (⟨(b5.cell (p := ⟨w1.heap.size, 0, none⟩) (by first | (simp; done) | (simp; omega) | omega)).trans hHeld.1, (b5.cell (p := ⟨w1.heap.size, 1, none⟩) (by first | (simp; done) | (simp; omega) | omega)).trans hHeld.2⟩) (fun hHeld => ?_);clear hK K
  try simp only [Act.put, aq0, aq1, aq2]
  refine zF (i := 7) rfl (by kernel_rfl) (qK rfl) (fun K hK => ?_)
  (refine zI (C := (· < w1.heap.size)) (B := w1.heap.size + 2) (xs := ([] ++ (p.parts.take k).map Prt.d)) (ys := ys.map Prt.d) (.tmp 22) (.tmp 23) _ rfl _ Tryz.underlying28 Tryz.infoPart rfl (by decide) rfl hG5 rfl (HYY.out.1.below B5) ?hys7 HYY.out.2 (fun y hy => by have h9 : y < w1.heap.size := hy; omega) ?hl7 ?hb7 ?_; (case hys7 => (intro y hy; obtain ⟨z, _, rfl⟩ := List.mem_map.1 hy; exact Prt.d_size z)); (case hl7 => (simp only [List.length_append, List.length_map, List.length_take, List.length_drop, List.length_nil]; omega)); (case hb7 => omega); intro v7 w7 hG7 b7 _; obtain ⟨A7, c7, hf7, _, _⟩ := hG7.form; subst hf7; have z7 := b7.size; have B7 : Below W2.heap.size W2 w7 := B5.trans (b7.mono (Nat.le_of_eq hz2)))
  refine hK.out _ _ (⟨(b7.cell (p := ⟨w1.heap.size, 0, none⟩) (by first | (simp; done) | (simp; omega) | omega)).trans hHeld.1, (b7.cell (p := ⟨w1.heap.size, 1, none⟩) (by first | (simp; done) | (simp; omega) | omega)).trans hHeld.2⟩) (fun hHeld => ?_);clear hK K
  try simp only [Act.put, aq0, aq1, aq2]
  refine zF (i := 14) rfl (by kernel_rfl) (qK rfl) (fun K hK => ?_)
  (refine zI (C := (· < w1.heap.size)) (B := w1.heap.size + 2) (xs := ([] ++ (p.parts.take k).map Prt.d ++ ys.map Prt.d)) (ys := (p.parts.drop (k + m)).map Prt.d) (.tmp 24) (.tmp 30) _ rfl _ Tryz.underlying28 Tryz.infoPart rfl (by decide) rfl hG7 rfl (HD.out.1.below B7) ?hys14 HD.out.2 (fun y hy => by have h9 : y < w1.heap.size := hy; omega) ?hl14 ?hb14 ?_; (case hys14 => (intro y hy; obtain ⟨z, _, rfl⟩ := List.mem_map.1 hy; exact Prt.d_size z)); (case hl14 => (simp only [List.length_append, List.length_map, List.length_take, List.length_drop, List.length_nil]; omega)); (case hb14 => omega); intro v14 w14 hG14 b14 _; obtain ⟨A14, c14, bs14, hf14, r14, hbs14⟩ := hG14.rep; obtain ⟨N14, hN14⟩ : ∃ N, N = ([] ++ (p.parts.take k).map Prt.d ++ ys.map Prt.d ++ (p.parts.drop (k + m)).map Prt.d).length := ⟨_, rfl⟩; rw [<- hN14] at hf14 r14; subst hf14; have R14 := qQ (show Rep w14 (.sl ([] ++ (p.parts.take k).map Prt.d ++ ys.map Prt.d ++ (p.parts.drop (k + m)).map Prt.d)) [.slice A14 N14 c14] bs14 /\ ∀ y ∈ bs14, y < w1.heap.size ∨ w1.heap.size + 2 <= y from ⟨r14, fun y hy => (hbs14 y hy).imp id (fun h => (hG14.own_ge y h).1)⟩); clear hN14 r14 hbs14 hG14; have z14 := b14.size; have B14 : Below W2.heap.size W2 w14 := B7.trans (b14.mono (Nat.le_of_eq hz2)); obtain ⟨⟨y0, y1⟩, y2, y3⟩ := HXO.out.to B14; have lty := qW y0)
  refine hK.out _ _ (⟨(b14.cell (p := ⟨w1.heap.size, 0, none⟩) (by first | (simp; done) | (simp; omega) | omega)).trans hHeld.1, (b14.cell (p := ⟨w1.heap.size, 1, none⟩) (by first | (simp; done) | (simp; omega) | omega)).trans hHeld.2⟩) (fun hHeld => ?_);clear hK K
  try simp only [Act.put, aq0, aq1, aq2]
  refine goR 15 hHeld ?_;refine zF (i := 16) rfl (by kernel_rfl) (qK rfl) (fun K hK => ?_)
  (unfold Oper.wp; go_simp)
  refine hK.out _ _ ((Box2.set hHeld (p := ⟨w1.heap.size + 1, 1, none⟩) (by simp) _)) (fun hHeld => ?_);clear hK K
  try simp only [Act.put, aq0, aq1, aq2]
  refine wpAnyH_done (by kernel_rfl) ?_ _;refine NoPanic.normal ?_;have SA : Below w.heap.size w w14 := qY S1 (qY T2 (B14.mono (Nat.le_of_eq rfl)));have hno : ∀ y ∈ e1 ++ bs14, y ≠ w1.heap.size + 1 := fun y hy => by
   rcases List.mem_append.1 hy with h | h
   ·have := Rep.lt _ RA.out y h; omega
   ·rcases R14.out.2 y h with h | h <;> omega
  have RQ : Rep (w14.setCell ⟨w1.heap.size + 1, 1, none⟩ (.slice A14 N14 c14)) (wH p k m ys).d [.slice A1c p.arrays.length c1c, .slice A14 N14 c14] (e1 ++ bs14) := by
   refine Rep.pgm_ofW (Rep.keep _ (RA.out.below (qY T2 B14)) ((qD.refl _ _).setCell (fun hm => hno _ (List.mem_append_left _ hm) rfl) _)) (Rep.keep _ ?_ ((qD.refl _ _).setCell (fun hm => hno _ (List.mem_append_right _ hm) rfl) _));have := R14.out.1;rw [List.nil_append, <- List.map_append, <- List.map_append] at this;exact this
  have HRQ := qQ RQ;have S15 : Below w.heap.size w (w14.setCell ⟨w1.heap.size + 1, 1, none⟩ (.slice A14 N14 c14)) := SA.setCell (by have := S1.size; simp; omega) _;have XR := qQ (show BoxW (w14.setCell ⟨w1.heap.size + 1, 1, none⟩ (.slice A14 N14 c14)) (w.heap.size + 1) (.slice none 0 0) (.slice none 0 0) from by
   have h := (HX1.out.to (qY T2 B14));have hl1 := qW HX1.out.1.1;exact ⟨Box2.set h.1 (by simp; omega) _, by rw [World.frozen?_setCell]; exact h.2.1, by rw [World.frozen?_setCell]; exact h.2.2⟩)
  have XO9 := qQ (show BoxW (w14.setCell ⟨w1.heap.size + 1, 1, none⟩ (.slice A14 N14 c14)) (w1.heap.size + 1) (.slice A1c p.arrays.length c1c) (.slice A14 N14 c14) from by
   have h := HXO.out.to B14;exact ⟨⟨by rw [World.cell?_setCell_other _ _ _ _ (by simp)]; exact h.1.1, World.cell?_setCell_same _ _ _ h.1.2⟩, by rw [World.frozen?_setCell]; exact h.2.1, by rw [World.frozen?_setCell]; exact h.2.2⟩)
  obtain ⟨W5, hW5⟩ : ∃ W, W = w14.setCell ⟨w1.heap.size + 1, 1, none⟩ (.slice A14 N14 c14) := ⟨_, rfl⟩;rw [<- hW5] at HRQ S15 XR XO9 ⊢;obtain ⟨⟨y0', y1'⟩, _, _⟩ := XO9.out;have hz5 := qW y0';clear hW5 RQ hno SA R14 B14 b14 z14 y0 y1 y2 y3 lty hHeld HT HYY HD
  cases hok : zK (wH p k m ys) with
  | false =>
   have HF := qQ (show finF (wH p k m ys) = (⟨[], []⟩, false) by simp [finF, hok]);have HOK := qQ hok; clear hok;rw [HF.out];go_wp2_with fail;refine (zH (HRQ.out.below bel)).mono ?_;rintro e w6 ⟨rfl, b6⟩;rw [HOK.out];obtain ⟨⟨r0, r1⟩, r2, r3⟩ := XR.out.to b6;have ltr := qW r0;have S6 : Below w.heap.size w w6 := qY S15 b6;go_wp2;exact bodyPost_ret (v := .tuple #[.agg #[.slice none 0 0, .slice none 0 0], .bool false]) (by simp [results, Tryz.results33, go_sem, r0, r1, ltr]) rfl (by rw [HF.out]; exact zP.nil ((S6.setCell (by simp) _).setCell (by simp) _))
  | true =>
   have HF := qQ (show finF (wH p k m ys) = (wH p k m ys, true) by simp [finF, hok]);have HSM := qQ (wS hok);have HOK := qQ hok; clear hok;rw [HF.out];go_wp2_with fail;refine (zH (HRQ.out.below bel)).mono ?_;rintro e w6 ⟨rfl, b6⟩;rw [HOK.out];have XO6 := XO9.out.to b6;obtain ⟨⟨t0, t1⟩, _, _⟩ := XO6;have ltt := qW t0;have S6 : Below w.heap.size w w6 := qY S15 b6;have RQ6 := qQ (HRQ.out.below b6);have XR6 := qQ (XR.out.to b6);clear b6;go_wp2_with fail;refine (qKF RQ6.out HSM.out).mono ?_;rintro e w7 ⟨cs7, bs7, rfl, r7, nd7, hb7, b7'⟩;obtain ⟨A1f, c1f, A2f, c2f, f1, f2, rfl, _, _, _⟩ := Rep.pgm_iff.1 r7;obtain ⟨⟨r0, r1⟩, r2, r3⟩ := XR6.out.to b7';have ltr := qW r0;have hl6 := qW XR6.out.1.1;have S7 : Below w.heap.size w w7 := qY S6 b7';have hnb : w.heap.size + 1 ∉ bs7 := fun hm => by have := hb7 _ hm; omega
   have R7 := qQ (qV r7 (qV nd7 hb7));clear r7 nd7 hb7 b7';go_wp2;exact bodyPost_ret (v := .tuple #[.agg #[.slice A1f (wH p k m ys).arrays.length c1f, .slice A2f (wH p k m ys).parts.length c2f], .bool true]) (by simp [results, Tryz.results33, go_sem, r0, r1, ltr]) rfl (by rw [HF.out]; exact ⟨A1f, c1f, A2f, c2f, bs7, rfl, Rep.keep _ R7.out.1 (((qD.refl _ _).setCell hnb _).setCell hnb _), R7.out.2.1, fun y hy => by have := R7.out.2.2 y hy; have := S6.size; omega, (S7.setCell (by simp) _).setCell (by simp) _⟩)
 case neg =>
  rw [if_neg hcq] at hA3;subst hA3;have hcF : (c2c = k + m) = False := eq_false hcq;clear hcq;refine wp_region_noPanic ?_;refine wp_region_held_drew (S := fun w' => Box2 w' w1.heap.size (.slice A1c p.arrays.length c1c) (.slice (some ⟨b, o, none⟩) p.parts.length c2c)) (by kernel_rfl) (XC) (fun hHeld => ?_);refine goR 1 hHeld ?_;refine goR 2 hHeld ?_;refine goR 3 hHeld ?_;refine qVH (i := 4) (v := ?_) rfl rfl (by kernel_rfl) (by kernel_rfl) (by kernel_rfl) (fun _ _ _ h => h) ?_ hHeld ?_;rotate_left 1
  ·intro w hSw; (try dsimp only at hSw); go_simp
   try simp only [hw1, htn, hq0, hq1, hq2, hq3, hcF, if_true, if_false, Nat.zero_add, Int.toNat_natCast]
   try with_reducible rfl
  simp only [Act.put, aq0, aq1, aq2];refine goR 6 hHeld ?_;refine goR 8 hHeld ?_;refine goR 9 hHeld ?_;refine goR 10 hHeld ?_;refine goR 11 hHeld ?_;refine qVH (i := 12) (v := ?_) rfl rfl (by kernel_rfl) (by kernel_rfl) (by kernel_rfl) (fun _ _ _ h => h) ?_ hHeld ?_;rotate_left 1
  ·intro w hSw; (try dsimp only at hSw); go_simp
   try simp only [hw1, htn, hq0, hq1, hq2, hq3, hcF, if_true, if_false, Nat.zero_add, Int.toNat_natCast]
   try with_reducible rfl
  simp only [Act.put, aq0, aq1, aq2];refine qVH (i := 13) (v := ?_) rfl rfl (by kernel_rfl) (by kernel_rfl) (by kernel_rfl) (fun _ _ _ h => h) ?_ hHeld ?_;rotate_left 1
  ·intro w hSw; (try dsimp only at hSw); go_simp
   try simp only [hw1, htn, hq0, hq1, hq2, hq3, hcF, if_true, if_false, Nat.zero_add, Int.toNat_natCast]
   try with_reducible rfl
  simp only [Act.put, aq0, aq1, aq2];refine zF (i := 0) rfl (by kernel_rfl) (qK rfl) (fun K hK => ?_)
  (unfold Oper.wp; go_simp)
  refine hK.out _ _ (hHeld.to ((Below.refl _ _).alloc (qJ _) _)) (fun hHeld => ?_);clear hK K
  try simp only [Act.put, aq0, aq1, aq2]
  refine zF (i := 5) rfl (by kernel_rfl) (qK rfl) (fun K hK => ?_)
  (refine zI (C := (· < w1.heap.size)) (B := w1.heap.size + 2) (xs := []) (ys := (p.parts.take k).map Prt.d) (.tmp 17) (.tmp 21) _ rfl _ Tryz.underlying28 Tryz.infoPart rfl (by decide) rfl ?hG5 rfl (HT.out.1.below bel) ?hys5 HT.out.2 (fun y hy => by have h9 : y < w1.heap.size := hy; omega) ?hl5 ?hb5 ?_; (case hys5 => (intro y hy; obtain ⟨z, _, rfl⟩ := List.mem_map.1 hy; exact Prt.d_size z)); (case hl5 => (simp only [List.length_append, List.length_map, List.length_take, List.length_drop, List.length_nil]; omega)); (case hb5 => (simp; omega)); (case hG5 => (first | exact jM.made W2.drew _ _ _ hz2 | exact jM.made W2 _ _ _ hz2)); intro v5 w5 hG5 b5 _; obtain ⟨A5, c5, hf5, _, _⟩ := hG5.form; subst hf5; have z5 := b5.size; (try simp at z5); have B5 : Below W2.heap.size W2 w5 := by (rw [hz2]; exact Below.trans (by rw [<- hz2]; exact bel) b5))
  refine hK.out _ _ (⟨(b5.cell (p := ⟨w1.heap.size, 0, none⟩) (by first | (simp; done) | (simp; omega) | omega)).trans hHeld.1, (b5.cell (p := ⟨w1.heap.size, 1, none⟩) (by first | (simp; done) | (simp; omega) | omega)).trans hHeld.2⟩) (fun hHeld => ?_);clear hK K
  try simp only [Act.put, aq0, aq1, aq2]
  refine zF (i := 7) rfl (by kernel_rfl) (qK rfl) (fun K hK => ?_)
  (refine zI (C := (· < w1.heap.size)) (B := w1.heap.size + 2) (xs := ([] ++ (p.parts.take k).map Prt.d)) (ys := ys.map Prt.d) (.tmp 22) (.tmp 23) _ rfl _ Tryz.underlying28 Tryz.infoPart rfl (by decide) rfl hG5 rfl (HYY.out.1.below B5) ?hys7 HYY.out.2 (fun y hy => by have h9 : y < w1.heap.size := hy; omega) ?hl7 ?hb7 ?_; (case hys7 => (intro y hy; obtain ⟨z, _, rfl⟩ := List.mem_map.1 hy; exact Prt.d_size z)); (case hl7 => (simp only [List.length_append, List.length_map, List.length_take, List.length_drop, List.length_nil]; omega)); (case hb7 => omega); intro v7 w7 hG7 b7 _; obtain ⟨A7, c7, hf7, _, _⟩ := hG7.form; subst hf7; have z7 := b7.size; have B7 : Below W2.heap.size W2 w7 := B5.trans (b7.mono (Nat.le_of_eq hz2)))
  refine hK.out _ _ (⟨(b7.cell (p := ⟨w1.heap.size, 0, none⟩) (by first | (simp; done) | (simp; omega) | omega)).trans hHeld.1, (b7.cell (p := ⟨w1.heap.size, 1, none⟩) (by first | (simp; done) | (simp; omega) | omega)).trans hHeld.2⟩) (fun hHeld => ?_);clear hK K
  try simp only [Act.put, aq0, aq1, aq2]
  refine zF (i := 14) rfl (by kernel_rfl) (qK rfl) (fun K hK => ?_)
  (refine zI (C := (· < w1.heap.size)) (B := w1.heap.size + 2) (xs := ([] ++ (p.parts.take k).map Prt.d ++ ys.map Prt.d)) (ys := (p.parts.drop (k + m)).map Prt.d) (.tmp 24) (.tmp 30) _ rfl _ Tryz.underlying28 Tryz.infoPart rfl (by decide) rfl hG7 rfl (HD.out.1.below B7) ?hys14 HD.out.2 (fun y hy => by have h9 : y < w1.heap.size := hy; omega) ?hl14 ?hb14 ?_; (case hys14 => (intro y hy; obtain ⟨z, _, rfl⟩ := List.mem_map.1 hy; exact Prt.d_size z)); (case hl14 => (simp only [List.length_append, List.length_map, List.length_take, List.length_drop, List.length_nil]; omega)); (case hb14 => omega); intro v14 w14 hG14 b14 _; obtain ⟨A14, c14, bs14, hf14, r14, hbs14⟩ := hG14.rep; obtain ⟨N14, hN14⟩ : ∃ N, N = ([] ++ (p.parts.take k).map Prt.d ++ ys.map Prt.d ++ (p.parts.drop (k + m)).map Prt.d).length := ⟨_, rfl⟩; rw [<- hN14] at hf14 r14; subst hf14; have R14 := qQ (show Rep w14 (.sl ([] ++ (p.parts.take k).map Prt.d ++ ys.map Prt.d ++ (p.parts.drop (k + m)).map Prt.d)) [.slice A14 N14 c14] bs14 /\ ∀ y ∈ bs14, y < w1.heap.size ∨ w1.heap.size + 2 <= y from ⟨r14, fun y hy => (hbs14 y hy).imp id (fun h => (hG14.own_ge y h).1)⟩); clear hN14 r14 hbs14 hG14; have z14 := b14.size; have B14 : Below W2.heap.size W2 w14 := B7.trans (b14.mono (Nat.le_of_eq hz2)); obtain ⟨⟨y0, y1⟩, y2, y3⟩ := HXO.out.to B14; have lty := qW y0)
  refine hK.out _ _ (⟨(b14.cell (p := ⟨w1.heap.size, 0, none⟩) (by first | (simp; done) | (simp; omega) | omega)).trans hHeld.1, (b14.cell (p := ⟨w1.heap.size, 1, none⟩) (by first | (simp; done) | (simp; omega) | omega)).trans hHeld.2⟩) (fun hHeld => ?_);clear hK K
  try simp only [Act.put, aq0, aq1, aq2]
  refine goR 15 hHeld ?_;refine zF (i := 16) rfl (by kernel_rfl) (qK rfl) (fun K hK => ?_)
  (unfold Oper.wp; go_simp)
  refine hK.out _ _ ((Box2.set hHeld (p := ⟨w1.heap.size + 1, 1, none⟩) (by simp) _)) (fun hHeld => ?_);clear hK K
  try simp only [Act.put, aq0, aq1, aq2]
  refine wpAnyH_done (by kernel_rfl) ?_ _;refine NoPanic.normal ?_;have SA : Below w.heap.size w w14 := qY S1 (qY T2 (B14.mono (Nat.le_of_eq rfl)));have hno : ∀ y ∈ e1 ++ bs14, y ≠ w1.heap.size + 1 := fun y hy => by
   rcases List.mem_append.1 hy with h | h
   ·have := Rep.lt _ RA.out y h; omega
   ·rcases R14.out.2 y h with h | h <;> omega
  have RQ : Rep (w14.setCell ⟨w1.heap.size + 1, 1, none⟩ (.slice A14 N14 c14)) (wH p k m ys).d [.slice A1c p.arrays.length c1c, .slice A14 N14 c14] (e1 ++ bs14) := by
   refine Rep.pgm_ofW (Rep.keep _ (RA.out.below (qY T2 B14)) ((qD.refl _ _).setCell (fun hm => hno _ (List.mem_append_left _ hm) rfl) _)) (Rep.keep _ ?_ ((qD.refl _ _).setCell (fun hm => hno _ (List.mem_append_right _ hm) rfl) _));have := R14.out.1;rw [List.nil_append, <- List.map_append, <- List.map_append] at this;exact this
  have HRQ := qQ RQ;have S15 : Below w.heap.size w (w14.setCell ⟨w1.heap.size + 1, 1, none⟩ (.slice A14 N14 c14)) := SA.setCell (by have := S1.size; simp; omega) _;have XR := qQ (show BoxW (w14.setCell ⟨w1.heap.size + 1, 1, none⟩ (.slice A14 N14 c14)) (w.heap.size + 1) (.slice none 0 0) (.slice none 0 0) from by
   have h := (HX1.out.to (qY T2 B14));have hl1 := qW HX1.out.1.1;exact ⟨Box2.set h.1 (by simp; omega) _, by rw [World.frozen?_setCell]; exact h.2.1, by rw [World.frozen?_setCell]; exact h.2.2⟩)
  have XO9 := qQ (show BoxW (w14.setCell ⟨w1.heap.size + 1, 1, none⟩ (.slice A14 N14 c14)) (w1.heap.size + 1) (.slice A1c p.arrays.length c1c) (.slice A14 N14 c14) from by
   have h := HXO.out.to B14;exact ⟨⟨by rw [World.cell?_setCell_other _ _ _ _ (by simp)]; exact h.1.1, World.cell?_setCell_same _ _ _ h.1.2⟩, by rw [World.frozen?_setCell]; exact h.2.1, by rw [World.frozen?_setCell]; exact h.2.2⟩)
  obtain ⟨W5, hW5⟩ : ∃ W, W = w14.setCell ⟨w1.heap.size + 1, 1, none⟩ (.slice A14 N14 c14) := ⟨_, rfl⟩;rw [<- hW5] at HRQ S15 XR XO9 ⊢;obtain ⟨⟨y0', y1'⟩, _, _⟩ := XO9.out;have hz5 := qW y0';clear hW5 RQ hno SA R14 B14 b14 z14 y0 y1 y2 y3 lty hHeld HT HYY HD
  cases hok : zK (wH p k m ys) with
  | false =>
   have HF := qQ (show finF (wH p k m ys) = (⟨[], []⟩, false) by simp [finF, hok]);have HOK := qQ hok; clear hok;rw [HF.out];go_wp2_with fail;refine (zH (HRQ.out.below bel)).mono ?_;rintro e w6 ⟨rfl, b6⟩;rw [HOK.out];obtain ⟨⟨r0, r1⟩, r2, r3⟩ := XR.out.to b6;have ltr := qW r0;have S6 : Below w.heap.size w w6 := qY S15 b6;go_wp2;exact bodyPost_ret (v := .tuple #[.agg #[.slice none 0 0, .slice none 0 0], .bool false]) (by simp [results, Tryz.results33, go_sem, r0, r1, ltr]) rfl (by rw [HF.out]; exact zP.nil ((S6.setCell (by simp) _).setCell (by simp) _))
  | true =>
   have HF := qQ (show finF (wH p k m ys) = (wH p k m ys, true) by simp [finF, hok]);have HSM := qQ (wS hok);have HOK := qQ hok; clear hok;rw [HF.out];go_wp2_with fail;refine (zH (HRQ.out.below bel)).mono ?_;rintro e w6 ⟨rfl, b6⟩;rw [HOK.out];have XO6 := XO9.out.to b6;obtain ⟨⟨t0, t1⟩, _, _⟩ := XO6;have ltt := qW t0;have S6 : Below w.heap.size w w6 := qY S15 b6;have RQ6 := qQ (HRQ.out.below b6);have XR6 := qQ (XR.out.to b6);clear b6;go_wp2_with fail;refine (qKF RQ6.out HSM.out).mono ?_;rintro e w7 ⟨cs7, bs7, rfl, r7, nd7, hb7, b7'⟩;obtain ⟨A1f, c1f, A2f, c2f, f1, f2, rfl, _, _, _⟩ := Rep.pgm_iff.1 r7;obtain ⟨⟨r0, r1⟩, r2, r3⟩ := XR6.out.to b7';have ltr := qW r0;have hl6 := qW XR6.out.1.1;have S7 : Below w.heap.size w w7 := qY S6 b7';have hnb : w.heap.size + 1 ∉ bs7 := fun hm => by have := hb7 _ hm; omega
   have R7 := qQ (qV r7 (qV nd7 hb7));clear r7 nd7 hb7 b7';go_wp2;exact bodyPost_ret (v := .tuple #[.agg #[.slice A1f (wH p k m ys).arrays.length c1f, .slice A2f (wH p k m ys).parts.length c2f], .bool true]) (by simp [results, Tryz.results33, go_sem, r0, r1, ltr]) rfl (by rw [HF.out]; exact ⟨A1f, c1f, A2f, c2f, bs7, rfl, Rep.keep _ R7.out.1 (((qD.refl _ _).setCell hnb _).setCell hnb _), R7.out.2.1, fun y hy => by have := R7.out.2.2 y hy; have := S6.size; omega, (S7.setCell (by simp) _).setCell (by simp) _⟩)
end Go.Proofs.YtgogjbnneoadkaaGreat
