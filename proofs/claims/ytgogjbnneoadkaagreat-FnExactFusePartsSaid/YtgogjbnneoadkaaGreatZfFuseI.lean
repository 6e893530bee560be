/- FuseParts of the program. -/
import Derived.Test.YtgogjbnneoadkaaGreatZfBegun
import Derived.Test.YtgogjbnneoadkaaGreatZfDelP
set_option linter.all false
set_option maxHeartbeats 16000000
set_option maxRecDepth 100000
namespace Go.Proofs.YtgogjbnneoadkaaGreat
open Go.ChangeShapes Go.WideShapes Go.ChangeAt Go.RowKit Go.Deep
theorem qUH {P : Program} {w : World} {B : Nat} {e : TypeId} {size : Nat} {v : Value} {xs ys : List D} {es : List Value} {cb : List Nat} {o : Oper} {a : Act} {K : Act -> World -> Prop} {Q : Exit -> Act -> World -> Prop} (s x : Operand) (t : TypeId)
  (ho : o.op = .call { callee := .builtin .append, args := #[s, x], argTypes := #[t, t] })
  (z : Value) (ht : P.underlying t = some (.slice e)) (hinfo : (P.info? e).map (fun i => (i.zero, i.size, decide (i.bytes <= 1024))) = some (some z, size, true)) (hzs : z.cells.size = size) (hsz : 0 < size) (hs : a.eval s = v)
  (q1 : w.ownsRow B e size v xs.length es) (q2 : Reps w xs es cb) (q3 : ∀ g, v.ownBlock = some g -> g ∉ cb) (hf : ∃ A c, v = .slice A xs.length c /\ xs.length <= c /\ c <= maxLen)
  {A : Option Addr} {m c : Nat} {bs : List Nat} (hx : a.eval x = .slice A m c) (hr : Rep w (.sl ys) [.slice A m c] bs) (hys : ∀ y ∈ ys, y.size = size) (q4 : ∀ g, v.ownBlock = some g -> g ∉ bs)
  (h63 : xs.length + ys.length <= 100000000000) (hbase : B <= w.heap.size)
  (h : ∀ v' w' es' cb', w'.ownsRow B e size v' (xs ++ ys).length es' -> Reps w' (xs ++ ys) es' cb' -> (∀ y ∈ cb', y ∈ cb ∨ y ∈ bs) -> Grew w w' v v' -> K (a.put o.dst v') w') : o.wp P a w K Q := by
 obtain ⟨i, hi, hzz⟩ := Option.map_eq_some_iff.1 hinfo;simp only [Prod.mk.injEq, decide_eq_true_iff] at hzz;obtain ⟨hz, hsize, hbytes⟩ := hzz;obtain ⟨A', c', es2, cb2, he, hc1, hc2, hreps, h0⟩ := hr;simp only [List.cons.injEq, Value.slice.injEq] at he;obtain ⟨⟨rfl, rfl, rfl⟩, _⟩ := he;unfold Oper.wp execOp;rcases h0 with ⟨rfl, rfl⟩ | ⟨b, oo, rfl, rfl, hb, hcell⟩
 ·obtain ⟨Av, cv, hv, hle, hcm⟩ := hf
  have hrun : (Builtin.append_ #[t, t] o.type #[v, .slice A 0 c]).run P w = .ok v w := by
   rw [hv];refine run_append_nothing w t t o.type e i ht hi Av xs.length cv hle _ ?_;rcases A with _ | ad
   ·exact Src.ofNil w ht c
   ·exact Src.ofSlice w ht ad 0 c [] (by simp) (by simp) (by simp)
  simp only [List.length_nil] at hx;simp only [ho, resolve, invoke, builtin, Sem.run_bind, Sem.run_pure, Result.andThen_ok, List.map_toArray, List.map_cons, List.map_nil, hs, hx, hrun];exact h v w es cb (by rw [List.append_nil]; exact q1) (by rw [List.append_nil]; exact q2) (fun y hy => .inl hy) (Grew.refl _ _)
 ·have hl2 : es2.length = ys.length * size := by rw [Reps.length _ hreps, yO ys hys]
  obtain ⟨v', w', hrun, h2, h3, _, h5⟩ := run_append_own_at (P := P) w B t o.type e i z size i.bytes ht hi hz hsize rfl hzs hsz v xs.length es q1 ⟨b, oo, none⟩ ys.length c es2 hl2
   (fun j u hu => by rw [uG]; exact (hcell j u hu).1) (Reps.one _ hreps) (by unfold maxLen; omega) (by have := Nat.mul_le_mul h63 hbytes; omega) hbase
  have hk : ∀ y, y < w.heap.size -> v.ownBlock ≠ some y -> w'.heap[y]? = w.heap[y]? := fun y hy hne => h3.block y hy fun e => hne e.symm;simp only [ho, resolve, invoke, builtin, Sem.run_bind, Sem.run_pure, Result.andThen_ok, List.map_toArray, List.map_cons, List.map_nil, hs, hx, hrun];refine h v' w' (es ++ es2) (cb ++ cb2) (by simpa using h2) ((xQ xs ys).2 ⟨es, es2, cb, cb2, rfl, rfl, Reps.keep _ q2 ⟨h3.size, fun y hy => hk y (Reps.lt _ q2 y hy) fun e => q3 y e hy⟩, Reps.keep _ hreps ⟨h3.size, fun y hy => hk y (Reps.lt _ hreps y hy) fun e => q4 y e (List.mem_cons_of_mem _ hy)⟩⟩) (fun y hy => (List.mem_append.1 hy).imp id (List.mem_cons_of_mem _)) ⟨⟨h3.os, h3.tape, h3.output, h3.size, fun y hy hm => h3.block y hy fun e => hm (qU.2 e.symm)⟩, fun y hy => ?_⟩;rcases h5 with h5 | h5
  ·rw [h5] at hy; exact .inl hy
  ·rw [h5] at hy
   have : w.heap.size = y := by simpa using hy
   exact .inr (by omega)
theorem qWE.ownF {w : World} {t : TypeId} {size n c B : Nat} {A : Option Addr} {bs l : List Nat} {xs : List D} (h : qWE w t size A n c bs) (hr : Rep w (.sl xs) [.slice A n c] l) (hs : ∀ x ∈ xs, x.size = size) (hn : l.Nodup) (hB : ∀ y ∈ bs, B <= y) (hp : 0 < n) :
  ∃ g es cb, A = some ⟨g, 0, none⟩ /\ w.ownsRow B t size (.slice A n c) n es /\ Reps w xs es cb /\ (∀ y ∈ cb, y ∈ l) /\ g ∉ cb /\ g ∈ l := by
 have hr0 := hr;obtain ⟨A', c', es, cb, e, h1, h2, h3, h4⟩ := hr;simp only [List.cons.injEq, Value.slice.injEq] at e;obtain ⟨⟨rfl, rfl, rfl⟩, _⟩ := e;have hl : es.length = xs.length * size := by rw [Reps.length _ h3, yO xs hs]
 rcases h with h5 | ⟨g, cur, rfl, h5, h6, h7, h8, h9⟩
 ·omega
 ·rcases h4 with ⟨rfl, _⟩ | ⟨b, o, hA, rfl, _, hc⟩
  ·simp at hp
  ·simp only [Option.some.injEq, Addr.mk.injEq, and_true] at hA
   obtain ⟨rfl, rfl⟩ := hA;refine ⟨g, es, cb, rfl, ⟨hl, .inr ⟨g, c, cur.toArray, rfl, hB g h9, h5, h6, h7, by simpa using h8, ?_⟩⟩, h3, fun y hy => List.mem_cons_of_mem _ hy, (List.nodup_cons.1 hn).1, List.mem_cons_self⟩;rw [List.toList_toArray];have hle : xs.length * size <= cur.length := by rw [h8]; exact Nat.mul_le_mul_right _ h6
   apply List.ext_getElem
   ·rw [List.length_take, hl]; omega
   ·intro j q1 q2
    have := (hc j _ (List.getElem?_eq_getElem q2)).1;rw [Nat.zero_add, h5.cell, List.getElem?_eq_getElem (by omega)] at this;simpa using this
theorem qCX {w8 : World} {B n X : Nat} {T : TypeId} {e0 e1 e2 : List Value} {l0 l1 l2 : List Nat} {xs zs : List Prt} {y1 : Prt} {v' : Value}
  (h0 : Reps w8 (xs.map Prt.d) e0 l0) (h1 : Rep w8 y1.d e1 l1) (h2 : Reps w8 (zs.map Prt.d) e2 l2) (hin : ∀ y ∈ l0 ++ (l1 ++ l2), y ≠ X)
  (hown : w8.ownsRow B T 2 v' n (e0 ++ e1 ++ e2)) (hlen : n = xs.length + 1 + zs.length) (hv : ∀ y, v'.ownBlock = some y -> y ≠ X) :
  ∃ A c bs9, v' = .slice A n c /\ Rep w8 (sls Prt.d (xs ++ y1 :: zs)) [.slice A n c] bs9 /\ ∀ y ∈ bs9, y ≠ X := by
 have hr : Reps w8 ((xs ++ y1 :: zs).map Prt.d) (e0 ++ e1 ++ e2) (l0 ++ (l1 ++ l2)) := by
  rw [List.map_append, List.append_assoc];exact (xQ _ _).2 ⟨_, _, _, _, rfl, rfl, h0, _, _, _, _, rfl, rfl, h1, h2⟩
 obtain ⟨A, c, bs, rfl, h6, h7⟩ := Rep.of_own hown (by simp; omega) hr;refine ⟨A, c, bs, rfl, h6, ?_⟩;rcases h7 with ⟨_, rfl⟩ | ⟨gg, rfl, _, hgg⟩
 ·simp
 ·intro y hy
  rcases List.mem_cons.1 hy with rfl | hy
  ·exact hv _ hgg
  ·exact hin y hy
theorem qLB {p : Pgm} {k : Nat} (hv : zK p = true) (hk : k < p.parts.length) : 1 <= p.parts[k].body.length /\ p.parts[k].body.length <= 4 := by
 have h := (zN hv).2.1 _ (List.getElem_mem hk);simp only [zU, qQO, Bool.and_eq_true] at h;have h2 := uZ.1 h.2.1.1;omega
theorem qMG {w : World} {B g n q cap k : Nat} {es : List Value} (hn : n = q + 1) (h : w.ownsRow B 54 2 (.slice (some ⟨g, 0, none⟩) n cap) n es) (hk : k + 1 < n) (hl : n <= 1000000) (hone : ∀ u ∈ es, u.oneCell' = true) :
  Calls Tryz.prog 59 #[.slice (some ⟨g, 0, none⟩) n cap, .int .i64 ((k : Int) + 1), .int .i64 ((k : Int) + 2)] w fun e w' => e = .returned (.slice (some ⟨g, 0, none⟩) q cap) /\ w'.ownsRow B 54 2 (.slice (some ⟨g, 0, none⟩) q cap) q (es.take ((k + 1) * 2) ++ es.drop ((k + 2) * 2)) /\ Touch [g] w w' := by
 subst hn;exact qMU h hk (by omega) hone
theorem qCU {w : World} {p : Pgm} {k : Int} {cs : List Value} {bs : List Nat} (h : Rep w p.d cs bs) (hk : (zK p && inB k 0 ((p.parts.length : Int) - 1)) = false) :
  Calls Tryz.prog 18 #[.agg cs.toArray, .int .i64 k] w (zP w (⟨[], []⟩, false)) := by
 have HH := qQ h;obtain ⟨A1, c1, A2, c2, d1, d2, rfl, rfl, g1, g2⟩ := Rep.pgm_iff.1 h;have HK := qQ hk;clear g1 g2 h hk;go_enter Tryz.func18, Tryz.ntmps18;go_wp2_with fail;refine (qCV (HH.out.below bel) HK.out).mono ?_;rintro e w1 ⟨rfl, b1⟩;have X1 : BoxW w1 (w.heap.size + 1) (.slice none 0 0) (.slice none 0 0) := BoxW.to ⟨⟨by go_simp, by go_simp⟩, by go_simp, by go_simp⟩ b1;have S1 : Below w.heap.size w w1 := bel;clear b1;have HX1 := qQ X1;obtain ⟨⟨m1, m2⟩, m3, m4⟩ := X1;have lt1 := qW m1;go_upto_region 2 with (fail);refine wp_region_noPanic ?_;refine wp_region_held_drew (S := fun w' => True) (by kernel_rfl) (trivial) (fun hHeld => ?_);refine goR 0 hHeld ?_;refine goR 1 hHeld ?_;refine goR 2 hHeld ?_;refine goS 3 hHeld ?_;refine goS 4 hHeld ?_;refine goS 5 hHeld ?_;refine goS 6 hHeld ?_;refine goS 7 hHeld ?_;refine goS 8 hHeld ?_;refine goR 9 hHeld ?_;refine goR 10 hHeld ?_;refine goS 11 hHeld ?_;refine goS 12 hHeld ?_;refine goS 13 hHeld ?_;refine goS 14 hHeld ?_;refine goS 15 hHeld ?_;refine goS 16 hHeld ?_;refine goS 17 hHeld ?_;refine goS 18 hHeld ?_;refine goS 19 hHeld ?_;refine goS 20 hHeld ?_;refine goS 21 hHeld ?_;refine goS 22 hHeld ?_;refine goS 23 hHeld ?_;refine goR 24 hHeld ?_;refine wpAnyH_done (by kernel_rfl) ?_ _;refine NoPanic.normal ?_;go_wp2;exact bodyPost_ret (v := .tuple #[.agg #[.slice none 0 0, .slice none 0 0], .bool false]) (by simp [results, Tryz.results18, go_sem, m1, m2, lt1]) rfl (zP.nil bel)
theorem qCF {w : World} {p : Pgm} {k : Nat} {cs : List Value} {bs : List Nat} (h : Rep w p.d cs bs) (hv : zK p = true) (hk : k < p.parts.length) (hk1 : p.parts.length <= k + 1) :
  Calls Tryz.prog 18 #[.agg cs.toArray, .int .i64 (k : Int)] w (zP w (⟨[], []⟩, false)) := by
 have HH := qQ h;obtain ⟨A1, c1, A2, c2, d1, d2, rfl, rfl, g1, g2⟩ := Rep.pgm_iff.1 h;have HV := qQ hv;clear g1 g2 h hv;go_enter Tryz.func18, Tryz.ntmps18;go_wp2_with fail;refine (qFH (HH.out.below bel) HV.out hk).mono ?_;rintro e w1 ⟨A1r, c1r, g, c2r, dd, B, rfl, r1, hd1, hG1, hB1, b1⟩;have X1 : BoxW w1 (w.heap.size + 1) (.slice none 0 0) (.slice none 0 0) := BoxW.to ⟨⟨by go_simp, by go_simp⟩, by go_simp, by go_simp⟩ b1;have X0 : Box2 w1 w.heap.size (.slice A1 p.arrays.length c1) (.slice A2 p.parts.length c2) := Box2.to ⟨by go_simp, by go_simp⟩ b1;have S1 : Below w.heap.size w w1 := bel;have HD := qQ (qV hd1 hB1);have R1 := qQ r1;have RP1 := qQ (HH.out.below S1);clear b1 hB1 hd1 r1;have lt1 := qW X1.1.1;obtain ⟨es, cb, q1, q2, q3, q4, q5⟩ := hG1;have hsm := (wS HV.out).2.2.2 _ (List.getElem_mem hk);have hnl : p.parts[k].nest.length <= 1000000 := hsm.1;have hpl : p.parts.length <= 4 := (zN HV.out).1;have hkn : (k : Int) < (p.parts.length : Int) := by omega
 have hk0 : (0 : Int) <= (k : Int) := by omega
 have hk6 : (k : Int) <= 1000000 := by omega
 have hw1 : IntKind.i64.wrap ((k : Int) + 1) = (k : Int) + 1 := by rw [IntKind.wrap_i64]; omega
 clear hsm;have h1n : decide ((p.parts.length : Int) <= (k : Int) + 1) = true := decide_eq_true (by omega);have HX1 := qQ X1;have HX0 := qQ X0;clear q1 q2 q3 q4 q5 X1 X0;go_upto_region 2 with (fail);obtain ⟨V1, hV1⟩ : ∃ V1, V1 = w1.alloc (.cells #[.slice A1r p.arrays.length c1r, .slice (some ⟨g, 0, none⟩) p.parts.length c2r] 30) := ⟨_, rfl⟩;have T1 := qQ (show Below w1.heap.size w1 V1 by rw [hV1]; exact zZ (Below.refl _ _) _);have XO1 := qQ (show BoxW V1 w1.heap.size (.slice A1r p.arrays.length c1r) (.slice (some ⟨g, 0, none⟩) p.parts.length c2r) by rw [hV1]; exact BoxW.new w1 _ _ _);rw [<- hV1];clear hV1;refine wp_region_noPanic ?_;refine wp_region_held_drew (S := fun w' => Box2 w' w.heap.size (.slice A1 p.arrays.length c1) (.slice A2 p.parts.length c2)) (by kernel_rfl) (HX0.out.to T1.out.drew) (fun hHeld => ?_);refine goR 0 hHeld ?_;refine goR 1 hHeld ?_;refine goR 2 hHeld ?_;refine goG 3 hHeld ?_;refine goG 4 hHeld ?_;refine goG 5 hHeld ?_;refine goG 6 hHeld ?_;refine goG 7 hHeld ?_;refine goG 8 hHeld ?_;refine goR 9 hHeld ?_;refine goR 10 hHeld ?_;refine goS 11 hHeld ?_;refine goS 12 hHeld ?_;refine goS 13 hHeld ?_;refine goS 14 hHeld ?_;refine goS 15 hHeld ?_;refine goS 16 hHeld ?_;refine goS 17 hHeld ?_;refine goS 18 hHeld ?_;refine goS 19 hHeld ?_;refine goS 20 hHeld ?_;refine goS 21 hHeld ?_;refine goS 22 hHeld ?_;refine goS 23 hHeld ?_;refine goR 24 hHeld ?_;refine wpAnyH_done (by kernel_rfl) ?_ _;refine NoPanic.normal ?_;obtain ⟨⟨r0, r1⟩, r2, r3⟩ := HX1.out.to T1.out;have ltr := qW r0;have S2 : Below w.heap.size w _ := qY S1 T1.out;go_wp2;exact bodyPost_ret (v := .tuple #[.agg #[.slice none 0 0, .slice none 0 0], .bool false]) (by simp [results, Tryz.results18, go_sem, r0, r1, ltr]) rfl (zP.nil bel)
theorem qCD {w : World} {p : Pgm} {k : Nat} {cs : List Value} {bs : List Nat} (h : Rep w p.d cs bs) (hv : zK p = true) (hk : k < p.parts.length) (hk1 : k + 1 < p.parts.length) (hns : uM p.parts[k].nest p.parts[k + 1].nest = false) :
  Calls Tryz.prog 18 #[.agg cs.toArray, .int .i64 (k : Int)] w (zP w (⟨[], []⟩, false)) := by
 have HH := qQ h;obtain ⟨A1, c1, A2, c2, d1, d2, rfl, rfl, g1, g2⟩ := Rep.pgm_iff.1 h;have HV := qQ hv;have HNS := qQ hns;clear g1 g2 h hv hns;go_enter Tryz.func18, Tryz.ntmps18;go_wp2_with fail;refine (qFH (HH.out.below bel) HV.out hk).mono ?_;rintro e w1 ⟨A1r, c1r, g, c2r, dd, B, rfl, r1, hd1, hG1, hB1, b1⟩;have X1 : BoxW w1 (w.heap.size + 1) (.slice none 0 0) (.slice none 0 0) := BoxW.to ⟨⟨by go_simp, by go_simp⟩, by go_simp, by go_simp⟩ b1;have X0 : Box2 w1 w.heap.size (.slice A1 p.arrays.length c1) (.slice A2 p.parts.length c2) := Box2.to ⟨by go_simp, by go_simp⟩ b1;have S1 : Below w.heap.size w w1 := bel;have HD := qQ (qV hd1 hB1);have R1 := qQ r1;have RP1 := qQ (HH.out.below S1);clear b1 hB1 hd1 r1;have lt1 := qW X1.1.1;obtain ⟨es, cb, q1, q2, q3, q4, q5⟩ := hG1;have hsm := (wS HV.out).2.2.2 _ (List.getElem_mem hk);have hnl : p.parts[k].nest.length <= 1000000 := hsm.1;have hpl : p.parts.length <= 4 := (zN HV.out).1;have hkn : (k : Int) < (p.parts.length : Int) := by omega
 have hk0 : (0 : Int) <= (k : Int) := by omega
 have hk6 : (k : Int) <= 1000000 := by omega
 have hw1 : IntKind.i64.wrap ((k : Int) + 1) = (k : Int) + 1 := by rw [IntKind.wrap_i64]; omega
 clear hsm;obtain ⟨e0, e1, e2, l0, l1, l2, rfl, rfl, he0, he1, r0, ⟨A1p, c1p, A2p, c2p, rfl, rp, hro⟩, r2⟩ := q2.at_ PrtO.ek hk;rw [List.drop_eq_getElem_cons hk1] at r2;obtain ⟨e3, e4, l3, l4, rfl, rfl, ⟨A1s, c1s, A2s, c2s, rfl, rp2, hro2⟩, r3⟩ := r2;have kc0 : w1.cell? ⟨g, k * 2, none⟩ = some (.slice A1p p.parts[k].nest.length c1p) := by
  have := q1.cells (g := g) rfl (k * 2) (.slice A1p p.parts[k].nest.length c1p) (by rw [List.append_assoc, List.getElem?_append_right (by omega), he0, Nat.sub_self]; rfl)
  rwa [uG, Nat.zero_add] at this
 have kc1 : w1.cell? ⟨g, k * 2 + 1, none⟩ = some (.slice A2p p.parts[k].body.length c2p) := by
  have := q1.cells (g := g) rfl (k * 2 + 1) (.slice A2p p.parts[k].body.length c2p) (by rw [List.append_assoc, List.getElem?_append_right (by omega), he0, Nat.add_sub_cancel_left]; rfl)
  rwa [uG, Nat.zero_add] at this
 have kd1 : w1.cell? ⟨g, (k + 1) * 2 + 1, none⟩ = some (.slice A2s p.parts[k + 1].body.length c2s) := by
  have := q1.cells (g := g) rfl ((k + 1) * 2 + 1) (.slice A2s p.parts[k + 1].body.length c2s) (by rw [List.append_assoc, List.getElem?_append_right (by omega), he0, show (k + 1) * 2 + 1 - k * 2 = 3 by omega]; rfl)
  rwa [uG, Nat.zero_add] at this
 have ltg := qW kc0;have hg4 : g ∉ l0 ++ l1 ++ (l3 ++ l4) := q5 g rfl;have HBg : B <= g /\ g < w1.heap.size := uQ q1 rfl;have HC := qQ (qV q1 (qV q3 (qV q4 hg4)));have RQ := qQ (qV (uD.reps (f := Prt.d) PrtO.rep _ r0) (uD.reps (f := Prt.d) PrtO.rep _ r3));have HRP := qQ (qV rp (qV hro rp2));obtain ⟨_, _, _, _, f1, f2, ef, hl1, gN, gB⟩ := Rep.prt_iff.1 rp;simp only [List.cons.injEq, Value.slice.injEq, true_and, and_true] at ef;obtain ⟨⟨rfl, rfl⟩, rfl, rfl⟩ := ef;obtain ⟨_, _, _, _, f3, f4, ef, hl3, _, gB2⟩ := Rep.prt_iff.1 rp2;simp only [List.cons.injEq, Value.slice.injEq, true_and, and_true] at ef;obtain ⟨⟨rfl, rfl⟩, rfl, rfl⟩ := ef;have GN := qQ gN;have GB := qQ (qV hl1 (qV gB (qV hl3 gB2)));have HX1 := qQ X1;have HX0 := qQ X0;have HK := qQ (qV kc0 (qV kc1 kd1));obtain ⟨_, _, _, _, _, _, ef, _, _, gO⟩ := Rep.pgm_iff.1 RP1.out;simp only [List.cons.injEq, Value.slice.injEq, true_and, and_true] at ef;obtain ⟨⟨rfl, rfl⟩, rfl, rfl⟩ := ef;have GO := qQ gO;obtain ⟨bo, oo, cso, lo, rfl, hblo, hro, _, _, hco⟩ := GO.out.sls_at Prt.d_size (k := (k+1)) hk1;have Go := qQ hro;obtain ⟨A1o, c1o, A2o, c2o, d1o, d2o, rfl, rfl, g1o, g2o⟩ := Rep.prt_iff.1 hro;have k0o := (hco 0 _ rfl).1; rw [Nat.add_zero] at k0o;have k1o := (hco 1 _ rfl).1;have Q1o := qQ g1o;have Q2o := qQ g2o;clear hco hro g1o g2o;have QO := qQ Q1o.out;have hqb1 : (k : Int) + 1 < (p.parts.length : Int) := by omega
 have hqz : (0 : Int) <= (k : Int) + 1 := by omega
 have htn : ((k : Int) + 1).toNat = k + 1 := by omega
 have h1n : decide ((p.parts.length : Int) <= (k : Int) + 1) = false := decide_eq_false (by omega);have HLN := qQ (zN HV.out).2.2;clear q1 q2 q3 q4 q5 X1 X0 rp hro rp2 hro2 r0 r3 gN gO hg4 hl1 gB hl3 gB2;go_upto_region 2 with (fail);obtain ⟨V1, hV1⟩ : ∃ V1, V1 = w1.alloc (.cells #[.slice A1r p.arrays.length c1r, .slice (some ⟨g, 0, none⟩) p.parts.length c2r] 30) := ⟨_, rfl⟩;have T1 := qQ (show Below w1.heap.size w1 V1 by rw [hV1]; exact zZ (Below.refl _ _) _);have XO1 := qQ (show BoxW V1 w1.heap.size (.slice A1r p.arrays.length c1r) (.slice (some ⟨g, 0, none⟩) p.parts.length c2r) by rw [hV1]; exact BoxW.new w1 _ _ _);rw [<- hV1];clear hV1;refine wp_region_noPanic ?_;refine wp_region_held_drew (S := fun w' => Box2 w' w.heap.size (.slice A1 p.arrays.length c1) (.slice (some ⟨bo, oo, none⟩) p.parts.length c2) /\ w'.cell? ⟨g, k * 2, none⟩ = some (.slice A1p p.parts[k].nest.length c1p) /\ w'.cell? ⟨bo, oo + (k + 1) * 2, none⟩ = some (.slice A1o p.parts[k + 1].nest.length c1o)) (by kernel_rfl) (⟨HX0.out.to T1.out.drew, qG kc0 T1.out.drew, qG k0o T1.out.drew⟩) (fun hHeld => ?_);refine goR 0 hHeld ?_;refine goR 1 hHeld ?_;refine goR 2 hHeld ?_;refine goG 3 hHeld ?_;refine goG 4 hHeld ?_;refine goG 5 hHeld ?_;refine goG 6 hHeld ?_;refine goG 7 hHeld ?_;refine goG 8 hHeld ?_;refine goR 9 hHeld ?_;refine goR 10 hHeld ?_;refine goG 11 hHeld ?_;refine goG 12 hHeld ?_;refine goG 13 hHeld ?_;refine goG 14 hHeld ?_;refine goG 15 hHeld ?_;refine goG 16 hHeld ?_;refine goG 17 hHeld ?_;refine goG 18 hHeld ?_;refine goG 19 hHeld ?_;refine goG 20 hHeld ?_;refine goG 21 hHeld ?_;refine zF (i := 22) rfl (by kernel_rfl) (by kernel_rfl) (fun K hK => ?_);go_simp
 (refine (qQI (GN.out.below T1.out.drew) (QO.out.below T1.out.drew)).mono ?_; rintro e w3 ⟨rfl, b3⟩; rw [HNS.out]; have B3 : Below w1.heap.size w1 w3 := qY T1.out (qL b3))
 go_wp2_with fail;refine hK.out _ _ (⟨hHeld.1.to b3, qG hHeld.2.1 b3, qG hHeld.2.2 b3⟩) (fun hHeld => ?_);clear hK K
 try simp only [Act.put, aq0, aq1, aq2]
 refine goG 23 hHeld ?_;refine goR 24 hHeld ?_;refine wpAnyH_done (by kernel_rfl) ?_ _;refine NoPanic.normal ?_;obtain ⟨⟨r0, r1⟩, r2, r3⟩ := HX1.out.to B3;have ltr := qW r0;have S2 : Below w.heap.size w _ := qY S1 B3;go_wp2;exact bodyPost_ret (v := .tuple #[.agg #[.slice none 0 0, .slice none 0 0], .bool false]) (by simp [results, Tryz.results18, go_sem, r0, r1, ltr]) rfl (zP.nil ((S2.setCell (by simp) _).setCell (by simp) _))
theorem qCG {w : World} {p : Pgm} {k : Nat} {cs : List Value} {bs : List Nat} (h : Rep w p.d cs bs) (hv : zK p = true) (hk : k < p.parts.length) (hk1 : k + 1 < p.parts.length) (hns : uM p.parts[k].nest p.parts[k + 1].nest = true) :
  Calls Tryz.prog 18 #[.agg cs.toArray, .int .i64 (k : Int)] w (zP w (zT p (k : Int))) := by
 have HDB := qQ (qLH hv hk1 hns);have HH := qQ h;obtain ⟨A1, c1, A2, c2, d1, d2, rfl, rfl, g1, g2⟩ := Rep.pgm_iff.1 h;have HV := qQ hv;have HNS := qQ hns;clear g1 g2 h hv hns;go_enter Tryz.func18, Tryz.ntmps18;go_wp2_with fail;refine (qFH (HH.out.below bel) HV.out hk).mono ?_;rintro e w1 ⟨A1r, c1r, g, c2r, dd, B, rfl, r1, hd1, hG1, hB1, b1⟩;have X1 : BoxW w1 (w.heap.size + 1) (.slice none 0 0) (.slice none 0 0) := BoxW.to ⟨⟨by go_simp, by go_simp⟩, by go_simp, by go_simp⟩ b1;have X0 : Box2 w1 w.heap.size (.slice A1 p.arrays.length c1) (.slice A2 p.parts.length c2) := Box2.to ⟨by go_simp, by go_simp⟩ b1;have S1 : Below w.heap.size w w1 := bel;have HD := qQ (qV hd1 hB1);have R1 := qQ r1;have RP1 := qQ (HH.out.below S1);clear b1 hB1 hd1 r1;have lt1 := qW X1.1.1;obtain ⟨es, cb, q1, q2, q3, q4, q5⟩ := hG1;have hsm := (wS HV.out).2.2.2 _ (List.getElem_mem hk);have hnl : p.parts[k].nest.length <= 1000000 := hsm.1;have hpl : p.parts.length <= 4 := (zN HV.out).1;have hkn : (k : Int) < (p.parts.length : Int) := by omega
 have hk0 : (0 : Int) <= (k : Int) := by omega
 have hk6 : (k : Int) <= 1000000 := by omega
 have hw1 : IntKind.i64.wrap ((k : Int) + 1) = (k : Int) + 1 := by rw [IntKind.wrap_i64]; omega
 clear hsm;obtain ⟨e0, e1, e2, l0, l1, l2, rfl, rfl, he0, he1, r0, ⟨A1p, c1p, A2p, c2p, rfl, rp, hro⟩, r2⟩ := q2.at_ PrtO.ek hk;rw [List.drop_eq_getElem_cons hk1] at r2;obtain ⟨e3, e4, l3, l4, rfl, rfl, ⟨A1s, c1s, A2s, c2s, rfl, rp2, hro2⟩, r3⟩ := r2;have kc0 : w1.cell? ⟨g, k * 2, none⟩ = some (.slice A1p p.parts[k].nest.length c1p) := by
  have := q1.cells (g := g) rfl (k * 2) (.slice A1p p.parts[k].nest.length c1p) (by rw [List.append_assoc, List.getElem?_append_right (by omega), he0, Nat.sub_self]; rfl)
  rwa [uG, Nat.zero_add] at this
 have kc1 : w1.cell? ⟨g, k * 2 + 1, none⟩ = some (.slice A2p p.parts[k].body.length c2p) := by
  have := q1.cells (g := g) rfl (k * 2 + 1) (.slice A2p p.parts[k].body.length c2p) (by rw [List.append_assoc, List.getElem?_append_right (by omega), he0, Nat.add_sub_cancel_left]; rfl)
  rwa [uG, Nat.zero_add] at this
 have kd1 : w1.cell? ⟨g, (k + 1) * 2 + 1, none⟩ = some (.slice A2s p.parts[k + 1].body.length c2s) := by
  have := q1.cells (g := g) rfl ((k + 1) * 2 + 1) (.slice A2s p.parts[k + 1].body.length c2s) (by rw [List.append_assoc, List.getElem?_append_right (by omega), he0, show (k + 1) * 2 + 1 - k * 2 = 3 by omega]; rfl)
  rwa [uG, Nat.zero_add] at this
 have ltg := qW kc0;have hg4 : g ∉ l0 ++ l1 ++ (l3 ++ l4) := q5 g rfl;have HBg : B <= g /\ g < w1.heap.size := uQ q1 rfl;have HC := qQ (qV q1 (qV q3 (qV q4 hg4)));have RQ := qQ (qV (uD.reps (f := Prt.d) PrtO.rep _ r0) (uD.reps (f := Prt.d) PrtO.rep _ r3));have HRP := qQ (qV rp (qV hro rp2));obtain ⟨_, _, _, _, f1, f2, ef, hl1, gN, gB⟩ := Rep.prt_iff.1 rp;simp only [List.cons.injEq, Value.slice.injEq, true_and, and_true] at ef;obtain ⟨⟨rfl, rfl⟩, rfl, rfl⟩ := ef;obtain ⟨_, _, _, _, f3, f4, ef, hl3, _, gB2⟩ := Rep.prt_iff.1 rp2;simp only [List.cons.injEq, Value.slice.injEq, true_and, and_true] at ef;obtain ⟨⟨rfl, rfl⟩, rfl, rfl⟩ := ef;have GN := qQ gN;have GB := qQ (qV hl1 (qV gB (qV hl3 gB2)));have HX1 := qQ X1;have HX0 := qQ X0;have HK := qQ (qV kc0 (qV kc1 kd1));obtain ⟨_, _, _, _, _, _, ef, _, _, gO⟩ := Rep.pgm_iff.1 RP1.out;simp only [List.cons.injEq, Value.slice.injEq, true_and, and_true] at ef;obtain ⟨⟨rfl, rfl⟩, rfl, rfl⟩ := ef;have GO := qQ gO;obtain ⟨bo, oo, cso, lo, rfl, hblo, hro, _, _, hco⟩ := GO.out.sls_at Prt.d_size (k := (k+1)) hk1;have Go := qQ hro;obtain ⟨A1o, c1o, A2o, c2o, d1o, d2o, rfl, rfl, g1o, g2o⟩ := Rep.prt_iff.1 hro;have k0o := (hco 0 _ rfl).1; rw [Nat.add_zero] at k0o;have k1o := (hco 1 _ rfl).1;have Q1o := qQ g1o;have Q2o := qQ g2o;clear hco hro g1o g2o;have QO := qQ Q1o.out;have hqb1 : (k : Int) + 1 < (p.parts.length : Int) := by omega
 have hqz : (0 : Int) <= (k : Int) + 1 := by omega
 have htn : ((k : Int) + 1).toNat = k + 1 := by omega
 have h1n : decide ((p.parts.length : Int) <= (k : Int) + 1) = false := decide_eq_false (by omega);have HLN := qQ (zN HV.out).2.2;clear q1 q2 q3 q4 q5 X1 X0 rp hro rp2 hro2 r0 r3 gN gO hg4 hl1 gB hl3 gB2;go_upto_region 2 with (fail);obtain ⟨V1, hV1⟩ : ∃ V1, V1 = w1.alloc (.cells #[.slice A1r p.arrays.length c1r, .slice (some ⟨g, 0, none⟩) p.parts.length c2r] 30) := ⟨_, rfl⟩;have T1 := qQ (show Below w1.heap.size w1 V1 by rw [hV1]; exact zZ (Below.refl _ _) _);have XO1 := qQ (show BoxW V1 w1.heap.size (.slice A1r p.arrays.length c1r) (.slice (some ⟨g, 0, none⟩) p.parts.length c2r) by rw [hV1]; exact BoxW.new w1 _ _ _);rw [<- hV1];clear hV1;refine wp_region_noPanic ?_;refine wp_region_held_drew (S := fun w' => Box2 w' w.heap.size (.slice A1 p.arrays.length c1) (.slice (some ⟨bo, oo, none⟩) p.parts.length c2) /\ w'.cell? ⟨g, k * 2, none⟩ = some (.slice A1p p.parts[k].nest.length c1p) /\ w'.cell? ⟨bo, oo + (k + 1) * 2, none⟩ = some (.slice A1o p.parts[k + 1].nest.length c1o)) (by kernel_rfl) (⟨HX0.out.to T1.out.drew, qG kc0 T1.out.drew, qG k0o T1.out.drew⟩) (fun hHeld => ?_);refine goR 0 hHeld ?_;refine goR 1 hHeld ?_;refine goR 2 hHeld ?_;refine goG 3 hHeld ?_;refine goG 4 hHeld ?_;refine goG 5 hHeld ?_;refine goG 6 hHeld ?_;refine goG 7 hHeld ?_;refine goG 8 hHeld ?_;refine goR 9 hHeld ?_;refine goR 10 hHeld ?_;refine goG 11 hHeld ?_;refine goG 12 hHeld ?_;refine goG 13 hHeld ?_;refine goG 14 hHeld ?_;refine goG 15 hHeld ?_;refine goG 16 hHeld ?_;refine goG 17 hHeld ?_;refine goG 18 hHeld ?_;refine goG 19 hHeld ?_;refine goG 20 hHeld ?_;refine goG 21 hHeld ?_;refine zF (i := 22) rfl (by kernel_rfl) (by kernel_rfl) (fun K hK => ?_);go_simp
 (refine (qQI (GN.out.below T1.out.drew) (QO.out.below T1.out.drew)).mono ?_; rintro e w3 ⟨rfl, b3⟩; rw [HNS.out]; have B3 : Below w1.heap.size w1 w3 := qY T1.out (qL b3))
 go_wp2_with fail;refine hK.out _ _ (⟨hHeld.1.to b3, qG hHeld.2.1 b3, qG hHeld.2.2 b3⟩) (fun hHeld => ?_);clear hK K
 try simp only [Act.put, aq0, aq1, aq2]
 refine goG 23 hHeld ?_;refine goR 24 hHeld ?_;refine wpAnyH_done (by kernel_rfl) ?_ _;refine NoPanic.normal ?_;have XO3 := qQ (XO1.out.to (qL b3));obtain ⟨y0, y1⟩ := HX0.out.to B3;have lta := qW y0;have T3 := qQ B3;clear b3 B3 kc0 kc1 kd1 k0o k1o;go_wp2_with fail;refine (qBW (RP1.out.below T3.out) HV.out).mono ?_;rintro e w4 ⟨gt, rfl, trc, hgt, b4⟩;have XO4 := qQ (XO3.out.to b4);have T4 := qQ (qY T3.out b4);have HTR := qQ trc;clear y0 y1 lta b4 trc;go_wp2_with fail;refine (qCB HTR.out HV.out).mono ?_;rintro e w5 ⟨A5, c5, bs5, rfl, r5, -, -, b5⟩;have XO5 := qQ (XO4.out.to b5);have T5 := qQ (qY T4.out b5);obtain ⟨t1, t2, A3, t4, t5, u1, u2, c3, u4, u5, _, bs3, _, _, ⟨_, _, x2, _, _⟩, _, rI, _, _⟩ := HTR.out.below b5;have L5 := qQ rI;have HXT := qQ x2;have ltt := qW x2;obtain ⟨ds, hds⟩ : ∃ ds, ds = qKA (zJ p) := ⟨_, rfl⟩;rw [<- hds] at r5 ⊢;have HM := qQ (show ∀ d ∈ ds, DpOk (zJ p) d from fun d hd => qUZ d (by rw [<- hds]; exact hd));have HBD := qQ (show badU p (k : Int) = (ds.drop 0).any (wR p (k : Int)) by rw [badU, hds]; rfl);have D5 := qQ r5;obtain ⟨-, h51, h52⟩ := r5.sls_len;have hdn : ds.length <= 9223372036854775807 := qX h51 h52;clear h51 h52 b5 r5 hds rI;go_wp2;go_loopw [56] (fun i wr => ∃ j : Nat, j <= ds.length /\ i = .int .i64 j /\ badU p (k : Int) = (ds.drop j).any (wR p (k : Int)) /\ Below w5.heap.size w5 wr) (fun i _ => ds.length - (intOf i).toNat)
 case atStart => exact ⟨0, Nat.zero_le _, rfl, HBD.out, Below.refl _ _⟩
 case round =>
  obtain ⟨j, hj, rfl, hbd, hb⟩ := hrel;have HBJ := qQ hbd;clear hbd;by_cases hlt : j < ds.length
  case neg =>
   have hbad : badU p (k : Int) = false := by rw [HBJ.out, show j = ds.length by omega, qLE]
   have HBAD := qQ hbad;have T6 := qQ (qY T5.out hb);have XO6 := qQ (XO5.out.to hb);have hz6 := qW XO6.out.1.1;have k1 := qG HK.out.2.1 T6.out;have k3 := qG HK.out.2.2 T6.out;have ltk := qW k1;obtain ⟨y0, y1⟩ := XO6.out.1;obtain ⟨hb1, hb4⟩ := qLB HV.out hk;have hb5 := (qLB HV.out hk1).2;have hng := HC.out.2.2.2;simp only [List.mem_append, not_or] at hng;obtain ⟨⟨hng0, hng1⟩, hng3, hng4⟩ := hng;obtain ⟨nd1, nd2, nd3⟩ := qQC HC.out.2.1;obtain ⟨nd4, nd5, nd6⟩ := qQC nd1;rw [GB.out.1] at hng1 nd5 nd6 nd3;rw [GB.out.2.2.1] at hng3 nd3;simp only [List.mem_append, not_or] at hng1 hng3;obtain ⟨_, ndf, ndx⟩ := qQC nd5;obtain ⟨gb, ess, cbb, hA2, qo, qr, qs, qn, qm⟩ := HRP.out.2.1.ownF (B := B) GB.out.2.1 (fun x hx => by obtain ⟨z, _, rfl⟩ := List.mem_map.1 hx; exact Stm.d_size z) ndf (fun y hy => HC.out.2.2.1 y (by simp [hy])) (by omega);subst hA2;have hgb : gb ≠ g := fun e => hng1.2 (e ▸ qm);have hgb2 : g ≠ gb := hgb.symm;have lf2 := Rep.lt _ GB.out.2.1;have lf4 := Rep.lt _ GB.out.2.2.2;have lgb := lf2 gb qm;have hgf4 : gb ∉ f4 := fun hm => nd3 gb (by simp [qm]) (by simp [hm])
   have HND := qQ (qV (fun hm => nd6 gb hm (by simp [qm]) : gb ∉ l0) (qV (fun hm => ndx gb hm qm : gb ∉ f1) (fun hm => nd3 gb (by simp [qm]) (by simp [hm]) : gb ∉ l4)));have HO := qQ (show wr.drew.ownsRow B 102 9 (.slice (some ⟨gb, 0, none⟩) p.parts[k].body.length c2p) (p.parts[k].body.map Stm.d).length ess by
    rw [List.length_map];exact jU qo fun g' hg' => by
     obtain rfl : gb = g' := by simpa [Value.ownBlock] using hg'
     exact T6.out.block gb lgb)
   have HR := qQ (show Reps wr.drew (p.parts[k].body.map Stm.d) ess cbb from Reps.keep _ qr ⟨T6.out.size, fun y hy => T6.out.block y (lf2 y (qs y hy))⟩);have HR2 := qQ (show Rep wr.drew (sls Stm.d p.parts[k + 1].body) [.slice A2s p.parts[k + 1].body.length c2s] f4 from (GB.out.2.2.2.below T6.out).drewN 1);have HCB := qQ (qV qs qn);have hc2 : p.parts[k].body.length <= c2p /\ c2p <= maxLen := by
    have h := GB.out.2.1.sls_len;exact ⟨h.2.1, h.2.2⟩
   have HC2 := qQ hc2;have hBr : B <= wr.drew.heap.size := by have h1 := HBg.1; have h2 := T6.out.size; show B <= wr.heap.size; omega
   clear nd1 nd2 nd3 nd4 nd5 nd6 ndf ndx qo qr qs qn hbad hb hc2;go_upto_region 12 with (fail);refine wp_region_noPanic ?_;refine zM (S := fun w' => w'.cell? ⟨g, k * 2 + 1, none⟩ = some (.slice (some ⟨gb, 0, none⟩) p.parts[k].body.length c2p) /\ w'.cell? ⟨g, (k + 1) * 2 + 1, none⟩ = some (.slice A2s p.parts[k + 1].body.length c2s) /\ w'.cell? ⟨w1.heap.size, 1, none⟩ = some (.slice (some ⟨g, 0, none⟩) p.parts.length c2r)) 15 (by kernel_rfl) (⟨by go_simp, by go_simp, by go_simp⟩) (fun hHeld => ?_);refine goU 0 (fun _ => hHeld) ?_;refine goU 1 (fun _ => hHeld) ?_;refine goU 2 (fun _ => hHeld) ?_;refine goU 3 (fun _ => hHeld) ?_;refine goT 4 hHeld ?_;refine goU 5 (fun _ => hHeld) ?_;refine goT 6 hHeld ?_;refine goU 7 (fun _ => hHeld) ?_;refine goU 8 (fun _ => hHeld) ?_;refine goU 9 (fun _ => hHeld) ?_;refine goU 10 (fun _ => hHeld) ?_;refine goT 11 hHeld ?_;refine qS (rs := [12]) (by kernel_rfl) (by simp) (all1 ?_);refine opT (i := 12) rfl (qK rfl) (fun K hK => ?_)
   (refine qUH (v := .slice (some ⟨gb, 0, none⟩) p.parts[k].body.length c2p) (B := B) (xs := p.parts[k].body.map Stm.d) (ys := p.parts[k + 1].body.map Stm.d) (.tmp 100) (.tmp 107) _ rfl _ Tryz.underlying52 Tryz.infoStmt rfl (by decide) rfl HO.out HR.out ?hq3 ?hf ?hx HR2.out ?hys ?hq4 ?hl hBr ?_; (case hq3 => (intro g' hg'; obtain rfl : gb = g' := (by simpa [Value.ownBlock] using hg'); exact HCB.out.2)); (case hf => exact ⟨_, _, by rw [List.length_map], by rw [List.length_map]; exact HC2.out.1, HC2.out.2⟩); (case hx => rfl); (case hys => (intro y hy; obtain ⟨z, _, rfl⟩ := List.mem_map.1 hy; exact Stm.d_size z)); (case hq4 => (intro g' hg'; obtain rfl : gb = g' := (by simpa [Value.ownBlock] using hg'); exact hgf4)); (case hl => (simp only [List.length_map]; omega)); intro v12 w12 es12 cb12 hO12 hR12 hcb12 hw12; have t12 : Touch [gb] wr w12 := (by have h := hw12.touch.mono (bs' := [gb]) (fun y hy => by (have h1 := qU.1 hy; have h2 : gb = y := (by simpa [Value.ownBlock] using h1); simp [h2])); exact ⟨h.os, h.tape, h.output, h.size, h.block⟩); obtain ⟨A12, c12, bs12, hf12, r12, h12⟩ := Rep.of_own hO12 rfl hR12; obtain ⟨N12, hN12⟩ : ∃ N, N = (p.parts[k].body.map Stm.d ++ p.parts[k + 1].body.map Stm.d).length := ⟨_, rfl⟩; rw [<- hN12] at hf12 r12; rw [<- List.map_append] at r12; subst hf12; have HN12 := qQ hN12; have H12 := qQ (qV r12 (qV h12 (qV hcb12 hw12.own))); clear hN12 r12 h12 hcb12 hO12 hR12)
   refine hK.out _ _ (⟨t12.cellR hHeld.1 (by simpa using hgb2), t12.cellR hHeld.2.1 (by simpa using hgb2), t12.cellR hHeld.2.2 (by simp; omega)⟩) (fun hHeld => ?_);clear hK K
   try simp only [Act.put, aq0, aq1, aq2]
   refine goU 13 (fun _ => hHeld) ?_;refine goU 14 (fun _ => hHeld) ?_;refine qS (rs := [15]) (by kernel_rfl) (by simp) (all1 ?_);refine opTT (i := 15) rfl (qK rfl) (by kernel_rfl) (fun K hK => ?_)
   (have HG12 := qQ (jU (w' := w12) HC.out.1 (fun g' hg' => by (obtain rfl : g = g' := (by simpa [Value.ownBlock] using hg'); rw [t12.block g (by have h1 := T6.out.size; omega) (by simpa using hgb2)]; exact T6.out.block g HBg.2))); have kfz := qBT HG12.out (k * 2 + 1); have HHD := qQ hHeld; obtain ⟨hh1, hh2, hh3⟩ := hHeld; have lg12 := qW hh1; unfold Oper.wp; go_simp)
   refine hK.out _ _ ?_;clear hK K
   try simp only [Act.put, aq0, aq1, aq2]
   refine qI (by kernel_rfl) ?_ _;refine NoPanic.normal ?_;obtain ⟨W13, hW13⟩ : ∃ W, W = w12.setCell ⟨g, k * 2 + 1, none⟩ (.slice A12 N12 c12) := ⟨_, rfl⟩;have T12 := qQ ((Touch.of_below (bs := [gb]) T6.out).trans t12);have OB := qQ (show W13.ownsRow B 54 2 (.slice (some ⟨g, 0, none⟩) p.parts.length c2r) p.parts.length (e0 ++ [Value.slice A1p p.parts[k].nest.length c1p, Value.slice A12 N12 c12] ++ ([Value.slice A1s p.parts[k + 1].nest.length c1s, Value.slice A2s p.parts[k + 1].body.length c2s] ++ e4)) by rw [hW13]; exact qBS HG12.out he0 hk);have x12 := t12.boxW XO6.out (by simp; omega);have XO13 := qQ (show BoxW W13 w1.heap.size (.slice A1r p.arrays.length c1r) (.slice (some ⟨g, 0, none⟩) p.parts.length c2r) by rw [hW13]; exact ⟨Box2.set x12.1 (by simp; omega) _, by rw [World.frozen?_setCell]; exact x12.2.1, by rw [World.frozen?_setCell]; exact x12.2.2⟩);have T13 := qQ (show Touch [gb, g] w1 W13 by rw [hW13]; exact (T12.out.mono (by simp)).setCell (by simp) _);have t13 := qQ (show Touch [g] w12 W13 by rw [hW13]; exact (Touch.refl _ _).setCell (by simp) _);rw [<- hW13];clear hW13 x12 y0 y1 hh1 hh2 hh3 k1 k3 ltk;obtain ⟨⟨m1, m2⟩, m3, m4⟩ := XO13.out;have ltO := qW m1;go_wp2_with fail;refine (qMG (B := B) (k := k) (q := p.parts.length - 1) (es := e0 ++ [Value.slice A1p p.parts[k].nest.length c1p, Value.slice A12 N12 c12] ++ ([Value.slice A1s p.parts[k + 1].nest.length c1s, Value.slice A2s p.parts[k + 1].body.length c2s] ++ e4)) (by omega) OB.out hk1 (by omega) ?hone).mono ?_
   case hone =>
    intro u hu;simp only [List.mem_append] at hu;rcases hu with (hu | hu) | hu | hu
    ·exact Reps.one _ RQ.out.1 u hu
    ·simp only [List.mem_cons, List.not_mem_nil, or_false] at hu
     rcases hu with rfl | rfl <;> rfl
    ·simp only [List.mem_cons, List.not_mem_nil, or_false] at hu
     rcases hu with rfl | rfl <;> rfl
    ·exact Reps.one _ RQ.out.2 u hu
   rintro e w8 ⟨rfl, hown8, t8⟩;have e5 : (e0 ++ [Value.slice A1p p.parts[k].nest.length c1p, Value.slice A12 N12 c12]).length = (k + 1) * 2 := by rw [List.length_append, he0]; simp; omega
   have e6 : (e0 ++ [Value.slice A1p p.parts[k].nest.length c1p, Value.slice A12 N12 c12] ++ [Value.slice A1s p.parts[k + 1].nest.length c1s, Value.slice A2s p.parts[k + 1].body.length c2s]).length = (k + 2) * 2 := by rw [List.length_append, e5]; simp; omega
   have hown9 : w8.ownsRow B 54 2 (.slice (some ⟨g, 0, none⟩) (p.parts.length - 1) c2r) (p.parts.length - 1) (e0 ++ [Value.slice A1p p.parts[k].nest.length c1p, Value.slice A12 N12 c12] ++ e4) := by
    have e7 : (e0 ++ [Value.slice A1p p.parts[k].nest.length c1p, Value.slice A12 N12 c12] ++ ([Value.slice A1s p.parts[k + 1].nest.length c1s, Value.slice A2s p.parts[k + 1].body.length c2s] ++ e4)).take ((k + 1) * 2) = e0 ++ [Value.slice A1p p.parts[k].nest.length c1p, Value.slice A12 N12 c12] := by rw [<- e5, List.take_left]
    have e8 : (e0 ++ [Value.slice A1p p.parts[k].nest.length c1p, Value.slice A12 N12 c12] ++ ([Value.slice A1s p.parts[k + 1].nest.length c1s, Value.slice A2s p.parts[k + 1].body.length c2s] ++ e4)).drop ((k + 2) * 2) = e4 := by rw [<- e6, <- List.append_assoc, List.drop_left]
    rw [e7, e8] at hown8;exact hown8
   have t18 : Touch [gb, g] w1 w8 := T13.out.trans (t8.mono (by simp));have t28 : Touch [g] w12 w8 := t13.out.trans t8;have lf1 := Rep.lt _ GN.out;have ll0 := Reps.lt _ RQ.out.1;have ll4 := Reps.lt _ RQ.out.2;have hv12 : ∀ y ∈ bs12, y ≠ g /\ y ≠ w1.heap.size := fun y hy => by
    rcases H12.out.2.1 with ⟨_, h⟩ | ⟨gg, h, _, ho⟩
    ·rw [h] at hy; cases hy
    ·rw [h] at hy
     rcases List.mem_cons.1 hy with rfl | hy
     ·rcases H12.out.2.2.2 y ho with h2 | h2
      ·have h3 : gb = y := by simpa [Value.ownBlock] using h2
       omega
      ·have h3 : wr.heap.size <= y := h2
       have := T6.out.size;omega
     ·rcases H12.out.2.2.1 y hy with h2 | h2
      ·have h3 := HCB.out.1 y h2
       exact ⟨fun e => hng1.2 (e ▸ h3), by have := lf2 y h3; omega⟩
      ·exact ⟨fun e => hng3.2 (e ▸ h2), by have := lf4 y h2; omega⟩
   have q0 := Reps.keep _ RQ.out.1 (t18.keeps fun y hy => ⟨ll0 y hy, by simp only [List.mem_cons, List.not_mem_nil, or_false, not_or]; exact ⟨fun e => HND.out.1 (e ▸ hy), fun e => hng0 (e ▸ hy)⟩⟩);have q2 := Reps.keep _ RQ.out.2 (t18.keeps fun y hy => ⟨ll4 y hy, by simp only [List.mem_cons, List.not_mem_nil, or_false, not_or]; exact ⟨fun e => HND.out.2.2 (e ▸ hy), fun e => hng4 (e ▸ hy)⟩⟩);have q1 : Rep w8 (⟨p.parts[k].nest, p.parts[k].body ++ p.parts[k + 1].body⟩ : Prt).d [Value.slice A1p p.parts[k].nest.length c1p, Value.slice A12 N12 c12] (f1 ++ bs12) := Rep.prt_iff.2 ⟨A1p, c1p, A12, c12, f1, bs12, by rw [HN12.out]; simp, rfl, Rep.keep _ GN.out (t18.keeps fun y hy => ⟨lf1 y hy, by simp only [List.mem_cons, List.not_mem_nil, or_false, not_or]; exact ⟨fun e => HND.out.2.1 (e ▸ hy), fun e => hng1.1 (e ▸ hy)⟩⟩), by
    have h := Rep.keep _ H12.out.1 (t28.keeps fun y hy => ⟨Rep.lt _ H12.out.1 y hy, by simpa using (hv12 y hy).1⟩);rw [show (p.parts[k].body ++ p.parts[k + 1].body).length = N12 by rw [HN12.out]; simp];exact h⟩
   have hin : ∀ y ∈ l0 ++ ((f1 ++ bs12) ++ l4), y ≠ w1.heap.size := fun y hy => by
    simp only [List.mem_append] at hy;rcases hy with hy | (hy | hy) | hy
    ·have := ll0 y hy; omega
    ·have := lf1 y hy; omega
    ·exact (hv12 y hy).2
    ·have := ll4 y hy; omega
   obtain ⟨A8, c8, bs9, hA8, r8, hne9⟩ := qCX (xs := p.parts.take k) (zs := p.parts.drop (k + 2)) q0 q1 q2 hin hown9 (by rw [List.length_take, List.length_drop]; omega) (fun y hy => by
    have : g = y := by simpa [Value.ownBlock] using hy
    omega)
   simp only [Value.slice.injEq, true_and] at hA8;obtain ⟨rfl, rfl⟩ := hA8;have hgB := HD.out.2;simp at hgB;have hzw := S1.size;have hgbB := HC.out.2.2.1 gb (by rw [GB.out.1]; simp [qm]);have S8 : Below w.heap.size w w8 := S1.trans (t18.below (by omega) (fun y hy => by simp only [List.mem_cons, List.not_mem_nil, or_false] at hy; rcases hy with rfl | rfl <;> omega));have XO8 : BoxW w8 w1.heap.size (.slice A1r p.arrays.length c1r) (.slice (some ⟨g, 0, none⟩) p.parts.length c2r) := t8.boxW XO13.out (by simp; omega);have XR8 : BoxW w8 (w.heap.size + 1) (.slice none 0 0) (.slice none 0 0) := t18.boxW HX1.out (by simp; omega);have RA8 : Rep w8 (sls Ar.d p.arrays) [.slice A1r p.arrays.length c1r] dd := Rep.keep _ R1.out (t18.keeps fun y hy => ⟨Rep.lt _ R1.out y hy, fun hm => by have := (HD.out.1 y hy).2; simp only [List.mem_cons, List.not_mem_nil, or_false] at hm; omega⟩);have HR8 := qQ (qV r8 (qV hne9 (qV RA8 (fun hm => by have := Rep.lt _ R1.out _ hm; omega : w1.heap.size ∉ dd))));have HXR := qQ XR8;have HS8 := qQ S8;obtain ⟨⟨m1, m2⟩, m3, m4⟩ := XO8;have ltO8 := qW m1;clear r8 hne9 RA8 XR8 hown8 hown9 t8 t18 t28 hin q0 q1 q2 e5 e6 lf1 lf2 lf4 ll0 ll4 hng0 hng1 hng3 hng4 hv12 t12;go_wp2_with fail;have eq : qKB p k = ⟨p.arrays, p.parts.take k ++ ⟨p.parts[k].nest, p.parts[k].body ++ p.parts[k + 1].body⟩ :: p.parts.drop (k + 2)⟩ := by
    unfold qKB wH;rw [jC hk, wD hk1];simp
   have RQ9 : Rep (w8.setCell ⟨w1.heap.size, 1, none⟩ (.slice (some ⟨g, 0, none⟩) (p.parts.length - 1) c2r)) (qKB p k).d [.slice A1r p.arrays.length c1r, .slice (some ⟨g, 0, none⟩) (p.parts.length - 1) c2r] (dd ++ bs9) := by
    rw [eq];exact Rep.pgm_of (Rep.keep _ HR8.out.2.2.1 ((qD.refl _ _).setCell HR8.out.2.2.2 _)) (Rep.keep _ HR8.out.1 ((qD.refl _ _).setCell (fun hm => HR8.out.2.1 _ hm rfl) _))
   refine (qSB RQ9).mono ?_;rintro e w10 ⟨A1f, c1f, A2f, c2f, bsf, rfl, rf, ndf, hbf, b10⟩;have hz10 := HS8.out.size;have XR9 : BoxW (w8.setCell ⟨w1.heap.size, 1, none⟩ (.slice (some ⟨g, 0, none⟩) (p.parts.length - 1) c2r)) (w.heap.size + 1) (.slice none 0 0) (.slice none 0 0) := ⟨Box2.set HXR.out.1 (by simp; omega) _, by rw [World.frozen?_setCell]; exact HXR.out.2.1, by rw [World.frozen?_setCell]; exact HXR.out.2.2⟩;obtain ⟨⟨r1, r2⟩, r3, r4⟩ := XR9.to b10;have S10 : Below w.heap.size w w10 := (HS8.out.setCell (by simp; omega) _).trans (b10.mono (by simp [World.setCell]; omega));have HF9 := qQ (qV rf (qV ndf hbf));have ltR := qW r1;obtain ⟨Q, hQ⟩ : ∃ Q, Q = finF (qKB p k) := ⟨_, rfl⟩;rw [<- hQ] at HF9 ⊢;have HQ9 := qQ hQ;have HS10 := qQ S10;clear rf ndf hbf b10 XR9 RQ9 eq m1 m2 m3 m4 hQ S10;go_wp2;have hnb : w.heap.size + 1 ∉ bsf := fun hm => by have := HF9.out.2.2 _ hm; simp [World.setCell] at this; omega
   exact bodyPost_ret (v := .tuple #[.agg #[.slice A1f Q.1.arrays.length c1f, .slice A2f Q.1.parts.length c2f], .bool Q.2]) (by simp [results, Tryz.results18, go_sem, r1, r2, ltR]) rfl (by rw [qRO HDB.out HBAD.out, <- HQ9.out]; exact ⟨_, _, _, _, bsf, rfl, Rep.keep _ HF9.out.1 (((qD.refl _ _).setCell hnb _).setCell hnb _), HF9.out.2.1, fun y hy => by have := HF9.out.2.2 y hy; simp [World.setCell] at this; omega, (HS10.out.setCell (by simp) _).setCell (by simp) _⟩)
  have dp := HM.out ds[j] (List.getElem_mem hlt);obtain ⟨a, hfa⟩ := Int.eq_ofNat_of_zero_le dp.f0;obtain ⟨b, htb⟩ := Int.eq_ofNat_of_zero_le (show 0 <= ds[j].to_ by have := dp.ft; have := dp.f0; omega);have ul : (zJ p).length = (qM p).length := vE p;have hbl : b < (qM p).length := by have := dp.t1; rw [htb, ul] at this; omega
  have hal : a < (qM p).length := by have := dp.ft; rw [htb, hfa] at this; omega
  have HIT := qQ (show wR p (k : Int) ds[j] = hitU (k : Int) (qM p)[a] (qM p)[b] by rw [wR, hfa, htb, qVZ hal, qVZ hbl]);have HSTEP := qQ (HBJ.out.trans (qBJ (f := wR p (k : Int)) hlt));obtain ⟨bd, od, csd, ld, rfl, hbld, hrd, _, _, hcd⟩ := (D5.out.below hb).sls_at Dp.d_size (k := j) hlt;have Gd := qQ hrd;obtain ⟨rfl, rfl, g1d, g2d, g3d⟩ := Rep.dp_iff.1 hrd;have k0d := (hcd 0 _ rfl).1; rw [Nat.add_zero] at k0d;have k1d := (hcd 1 _ rfl).1;have k2d := (hcd 2 _ rfl).1;have Q1d := qQ g1d;have Q2d := qQ g2d;have Q3d := qQ g3d;clear hcd hrd g1d g2d g3d;rw [hfa] at k0d;rw [htb] at k1d;obtain ⟨bx, ox, csx, lx, rfl, hblx, hrx, _, _, hcx⟩ := (L5.out.below hb).sls_at In.d_size (k := a) hal;have Gx := qQ hrx;obtain ⟨A3x, c3x, d3x, rfl, rfl, g1x, g2x, g3x⟩ := Rep.in_iff.1 hrx;have k0x := (hcx 0 _ rfl).1; rw [Nat.add_zero] at k0x;have k1x := (hcx 1 _ rfl).1;have k2x := (hcx 2 _ rfl).1;have Q1x := qQ g1x;have Q2x := qQ g2x;have Q3x := qQ g3x;clear hcx hrx g1x g2x g3x;obtain ⟨bz, oz, csz, lz, heqz, hblz, hrz, _, _, hcz⟩ := (L5.out.below hb).sls_at In.d_size (k := b) hbl;obtain ⟨rfl, rfl⟩ : bx = bz /\ ox = oz := by simpa using heqz
  have Gz := qQ hrz;obtain ⟨A3z, c3z, d3z, rfl, rfl, g1z, g2z, g3z⟩ := Rep.in_iff.1 hrz;have k0z := (hcz 0 _ rfl).1; rw [Nat.add_zero] at k0z;have k1z := (hcz 1 _ rfl).1;have k2z := (hcz 2 _ rfl).1;have Q1z := qQ g1z;have Q2z := qQ g2z;have Q3z := qQ g3z;clear hcz hrz g1z g2z g3z;have x2r := qZD HXT.out hb;have ltr := qW x2r;have hln := HLN.out;clear dp ul hfa htb;obtain ⟨ia, hia⟩ : ∃ ia, ia = (qM p)[a] := ⟨_, rfl⟩;obtain ⟨iz, hiz⟩ : ∃ iz, iz = (qM p)[b] := ⟨_, rfl⟩;rw [<- hia, <- hiz] at HIT;rw [<- hia] at k0x k1x k2x Q3x;rw [<- hiz] at k0z k1z k2z Q3z;clear hia hiz;go_upto_region 8 with (fail);go_cut [13, 14] (fun u13 u14 wc => ∃ g1 g2 : Nat, u13 = .pointer (some ⟨g1, 0, none⟩) /\ u14 = .pointer (some ⟨g2, 0, none⟩) /\ Row wc g1 84 [.int .i64 ia.part, .int .i64 ia.stmt, .slice A3x ia.point.length c3x] /\ Row wc g2 84 [.int .i64 iz.part, .int .i64 iz.stmt, .slice A3z iz.point.length c3z] /\ Below wr.heap.size wr wc)
  case first =>
   refine wp_region_noPanic ?_;refine zM (S := fun w' => w'.cell? ⟨gt, 2, none⟩ = some (.slice (some ⟨bx, ox, none⟩) (qM p).length c3) /\ w'.cell? ⟨wr.heap.size, 0, none⟩ = some (.int .i64 (a : Int)) /\ w'.cell? ⟨wr.heap.size, 1, none⟩ = some (.int .i64 (b : Int)) /\ w'.cell? ⟨bx, ox + a * 3, none⟩ = some (.int .i64 ia.part) /\ w'.cell? ⟨bx, ox + a * 3 + 1, none⟩ = some (.int .i64 ia.stmt) /\ w'.cell? ⟨bx, ox + a * 3 + 2, none⟩ = some (.slice A3x ia.point.length c3x) /\ w'.cell? ⟨bx, ox + b * 3, none⟩ = some (.int .i64 iz.part) /\ w'.cell? ⟨bx, ox + b * 3 + 1, none⟩ = some (.int .i64 iz.stmt) /\ w'.cell? ⟨bx, ox + b * 3 + 2, none⟩ = some (.slice A3z iz.point.length c3z)) 19 (by kernel_rfl) (⟨by go_simp, by go_simp, by go_simp, by go_simp, by go_simp, by go_simp, by go_simp, by go_simp, by go_simp⟩) (fun hHeld => ?_);refine goU 0 (fun _ => hHeld) ?_;refine goU 1 (fun _ => hHeld) ?_;refine goU 2 (fun _ => hHeld) ?_;refine goT 3 hHeld ?_;refine goU 4 (fun _ => hHeld) ?_;refine goT 5 hHeld ?_;refine goU 6 (fun _ => hHeld) ?_;refine goT 7 hHeld ?_;refine goU 8 (fun _ => hHeld) ?_;refine goU 9 (fun _ => hHeld) ?_;refine goU 10 (fun _ => hHeld) ?_;refine goT 11 hHeld ?_;refine goU 12 (fun _ => hHeld) ?_;refine goT 13 hHeld ?_;refine goU 14 (fun _ => hHeld) ?_;refine goT 15 hHeld ?_;refine qS (rs := [16, 17]) (by kernel_rfl) (by simp) (all2 ?_ ?_)
   ·refine opT (i := 16) rfl (qK rfl) (fun K hK => ?_)
    (refine vA 84 (cells := [.int .i64 0, .int .i64 0, .slice none 0 0]) (by unfold Oper.wp; go_simp) ?_; intro v16 g16 row16 b16 hg16 hl16; (try simp at hg16); have z16 := b16.size; (try simp at z16); have BW16 : Below wr.heap.size wr v16 := bel; (try have row17b := row17.to b16))
    refine hK.out _ _ (⟨qG hHeld.1 b16, qG hHeld.2.1 b16, qG hHeld.2.2.1 b16, qG hHeld.2.2.2.1 b16, qG hHeld.2.2.2.2.1 b16, qG hHeld.2.2.2.2.2.1 b16, qG hHeld.2.2.2.2.2.2.1 b16, qG hHeld.2.2.2.2.2.2.2.1 b16, qG hHeld.2.2.2.2.2.2.2.2 b16⟩) (fun hHeld => ?_);clear hK K
    try simp only [Act.put, aq0, aq1, aq2]
    refine qS (rs := [17]) (by kernel_rfl) (by simp) (all1 ?_);refine opT (i := 17) rfl (qK rfl) (fun K hK => ?_)
    (refine vA 84 (cells := [.int .i64 0, .int .i64 0, .slice none 0 0]) (by unfold Oper.wp; go_simp) ?_; intro v17 g17 row17 b17 hg17 hl17; (try simp at hg17); have z17 := b17.size; (try simp at z17); have BW17 : Below wr.heap.size wr v17 := bel; (try have row16b := row16.to b17))
    refine hK.out _ _ (⟨qG hHeld.1 b17, qG hHeld.2.1 b17, qG hHeld.2.2.1 b17, qG hHeld.2.2.2.1 b17, qG hHeld.2.2.2.2.1 b17, qG hHeld.2.2.2.2.2.1 b17, qG hHeld.2.2.2.2.2.2.1 b17, qG hHeld.2.2.2.2.2.2.2.1 b17, qG hHeld.2.2.2.2.2.2.2.2 b17⟩) (fun hHeld => ?_);clear hK K
    try simp only [Act.put, aq0, aq1, aq2]
    refine qS (rs := [18]) (by kernel_rfl) (by simp) (all1 ?_);refine opT (i := 18) rfl (qK rfl) (fun K hK => ?_)
    ((first | refine qO 84 (.tmp 13) (.tmp 67) rfl (vs := [.int .i64 ia.part, .int .i64 ia.stmt, .slice A3x ia.point.length c3x]) rfl rfl row16b rfl Tryz.sizeInst3 rfl ?_ | refine qO 84 (.tmp 13) (.tmp 67) rfl (vs := [.int .i64 ia.part, .int .i64 ia.stmt, .slice A3x ia.point.length c3x]) rfl rfl row16 rfl Tryz.sizeInst3 rfl ?_); intro v18 row18 t18; (first | have row17c := Row.tchP row17b t18 (by omega) (by simp; omega) | have row17c := Row.tchP row17 t18 (by omega) (by simp; omega)); (first | have BW18 := BW17.trans (t18.below BW17.size (by simp; omega)) | have BW18 := BW16.trans (t18.below BW16.size (by simp; omega))))
    refine hK.out _ _ (⟨t18.cellR hHeld.1 (by simp; omega), t18.cellR hHeld.2.1 (by simp; omega), t18.cellR hHeld.2.2.1 (by simp; omega), t18.cellR hHeld.2.2.2.1 (by simp; omega), t18.cellR hHeld.2.2.2.2.1 (by simp; omega), t18.cellR hHeld.2.2.2.2.2.1 (by simp; omega), t18.cellR hHeld.2.2.2.2.2.2.1 (by simp; omega), t18.cellR hHeld.2.2.2.2.2.2.2.1 (by simp; omega), t18.cellR hHeld.2.2.2.2.2.2.2.2 (by simp; omega)⟩) (fun hHeld => ?_);clear hK K
    try simp only [Act.put, aq0, aq1, aq2]
    refine qS (rs := [19]) (by kernel_rfl) (by simp) (all1 ?_);refine opTT (i := 19) rfl (qK rfl) (by kernel_rfl) (fun K hK => ?_)
    (refine qO 84 (.tmp 14) (.tmp 75) rfl (vs := [.int .i64 iz.part, .int .i64 iz.stmt, .slice A3z iz.point.length c3z]) rfl rfl row17c rfl Tryz.sizeInst3 rfl ?_; intro v19 row19 t19; have HF := qQ (qV (Row.tchP row18 t19 row18.lt (by simp; omega)) (qV row19 (BW18.trans (t19.below BW18.size (by simp; omega))))))
    refine hK.out _ _ ?_;clear hK K
    try simp only [Act.put, aq0, aq1, aq2]
    refine qI (by kernel_rfl) ?_ _;refine NoPanic.normal ?_
    (go_wp2; go_meet; (case rel => exact ⟨_, _, rfl, rfl, HF.out.1, HF.out.2.1, HF.out.2.2⟩))
   ·refine opT (i := 17) rfl (qK rfl) (fun K hK => ?_)
    (refine vA 84 (cells := [.int .i64 0, .int .i64 0, .slice none 0 0]) (by unfold Oper.wp; go_simp) ?_; intro v17 g17 row17 b17 hg17 hl17; (try simp at hg17); have z17 := b17.size; (try simp at z17); have BW17 : Below wr.heap.size wr v17 := bel; (try have row16b := row16.to b17))
    refine hK.out _ _ (⟨qG hHeld.1 b17, qG hHeld.2.1 b17, qG hHeld.2.2.1 b17, qG hHeld.2.2.2.1 b17, qG hHeld.2.2.2.2.1 b17, qG hHeld.2.2.2.2.2.1 b17, qG hHeld.2.2.2.2.2.2.1 b17, qG hHeld.2.2.2.2.2.2.2.1 b17, qG hHeld.2.2.2.2.2.2.2.2 b17⟩) (fun hHeld => ?_);clear hK K
    try simp only [Act.put, aq0, aq1, aq2]
    refine qS (rs := [16]) (by kernel_rfl) (by simp) (all1 ?_);refine opT (i := 16) rfl (qK rfl) (fun K hK => ?_)
    (refine vA 84 (cells := [.int .i64 0, .int .i64 0, .slice none 0 0]) (by unfold Oper.wp; go_simp) ?_; intro v16 g16 row16 b16 hg16 hl16; (try simp at hg16); have z16 := b16.size; (try simp at z16); have BW16 : Below wr.heap.size wr v16 := bel; (try have row17b := row17.to b16))
    refine hK.out _ _ (⟨qG hHeld.1 b16, qG hHeld.2.1 b16, qG hHeld.2.2.1 b16, qG hHeld.2.2.2.1 b16, qG hHeld.2.2.2.2.1 b16, qG hHeld.2.2.2.2.2.1 b16, qG hHeld.2.2.2.2.2.2.1 b16, qG hHeld.2.2.2.2.2.2.2.1 b16, qG hHeld.2.2.2.2.2.2.2.2 b16⟩) (fun hHeld => ?_);clear hK K
    try simp only [Act.put, aq0, aq1, aq2]
    refine qS (rs := [18]) (by kernel_rfl) (by simp) (all1 ?_);refine opT (i := 18) rfl (qK rfl) (fun K hK => ?_)
    ((first | refine qO 84 (.tmp 13) (.tmp 67) rfl (vs := [.int .i64 ia.part, .int .i64 ia.stmt, .slice A3x ia.point.length c3x]) rfl rfl row16b rfl Tryz.sizeInst3 rfl ?_ | refine qO 84 (.tmp 13) (.tmp 67) rfl (vs := [.int .i64 ia.part, .int .i64 ia.stmt, .slice A3x ia.point.length c3x]) rfl rfl row16 rfl Tryz.sizeInst3 rfl ?_); intro v18 row18 t18; (first | have row17c := Row.tchP row17b t18 (by omega) (by simp; omega) | have row17c := Row.tchP row17 t18 (by omega) (by simp; omega)); (first | have BW18 := BW17.trans (t18.below BW17.size (by simp; omega)) | have BW18 := BW16.trans (t18.below BW16.size (by simp; omega))))
    refine hK.out _ _ (⟨t18.cellR hHeld.1 (by simp; omega), t18.cellR hHeld.2.1 (by simp; omega), t18.cellR hHeld.2.2.1 (by simp; omega), t18.cellR hHeld.2.2.2.1 (by simp; omega), t18.cellR hHeld.2.2.2.2.1 (by simp; omega), t18.cellR hHeld.2.2.2.2.2.1 (by simp; omega), t18.cellR hHeld.2.2.2.2.2.2.1 (by simp; omega), t18.cellR hHeld.2.2.2.2.2.2.2.1 (by simp; omega), t18.cellR hHeld.2.2.2.2.2.2.2.2 (by simp; omega)⟩) (fun hHeld => ?_);clear hK K
    try simp only [Act.put, aq0, aq1, aq2]
    refine qS (rs := [19]) (by kernel_rfl) (by simp) (all1 ?_);refine opTT (i := 19) rfl (qK rfl) (by kernel_rfl) (fun K hK => ?_)
    (refine qO 84 (.tmp 14) (.tmp 75) rfl (vs := [.int .i64 iz.part, .int .i64 iz.stmt, .slice A3z iz.point.length c3z]) rfl rfl row17c rfl Tryz.sizeInst3 rfl ?_; intro v19 row19 t19; have HF := qQ (qV (Row.tchP row18 t19 row18.lt (by simp; omega)) (qV row19 (BW18.trans (t19.below BW18.size (by simp; omega))))))
    refine hK.out _ _ ?_;clear hK K
    try simp only [Act.put, aq0, aq1, aq2]
    refine qI (by kernel_rfl) ?_ _;refine NoPanic.normal ?_
    (go_wp2; go_meet; (case rel => exact ⟨_, _, rfl, rfl, HF.out.1, HF.out.2.1, HF.out.2.2⟩))
  case rest =>
   obtain ⟨g1, g2, rfl, rfl, row1, row2, bw⟩ := hcut;have a0 := row1.cell 0;have a2 := row1.cell 2;have y0 := row2.cell 0;have y2 := row2.cell 2;have la := row1.lt;have lc := row2.lt;simp only [List.getElem?_cons_zero, List.getElem?_cons_succ] at a0 a2 y0 y2;have S8 := qQ (qY (qY (qY S1 T5.out) hb) bw);obtain ⟨⟨r0, r1⟩, r2, r3⟩ := HX1.out.to (qY (qY T5.out hb) bw);have ltq := qW r0;have RX := qQ (Q3x.out.below bw);have RZ := qQ (Q3z.out.below bw);clear row1 row2;by_cases d1 : ia.part = (k : Int)
   case neg =>
    have q1 : (ia.part == (k : Int)) = false := by simpa using d1
    have hh : hitU (k : Int) ia iz = false := by simp [hitU, d1]
    have HN := qQ (show badU p (k : Int) = (ds.drop (j + 1)).any (wR p (k : Int)) by rw [HSTEP.out, HIT.out, hh, Bool.false_or]);clear hh;go_wp2;go_roundw
    case rel => exact ⟨j + 1, hlt, by go_num, HN.out, qY hb bw⟩
    case measure => (simp [intOf]; omega)
   have q1 : (ia.part == (k : Int)) = true := by simpa using d1
   by_cases d2 : iz.part = (k : Int) + 1
   case neg =>
    have q2 : (iz.part == (k : Int) + 1) = false := by simpa using d2
    have hh : hitU (k : Int) ia iz = false := by simp [hitU, d2]
    have HN := qQ (show badU p (k : Int) = (ds.drop (j + 1)).any (wR p (k : Int)) by rw [HSTEP.out, HIT.out, hh, Bool.false_or]);clear hh;go_wp2;go_roundw
    case rel => exact ⟨j + 1, hlt, by go_num, HN.out, qY hb bw⟩
    case measure => (simp [intOf]; omega)
   have q2 : (iz.part == (k : Int) + 1) = true := by simpa using d2
   go_wp2_with fail;refine (qKM RZ.out RX.out).mono ?_;rintro e W9 ⟨rfl, rfl⟩
   cases hL : uE iz.point ia.point with
   | false =>
    have hh : hitU (k : Int) ia iz = false := by simp [hitU, hL]
    have HN := qQ (show badU p (k : Int) = (ds.drop (j + 1)).any (wR p (k : Int)) by rw [HSTEP.out, HIT.out, hh, Bool.false_or]);clear hh;go_wp2;go_roundw
    case rel => exact ⟨j + 1, hlt, by go_num, HN.out, qY hb bw⟩
    case measure => (simp [intOf]; omega)
   | true =>
    have hh0 : hitU (k : Int) ia iz = true := by rw [hitU, decide_eq_true d1, decide_eq_true d2, hL]; rfl
    have hh : badU p (k : Int) = true := by rw [HSTEP.out, HIT.out, hh0, Bool.true_or]
    have HHB := qQ hh;clear hh0 hh;go_wp2;have Sr := S8.out;exact bodyPost_ret (v := .tuple #[.agg #[.slice none 0 0, .slice none 0 0], .bool false]) (by simp [results, Tryz.results18, go_sem, r0, r1, ltq]) rfl (by rw [qDF HHB.out]; exact zP.nil ((S8.out.setCell (by simp) _).setCell (by simp) _))
theorem wM {w : World} {p : Pgm} {k : Int} {cs : List Value} {bs : List Nat} (h : Rep w p.d cs bs) :
  Calls Tryz.prog 18 #[.agg cs.toArray, .int .i64 k] w (zP w (zT p k)) := by
 cases hv : (zK p && inB k 0 ((p.parts.length : Int) - 1)) with
 | false =>
  have hb : qQM p k = false := by
   cases hb : qQM p k with
   | false => rfl
   | true =>
    obtain ⟨h1, q, rfl, hq, _⟩ := qKC hb;rw [h1, uH (by omega) (by omega)] at hv
    cases hv
  rw [qKR hb];exact qCU h hv
 | true =>
  simp only [Bool.and_eq_true] at hv;obtain ⟨hv, hin⟩ := hv;have h2 := uZ.1 hin;obtain ⟨q, rfl⟩ := Int.eq_ofNat_of_zero_le h2.1;have hq : q < p.parts.length := by omega
  by_cases hq1 : q + 1 < p.parts.length
  ·cases hns : uM p.parts[q].nest p.parts[q + 1].nest with
   | true => exact qCG h hv hq hq1 hns
   | false =>
    have hb : qQM p (q : Int) = false := by
     rw [qQM, jC hq, wD hq1, hns, Bool.and_false, Bool.and_false]
    rw [qKR hb];exact qCD h hv hq hq1 hns
  ·have hb : qQM p (q : Int) = false := by
    cases hb : qQM p (q : Int) with
    | false => rfl
    | true =>
     obtain ⟨_, q', e, hq', _⟩ := qKC hb;omega
   rw [qKR hb];exact qCF h hv hq (by omega)
end Go.Proofs.YtgogjbnneoadkaaGreat
