/- slices.Delete on slices of parts. -/
import Derived.Test.YtgogjbnneoadkaaGreatZfBasic
import Derived.Test.YtgogjbnneoadkaaGreatZfTyPart
import Derived.Test.YtgogjbnneoadkaaGreatZfCore
import Derived.Laws.CopyRow
import Derived.Lib.AppendZerosOnto
import Derived.Lib.Overlaps
import Derived.Laws.NewBlocks
import Derived.Test.YtgogjbnneoadkaaGreatZfSame
import Derived.Test.YtgogjbnneoadkaaGreatZfBegun
import Derived.Test.YtgogjbnneoadkaaGreatZfWith
import Derived.Test.YtgogjbnneoadkaaGreatZfDeps1
import Derived.Test.YtgogjbnneoadkaaGreatZfBoxNest
import Derived.Deep.CutBlock
import Derived.Lib.SliceRun
import Derived.Test.YtgogjbnneoadkaaGreatZfOwnG
set_option linter.all false
set_option maxHeartbeats 4000000
set_option maxRecDepth 100000
namespace Go.Proofs.YtgogjbnneoadkaaGreat
open Go.ChangeShapes Go.WideShapes Go.ChangeAt Go.RowKit Go.Deep
theorem Rep.pgm_of {w : World} {xs : List Ar} {ys : List Prt} {u v : Value} {d1 d2 : List Nat} (h1 : Rep w (sls Ar.d xs) [u] d1) (h2 : Rep w (sls Prt.d ys) [v] d2) : Rep w (⟨xs, ys⟩ : Pgm).d [u, v] (d1 ++ d2) :=
 ⟨[u], [v], d1, d2, rfl, rfl, h1, [v], [], d2, [], rfl, by simp, h2, rfl, rfl⟩
theorem vA {P : Program} {w : World} {o : Oper} {a : Act} {K : Act -> World -> Prop} {Q : Exit -> Act -> World -> Prop} (e : TypeId) {cells : List Value}
  (hop : o.wp P a w K Q = K (a.put o.dst (.pointer (some ⟨w.heap.size, 0, none⟩))) (w.alloc (.cells cells.toArray e)))
  (h : ∀ w' g, Row w' g e cells -> Below w.heap.size w w' -> w.heap.size <= g -> g < w'.heap.size -> K (a.put o.dst (.pointer (some ⟨g, 0, none⟩))) w') : o.wp P a w K Q := by
 rw [hop];exact h _ _ (Row.new w cells e) ((Below.refl _ _).alloc (qJ _) _) (qJ _) (by simp)
theorem Tryz.sizePart2 : (Tryz.prog.info? 54).map (·.size) = some 2 := by kernel_rfl
theorem qNU {w : World} {B : Nat} {e : TypeId} {size n g c i : Nat} {es : List Value} (h : w.ownsRow B e size (.slice (some ⟨g, 0, none⟩) n c) n es) (hi : i < n * size) (u : Value) :
  (w.setCell ⟨g, i, none⟩ u).ownsRow B e size (.slice (some ⟨g, 0, none⟩) n c) n (es.set i u) := by
 obtain ⟨h1, h0 | ⟨g', cap, cur, hv, h2, h3, h4, h5, h6, h7⟩⟩ := h
 ·cases h0.1
 ·simp only [Value.slice.injEq, Option.some.injEq, Addr.mk.injEq] at hv
  obtain ⟨⟨rfl, _⟩, _, rfl⟩ := hv;refine ⟨by simpa using h1, .inr ⟨g, c, (cur.toList.set i u).toArray, rfl, h2, ?_, h4, h5, by simpa using h6, ?_⟩⟩
  ·have hr : Row w g e cur.toList := by unfold Row; rw [h3]
   have := hr.set i u;unfold Row at this;exact this
  ·rw [<- h7]
   simp only [List.toList_toArray];rw [List.take_set]
theorem qBS {w : World} {B : Nat} {e : TypeId} {n g c k : Nat} {e0 e2 : List Value} {u v x : Value} (h : w.ownsRow B e 2 (.slice (some ⟨g, 0, none⟩) n c) n (e0 ++ [u, v] ++ e2)) (h0 : e0.length = k * 2) (hk : k < n) :
  (w.setCell ⟨g, k * 2 + 1, none⟩ x).ownsRow B e 2 (.slice (some ⟨g, 0, none⟩) n c) n (e0 ++ [u, x] ++ e2) := by
 have := qNU h (i := k * 2 + 1) (by omega) x;have e1 : (e0 ++ [u, v] ++ e2).set (k * 2 + 1) x = e0 ++ [u, x] ++ e2 := by
  rw [List.append_assoc, List.set_append_right _ _ (by omega), h0, Nat.add_sub_cancel_left, List.append_assoc]; rfl
 rwa [e1] at this
theorem Row.tchP {w w' : World} {g : Nat} {t : TypeId} {l : List Value} {bs : List Nat} (h : Row w g t l) (t1 : Touch bs w w') (hg : g < w.heap.size) (hn : g ∉ bs) : Row w' g t l := h.of_block (t1.block g hg hn)
theorem qBT {w : World} {B : Nat} {e : TypeId} {size n g c : Nat} {es : List Value} (h : w.ownsRow B e size (.slice (some ⟨g, 0, none⟩) n c) n es) (i : Nat) : w.frozen? ⟨g, i, none⟩ = false := by
 obtain ⟨h1, h0 | ⟨g', cap, cur, hv, h2, h3, h4, h5, h6, h7⟩⟩ := h
 ·cases h0.1
 ·simp only [Value.slice.injEq, Option.some.injEq, Addr.mk.injEq] at hv
  obtain ⟨⟨rfl, _⟩, _, rfl⟩ := hv;have hr : Row w g e cur.toList := by unfold Row; rw [h3]
  exact hr.frozen i
theorem Tryz.sizeInst3 : (Tryz.prog.info? 84).map (·.size) = some 3 := by kernel_rfl
section
variable {P : Program} {w w' : World} {B : Nat} {e : TypeId} {size : Nat}
theorem qKJ (t ty : TypeId) (i : TypeInfo) (ht : P.underlying t = some (.slice e)) (hi : P.info? e = some i) (hsize : i.size = size) {g n cap : Nat} {xs : List Value} (hown : w.ownsRow B e size (.slice (some ⟨g, 0, none⟩) n cap) n xs)
  (a : Addr) (m c : Nat) (news : List Value) (hl : news.length = m * size) (hnews : ∀ j u, news[j]? = some u -> w.cell? (a.add j) = some u) (h1 : ∀ u ∈ news, u.oneCell' = true) (hroom : n + m <= cap) :
  ∃ w', (Builtin.append_ #[t, t] ty #[.slice (some ⟨g, 0, none⟩) n cap, .slice (some a) m c]).run P w = .ok (.slice (some ⟨g, 0, none⟩) (n + m) cap) w' /\ w'.ownsRow B e size (.slice (some ⟨g, 0, none⟩) (n + m) cap) (n + m) (xs ++ news) /\ w.grownBy w' (some g) := by
 subst hsize;have hlen : (xs ++ news).length = (n + m) * i.size := by rw [List.length_append, hown.1, hl, Nat.add_mul]
 rcases hown.2 with ⟨h0, _⟩ | ⟨g', cap', cur, hv, hbg, hg, hnc, hcm, hcs, htake⟩
 ·cases h0
 ·simp only [Value.slice.injEq, Option.some.injEq, Addr.mk.injEq] at hv
  obtain ⟨⟨rfl, _⟩, _, rfl⟩ := hv;have hfit : n * i.size + news.length <= cur.size := by rw [hl, hcs, <- Nat.add_mul]; exact Nat.mul_le_mul_right _ hroom
  have hr := run_append_room (P := P) w t ty e i ht hi g n cap cur hg a m c news hl hnews h1 hroom hfit;refine ⟨_, hr, ⟨hlen, .inr ⟨g, cap, _, rfl, hbg, setRow_heap w g cur _ e _ hg, hroom, hcm, ?_, ?_⟩⟩, ⟨rfl, rfl, rfl, by simp, fun k _ hk => setRow_other w g k _ (fun e => hk (by rw [e]))⟩⟩
  ·simp only [List.size_toArray, List.length_append, List.length_take, List.length_drop, Array.length_toList]
   omega
  ·rw [htake, <- hlen]
   exact List.take_left
theorem qNG {g n cap k : Nat} {xs : List Value} (h : w.ownsRow B e size (.slice (some ⟨g, 0, none⟩) n cap) n xs) (hk : k <= n) : w.ownsRow B e size (.slice (some ⟨g, 0, none⟩) k cap) k (xs.take (k * size)) := by
 obtain ⟨h1, ⟨h0, _⟩ | ⟨g', cap', cur, hv, h2, h3, h4, h5, h6, h7⟩⟩ := h
 ·cases h0
 ·simp only [Value.slice.injEq, Option.some.injEq, Addr.mk.injEq] at hv
  obtain ⟨⟨rfl, _⟩, _, rfl⟩ := hv;have hks : k * size <= n * size := Nat.mul_le_mul_right _ hk;refine ⟨by rw [List.length_take, h1]; omega, .inr ⟨g, cap, cur, rfl, h2, h3, by omega, h5, h6, ?_⟩⟩;rw [<- h7, List.take_take, Nat.min_eq_left hks]
theorem yS {g n cap : Nat} {xs : List Value} (h : w.ownsRow B e size (.slice (some ⟨g, 0, none⟩) n cap) n xs) {o : Nat} (ho : n * size <= o) (hc : o < cap * size) (u : Value) :
  (∃ x, w.cell? ⟨g, o, none⟩ = some x) /\ w.frozen? ⟨g, o, none⟩ = false /\ (w.setCell ⟨g, o, none⟩ u).ownsRow B e size (.slice (some ⟨g, 0, none⟩) n cap) n xs := by
 obtain ⟨h1, ⟨h0, _⟩ | ⟨g', cap', cur, hv, h2, h3, h4, h5, h6, h7⟩⟩ := h
 ·cases h0
 ·simp only [Value.slice.injEq, Option.some.injEq, Addr.mk.injEq] at hv
  obtain ⟨⟨rfl, _⟩, _, rfl⟩ := hv;have hr : Row w g e cur.toList := by unfold Row; rw [h3]
  refine ⟨⟨cur[o]'(by omega), by rw [hr.cell, List.getElem?_eq_getElem (by simpa using (by omega : o < cur.size))]; simp⟩, hr.frozen _, h1, .inr ⟨g, cap, (cur.toList.set o u).toArray, rfl, h2, ?_, h4, h5, by simpa using h6, ?_⟩⟩
  ·have := hr.set o u
   unfold Row at this;exact this
  ·rw [<- h7]
   simp only [List.toList_toArray];rw [List.take_set_of_le ho]
end
section
variable {P : Program} {w w' : World} {B : Nat} {e : TypeId} {size : Nat}
theorem qJJ {o : Oper} {a : Act} {K : Act -> World -> Prop} {Q : Exit -> Act -> World -> Prop} (s x : Operand) (t : TypeId)
  (ho : o.op = .call { callee := .builtin .append, args := #[s, x], argTypes := #[t, t] })
  (z : Value) (ht : P.underlying t = some (.slice e)) (hinfo : (P.info? e).map (fun i => (i.zero, i.size, decide (i.bytes <= 1024))) = some (some z, size, true)) {g n cap : Nat} {xs : List Value} (hs : a.eval s = .slice (some ⟨g, 0, none⟩) n cap) (hG : w.ownsRow B e size (.slice (some ⟨g, 0, none⟩) n cap) n xs)
  {ad : Addr} {m c : Nat} {news : List Value} (hx : a.eval x = .slice (some ad) m c) (hl : news.length = m * size) (hnews : ∀ j u, news[j]? = some u -> w.cell? (ad.add j) = some u) (h1 : ∀ u ∈ news, u.oneCell' = true) {N : Nat} (hN : n + m = N) (hroom : N <= cap)
  (h : ∀ w', w'.ownsRow B e size (.slice (some ⟨g, 0, none⟩) N cap) N (xs ++ news) -> Touch [g] w w' -> K (a.put o.dst (.slice (some ⟨g, 0, none⟩) N cap)) w') : o.wp P a w K Q := by
 subst hN;obtain ⟨i, hi, hzz⟩ := Option.map_eq_some_iff.1 hinfo;simp only [Prod.mk.injEq, decide_eq_true_iff] at hzz;obtain ⟨w', hrun, h2, h3⟩ := qKJ (P := P) t o.type i ht hi hzz.2.1 hG ad m c news hl hnews h1 hroom;unfold Oper.wp execOp;simp only [ho, resolve, invoke, builtin, Sem.run_bind, Sem.run_pure, Result.andThen_ok, List.map_toArray, List.map_cons, List.map_nil, hs, hx, hrun];exact h w' h2 ⟨h3.os, h3.tape, h3.output, h3.size, fun y hy hm => h3.block y hy fun e => hm (by simpa using e)⟩
end
theorem qZN {P : Program} (w : World) (t e ty : TypeId) (z1 z2 : Value) (ht : P.underlying t = some (.slice e)) (hv : ∀ w, (zeroValue e).run P w = .ok (.agg #[z1, z2]) w) (h1 : z1.oneCell' = true) (h2 : z2.oneCell' = true) (hzc : (Builtin.zeroCells (Value.agg #[z1, z2]).cells 1).toList = [z1, z2]) (b o c : Nat)
  (hc : ∀ j, j < 2 -> (w.cell? ⟨b, o + j, none⟩).isSome = true) (hf : ∀ j, j < 2 -> w.frozen? ⟨b, o + j, none⟩ = false) :
  (Builtin.clear_ #[t] ty #[.slice (some ⟨b, o, none⟩) 1 c]).run P w = .ok (.tuple #[]) ((w.setCell ⟨b, o, none⟩ z1).setCell ⟨b, o + 1, none⟩ z2) := by
 have hst := run_storeCells_cells (P := P) b o [z1, z2] 0 w (by simpa using hc) (by simpa using hf) (by intro v hv'; simp only [List.mem_cons, List.not_mem_nil, or_false] at hv'; rcases hv' with rfl | rfl <;> assumption);simp only [Nat.add_zero] at hst;simp [Builtin.clear_, run_underlying ht, hv, hzc, hst];rfl
theorem qRC : (Builtin.zeroCells (Value.agg #[.slice none 0 0, .slice none 0 0]).cells 1).toList = [.slice none 0 0, .slice none 0 0] := by kernel_rfl
theorem Tryz.zeroPart2 (w : World) : (zeroValue 54).run Tryz.prog w = .ok (.agg #[.slice none 0 0, .slice none 0 0]) w := by kernel_rfl
theorem qMF {w : World} {B g q cap k : Nat} {es : List Value} (h : w.ownsRow B 54 2 (.slice (some ⟨g, 0, none⟩) (q + 1) cap) (q + 1) es) (hk : k < q + 1) (hl : q <= 1000000) (hone : ∀ u ∈ es, u.oneCell' = true) :
  Calls Tryz.prog 59 #[.slice (some ⟨g, 0, none⟩) (q + 1) cap, .int .i64 (k : Int), .int .i64 ((k : Int) + 1)] w fun e w' => e = .returned (.slice (some ⟨g, 0, none⟩) q cap) /\ w'.ownsRow B 54 2 (.slice (some ⟨g, 0, none⟩) q cap) q (es.take (k * 2) ++ es.drop ((k + 1) * 2)) /\ Touch [g] w w' := by
 have hnc : q + 1 <= cap /\ cap <= maxLen := by
  obtain ⟨_, ⟨h0, _⟩ | ⟨g', cap', cur, hv, _, _, h4, h5, _, _⟩⟩ := h
  ·cases h0
  ·simp only [Value.slice.injEq] at hv
   obtain ⟨_, _, rfl⟩ := hv;exact ⟨h4, h5⟩
 obtain ⟨hnc, hcm⟩ := hnc;have hel : es.length = (q + 1) * 2 := h.1;have HON := qQ (show ∀ u ∈ es.drop ((k + 1) * 2), u.oneCell' = true from fun u hu => hone u (List.mem_of_mem_drop hu));have HDL := qQ (show (es.drop ((k + 1) * 2)).length = (q - k) * 2 by rw [List.length_drop, hel]; omega);have hlg := (uQ h (g := g) rfl).2;have HT := qQ (qNG (k := k) h (by omega));have HCE := qQ (show ∀ j u, (es.drop ((k + 1) * 2))[j]? = some u -> w.cell? ⟨g, (k + 1) * 2 + j, none⟩ = some u from fun j u hu => by
  rw [List.getElem?_drop] at hu;have := h.cells (g := g) rfl ((k + 1) * 2 + j) u hu
  rwa [uG, Nat.zero_add] at this)
 clear h hone hel;have hcm2 : cap <= 9223372036854775807 := hcm;have hk1 : (k <= cap) = True := eq_true (by omega);have hk2 : (k + 1 <= q + 1) = True := eq_true (by omega);have hk3 : q + 1 - (k + 1) = q - k := by omega
 have hk0 : (0 <= (k : Int) + 1) = True := eq_true (by omega);rw [show ((k : Int) + 1) = ((k + 1 : Nat) : Int) from rfl];go_enter Tryz.func59, Tryz.ntmps59;go_wp2_with fail;by_cases hcap : cap = k + 1
 ·have hkq : k = q := by omega
  subst hkq;subst hcap;have hk5 : ((k : Int) <= (k : Int) + 1) = True := eq_true (by omega);refine wp_region_noPanic ?_;refine wp_region_held_drew (S := fun w' => True) (by kernel_rfl) (trivial) (fun hHeld => ?_);refine goR 0 hHeld ?_;refine goR 1 hHeld ?_;refine qVH (i := 2) (v := ?_) rfl rfl (by kernel_rfl) (by kernel_rfl) (by kernel_rfl) (fun _ _ _ h => h) ?_ hHeld ?_;rotate_left 1
  ·intro w hSw; (try dsimp only at hSw); go_simp
   try simp only [hk0, hk1, hk2, hk3, hk5, if_true, if_false, Nat.zero_add, Int.toNat_natCast]
   try with_reducible rfl
  simp only [Act.put, aq0, aq1, aq2];refine goR 3 hHeld ?_;refine goR 4 hHeld ?_;refine qVH (i := 5) (v := ?_) rfl rfl (by kernel_rfl) (by kernel_rfl) (by kernel_rfl) (fun _ _ _ h => h) ?_ hHeld ?_;rotate_left 1
  ·intro w hSw; (try dsimp only at hSw); go_simp
   try simp only [hk0, hk1, hk2, hk3, hk5, if_true, if_false, Nat.zero_add, Int.toNat_natCast]
   try with_reducible rfl
  simp only [Act.put, aq0, aq1, aq2];refine zF (i := 6) rfl (by kernel_rfl) (qK rfl) (fun K hK => ?_)
  (refine qJJ (N := k) (.tmp 22) (.tmp 25) _ rfl _ Tryz.underlying28 Tryz.infoPart rfl (qPY HT.out (fun _ _ => rfl)) rfl (show (es.drop ((k + 1) * 2)).length = 0 * 2 by rw [HDL.out]; omega) ?hn HON.out ?hN ?hr ?_; (case hn => (intro jj u hu; have h0 : (es.drop ((k + 1) * 2)).length = 0 := (by rw [HDL.out]; omega); rw [List.length_eq_zero_iff.1 h0] at hu; simp at hu)); (case hN => omega); (case hr => omega); intro w1 hO1 t1)
  refine hK.out _ _ (trivial) (fun hHeld => ?_);clear hK K
  try simp only [Act.put, aq0, aq1, aq2]
  refine goR 7 hHeld ?_;refine wpAnyH_done (by kernel_rfl) ?_ _;refine NoPanic.normal ?_;obtain ⟨⟨x1, hc1⟩, hf1, hO2⟩ := yS hO1 (o := k * 2) (by omega) (by omega) (.slice none 0 0);obtain ⟨⟨x2, hc2⟩, hf2, _⟩ := yS hO1 (o := k * 2 + 1) (by omega) (by omega) (.slice none 0 0);obtain ⟨_, _, hO3⟩ := yS hO2 (o := k * 2 + 1) (by omega) (by omega) (.slice none 0 0);have HO2 := qQ hO3;have t1b := qQ (show Touch [g] w w1 from ⟨t1.os, t1.tape, t1.output, t1.size, t1.block⟩);clear hO1 hO2 hO3 t1;have hcq : ¬ (k + 1) = k := by omega
  have hlg1 := t1b.out.size;have hclr := fun c => qZN (P := Tryz.prog) w1 28 _ 0 (.slice none 0 0) (.slice none 0 0) Tryz.underlying28 Tryz.zeroPart2 rfl rfl qRC g (k * 2) c (fun j hj => by rcases j with _ | _ | j; (rw [Nat.add_zero, hc1]; rfl); (rw [hc2]; rfl); omega) (fun j hj => by rcases j with _ | _ | j; exact hf1; exact hf2; omega)
  clear hc1 hc2 hf1 hf2;go_wp2;go_ret;exact ⟨rfl, HO2.out, (t1b.out.setCell (by simp) _).setCell (by simp) _⟩
 ·have hcf : (cap = k + 1) = False := eq_false hcap
  have hkq : k <= q := by omega
  refine wp_region_noPanic ?_;refine wp_region_held_drew (S := fun w' => True) (by kernel_rfl) (trivial) (fun hHeld => ?_);refine goR 0 hHeld ?_;refine goR 1 hHeld ?_;refine qVH (i := 2) (v := ?_) rfl rfl (by kernel_rfl) (by kernel_rfl) (by kernel_rfl) (fun _ _ _ h => h) ?_ hHeld ?_;rotate_left 1
  ·intro w hSw; (try dsimp only at hSw); go_simp
   try simp only [hk0, hk1, hk2, hk3, hcf, if_true, if_false, Nat.zero_add, Int.toNat_natCast]
   try with_reducible rfl
  simp only [Act.put, aq0, aq1, aq2];refine goR 3 hHeld ?_;refine goR 4 hHeld ?_;refine qVH (i := 5) (v := ?_) rfl rfl (by kernel_rfl) (by kernel_rfl) (by kernel_rfl) (fun _ _ _ h => h) ?_ hHeld ?_;rotate_left 1
  ·intro w hSw; (try dsimp only at hSw); go_simp
   try simp only [hk0, hk1, hk2, hk3, hcf, if_true, if_false, Nat.zero_add, Int.toNat_natCast]
   try with_reducible rfl
  simp only [Act.put, aq0, aq1, aq2];refine zF (i := 6) rfl (by kernel_rfl) (qK rfl) (fun K hK => ?_)
  (refine qJJ (N := q) (.tmp 22) (.tmp 25) _ rfl _ Tryz.underlying28 Tryz.infoPart rfl (qPY HT.out (fun _ _ => rfl)) rfl HDL.out ?hn2 HON.out ?hN2 ?hr2 ?_; (case hn2 => (intro jj u hu; rw [uG]; exact HCE.out jj u hu)); (case hN2 => omega); (case hr2 => omega); intro w1 hO1 t1)
  refine hK.out _ _ (trivial) (fun hHeld => ?_);clear hK K
  try simp only [Act.put, aq0, aq1, aq2]
  refine goR 7 hHeld ?_;refine wpAnyH_done (by kernel_rfl) ?_ _;refine NoPanic.normal ?_;obtain ⟨⟨x1, hc1⟩, hf1, hO2⟩ := yS hO1 (o := q * 2) (by omega) (by omega) (.slice none 0 0);obtain ⟨⟨x2, hc2⟩, hf2, _⟩ := yS hO1 (o := q * 2 + 1) (by omega) (by omega) (.slice none 0 0);obtain ⟨_, _, hO3⟩ := yS hO2 (o := q * 2 + 1) (by omega) (by omega) (.slice none 0 0);have HO2 := qQ hO3;have t1b := qQ (show Touch [g] w w1 from ⟨t1.os, t1.tape, t1.output, t1.size, t1.block⟩);clear hO1 hO2 hO3 t1;have hcq : ¬ cap = q := by omega
  have hlg1 := t1b.out.size;have hclr := fun c => qZN (P := Tryz.prog) w1 28 _ 0 (.slice none 0 0) (.slice none 0 0) Tryz.underlying28 Tryz.zeroPart2 rfl rfl qRC g (q * 2) c (fun j hj => by rcases j with _ | _ | j; (rw [Nat.add_zero, hc1]; rfl); (rw [hc2]; rfl); omega) (fun j hj => by rcases j with _ | _ | j; exact hf1; exact hf2; omega)
  clear hc1 hc2 hf1 hf2;go_wp2;go_ret;exact ⟨rfl, HO2.out, (t1b.out.setCell (by simp) _).setCell (by simp) _⟩
theorem qMU {w : World} {B g q cap k : Nat} {es : List Value} (h : w.ownsRow B 54 2 (.slice (some ⟨g, 0, none⟩) (q + 1) cap) (q + 1) es) (hk : k + 1 < q + 1) (hl : q <= 1000000) (hone : ∀ u ∈ es, u.oneCell' = true) :
  Calls Tryz.prog 59 #[.slice (some ⟨g, 0, none⟩) (q + 1) cap, .int .i64 ((k : Int) + 1), .int .i64 ((k : Int) + 2)] w fun e w' => e = .returned (.slice (some ⟨g, 0, none⟩) q cap) /\ w'.ownsRow B 54 2 (.slice (some ⟨g, 0, none⟩) q cap) q (es.take ((k + 1) * 2) ++ es.drop ((k + 2) * 2)) /\ Touch [g] w w' := by
 have := qMF (k := k + 1) h hk hl hone;rw [show (((k + 1 : Nat) : Int) + 1) = (k : Int) + 2 by omega] at this;exact this
end Go.Proofs.YtgogjbnneoadkaaGreat
