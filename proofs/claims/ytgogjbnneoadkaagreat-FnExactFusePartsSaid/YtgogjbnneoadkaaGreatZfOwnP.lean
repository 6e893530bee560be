/- The program's own copies: ownPart. -/
import Derived.Test.YtgogjbnneoadkaaGreatZfRowS
import Derived.Test.YtgogjbnneoadkaaGreatZfTyPart
import Derived.Test.YtgogjbnneoadkaaGreatZfTyStmt
import Derived.Test.YtgogjbnneoadkaaGreatZfCopyN
set_option linter.all false
set_option maxHeartbeats 8000000
set_option maxRecDepth 100000
namespace Go.Proofs.YtgogjbnneoadkaaGreat
open Go.ChangeShapes Go.WideShapes Go.ChangeAt Go.RowKit Go.Deep
section
variable {w w' : World} {t : TypeId} {size n c B : Nat} {A : Option Addr} {bs : List Nat}
def qWE (w : World) (t : TypeId) (size : Nat) (A : Option Addr) (n c : Nat) (bs : List Nat) : Prop :=
 n = 0 ∨ ∃ g cur, A = some ⟨g, 0, none⟩ /\ Row w g t cur /\ n <= c /\ c <= maxLen /\ cur.length = c * size /\ g ∈ bs
theorem qWE.keep (h : qWE w t size A n c bs) (k : qD w w' bs) : qWE w' t size A n c bs := by
 rcases h with h | ⟨g, cur, h1, h2, h3⟩
 ·exact .inl h
 ·exact .inr ⟨g, cur, h1, h2.of_block (k.2 g h3.2.2.2), h3⟩
theorem qWE.of_own {es : List Value} (h : w.ownsRow B t size (.slice A n c) n es) (hb : ∀ g, 0 < n -> A = some ⟨g, 0, none⟩ -> g ∈ bs) : qWE w t size A n c bs := by
 rcases Nat.eq_zero_or_pos n with hz | hp
 ·exact .inl hz
 rcases h.2 with ⟨h0, h1⟩ | ⟨g, cap, cur, hv, h2, h3, h4, h5, h6, _⟩
 ·exact .inl h1
 ·simp only [Value.slice.injEq] at hv
  obtain ⟨rfl, _, rfl⟩ := hv;exact .inr ⟨g, cur.toList, rfl, by unfold Row; exact h3, h4, h5, by simpa using h6, hb g hp rfl⟩
end
section
variable {α : Type} {E : World -> α -> List Value -> List Nat -> Prop} {size : Nat} {w w' w0 : World}
structure EK (E : World -> α -> List Value -> List Nat -> Prop) (size : Nat) : Prop where
 keep : ∀ {w w' : World} {x : α} {cs : List Value} {bs : List Nat}, E w x cs bs -> qD w w' bs -> E w' x cs bs
 lt : ∀ {w : World} {x : α} {cs : List Value} {bs : List Nat}, E w x cs bs -> ∀ b ∈ bs, b < w.heap.size
 len : ∀ {w : World} {x : α} {cs : List Value} {bs : List Nat}, E w x cs bs -> cs.length = size
 one : ∀ {w : World} {x : α} {cs : List Value} {bs : List Nat}, E w x cs bs -> ∀ u ∈ cs, u.oneCell' = true
def uD (E : World -> α -> List Value -> List Nat -> Prop) (w : World) : List α -> List Value -> List Nat -> Prop
 | [], cs, bs => cs = [] /\ bs = []
 | x :: xs, cs, bs => ∃ c1 c2 b1 b2, cs = c1 ++ c2 /\ bs = b1 ++ b2 /\ E w x c1 b1 /\ uD E w xs c2 b2
theorem uD.keep (K : EK E size) : (xs : List α) -> {cs : List Value} -> {bs : List Nat} -> uD E w xs cs bs -> qD w w' bs -> uD E w' xs cs bs
 | [], _, _, h, _ => h
 | x :: xs, _, _, h, k => by
  obtain ⟨c1, c2, b1, b2, hc, hb, h1, h2⟩ := h;subst hb;exact ⟨c1, c2, b1, b2, hc, rfl, K.keep h1 k.left, uD.keep K xs h2 k.right⟩
theorem uD.lt (K : EK E size) : (xs : List α) -> {cs : List Value} -> {bs : List Nat} -> uD E w xs cs bs -> ∀ b ∈ bs, b < w.heap.size
 | [], _, _, h => by obtain ⟨_, rfl⟩ := h; simp
 | x :: xs, _, _, h => by
  obtain ⟨c1, c2, b1, b2, hc, rfl, h1, h2⟩ := h;intro b hb;rcases List.mem_append.1 hb with hb | hb
  ·exact K.lt h1 b hb
  ·exact uD.lt K xs h2 b hb
theorem uD.len (K : EK E size) : (xs : List α) -> {cs : List Value} -> {bs : List Nat} -> uD E w xs cs bs -> cs.length = xs.length * size
 | [], _, _, h => by obtain ⟨rfl, _⟩ := h; simp
 | x :: xs, _, _, h => by
  obtain ⟨c1, c2, b1, b2, rfl, _, h1, h2⟩ := h;simp only [List.length_append, List.length_cons, K.len h1, uD.len K xs h2, Nat.add_mul, Nat.one_mul, Nat.add_comm]
theorem jV : (xs ys : List α) -> {cs : List Value} -> {bs : List Nat} ->
  (uD E w (xs ++ ys) cs bs ↔ ∃ c1 c2 b1 b2, cs = c1 ++ c2 /\ bs = b1 ++ b2 /\ uD E w xs c1 b1 /\ uD E w ys c2 b2)
 | [], ys, cs, bs => by
  constructor
  ·exact fun h => ⟨[], cs, [], bs, rfl, rfl, ⟨rfl, rfl⟩, h⟩
  ·rintro ⟨c1, c2, b1, b2, rfl, rfl, ⟨rfl, rfl⟩, h⟩
   exact h
 | x :: xs, ys, cs, bs => by
  constructor
  ·rintro ⟨c1, c2, b1, b2, rfl, rfl, h1, h2⟩
   obtain ⟨d1, d2, e1, e2, rfl, rfl, g1, g2⟩ := (jV xs ys).1 h2;exact ⟨c1 ++ d1, d2, b1 ++ e1, e2, by simp, by simp, ⟨c1, d1, b1, e1, rfl, rfl, h1, g1⟩, g2⟩
  ·rintro ⟨_, d2, _, e2, rfl, rfl, ⟨c1, d1, b1, e1, rfl, rfl, h1, g1⟩, g2⟩
   exact ⟨c1, d1 ++ d2, b1, e1 ++ e2, by simp, by simp, h1, (jV xs ys).2 ⟨d1, d2, e1, e2, rfl, rfl, g1, g2⟩⟩
theorem uD.snoc {xs : List α} {x : α} {es c : List Value} {cb b : List Nat} (h1 : uD E w xs es cb) (h2 : E w x c b) : uD E w (xs ++ [x]) (es ++ c) (cb ++ b) :=
 (jV xs [x]).2 ⟨es, c, cb, b, rfl, rfl, h1, c, [], b, [], by simp, by simp, h2, rfl, rfl⟩
theorem uD.at_ (K : EK E size) {xs : List α} {es : List Value} {cb : List Nat} (h : uD E w xs es cb) {k : Nat} (hk : k < xs.length) :
  ∃ e0 e1 e2 l0 l1 l2, es = e0 ++ e1 ++ e2 /\ cb = l0 ++ l1 ++ l2 /\ e0.length = k * size /\ e1.length = size /\ uD E w (xs.take k) e0 l0 /\ E w xs[k] e1 l1 /\ uD E w (xs.drop (k + 1)) e2 l2 := by
 have e : xs = xs.take k ++ (xs[k] :: xs.drop (k + 1)) := by rw [List.getElem_cons_drop, List.take_append_drop]
 have h' := h;rw [e] at h';obtain ⟨e0, er, l0, lr, rfl, rfl, h0, e1, e2, l1, l2, rfl, rfl, h1, h2⟩ := (jV _ _).1 h';exact ⟨e0, e1, e2, l0, l1, l2, by simp, by simp, by rw [uD.len K _ h0, List.length_take, Nat.min_eq_left (by omega)], K.len h1, h0, h1, h2⟩
theorem uD.reps {f : α -> D} (hE : ∀ {x cs bs}, E w x cs bs -> Rep w (f x) cs bs) : (xs : List α) -> {cs : List Value} -> {bs : List Nat} -> uD E w xs cs bs -> Reps w (xs.map f) cs bs
 | [], _, _, h => h
 | x :: xs, _, _, h => by
  obtain ⟨c1, c2, b1, b2, hc, hb, h1, h2⟩ := h;exact ⟨c1, c2, b1, b2, hc, hb, hE h1, uD.reps hE xs h2⟩
def yA (E : World -> α -> List Value -> List Nat -> Prop) (w : World) (B : Nat) (e : TypeId) (size : Nat) (v : Value) (xs : List α) : Prop :=
 ∃ es cb, w.ownsRow B e size v xs.length es /\ uD E w xs es cb /\ cb.Nodup /\ (∀ y ∈ cb, B <= y) /\ ∀ g, v.ownBlock = some g -> g ∉ cb
variable {B : Nat} {e : TypeId} {v : Value} {xs : List α}
theorem yA.nil (w : World) (B : Nat) (e : TypeId) (size : Nat) : yA E w B e size (.slice none 0 0) [] :=
 ⟨[], [], ⟨by simp, .inl ⟨rfl, rfl⟩⟩, ⟨rfl, rfl⟩, by simp, by simp, fun g h => by cases h⟩
theorem yA.kept (K : EK E size) (h : yA E w B e size v xs) (hs : w.heap.size <= w'.heap.size) (hb : ∀ g, B <= g -> g < w.heap.size -> w'.heap[g]? = w.heap[g]?) : yA E w' B e size v xs := by
 obtain ⟨es, cb, h1, h2, h3, h4, h5⟩ := h;exact ⟨es, cb, qQJ h1 hs hb, uD.keep K _ h2 ⟨hs, fun y hy => hb y (h4 y hy) (uD.lt K _ h2 y hy)⟩, h3, h4, h5⟩
theorem yA.below (K : EK E size) (h : yA E w B e size v xs) (hb : Below w.heap.size w w') : yA E w' B e size v xs := h.kept K hb.size fun g _ hl => hb.block g hl
theorem yA.set_low (K : EK E size) (h : yA E w B e size v xs) {p : Addr} (hp : p.block < B) (u : Value) : yA E (w.setCell p u) B e size v xs :=
 h.kept K (by simp [World.setCell]) fun g hg _ => Below.heap_setCell _ _ _ _ (fun e => by omega)
theorem yA.grow {f : α -> D} (h : yA E w B e size v xs) (hE : ∀ {x cs bs}, E w x cs bs -> Rep w (f x) cs bs) : Grow w B e size v (xs.map f) := by
 obtain ⟨es, cb, h1, h2, h3⟩ := h;exact ⟨es, cb, by rw [List.length_map]; exact h1, uD.reps hE _ h2, h3⟩
theorem yA.own_ge (h : yA E w B e size v xs) : ∀ b, v.ownBlock = some b -> B <= b /\ b < w.heap.size := by
 obtain ⟨es, cb, h1, _⟩ := h;exact fun b hb => uQ h1 hb
theorem yA.form (h : yA E w B e size v xs) : ∃ A c, v = .slice A xs.length c /\ xs.length <= c /\ c <= maxLen := by
 obtain ⟨es, cb, h1, _⟩ := h;rcases h1.2 with ⟨rfl, h0⟩ | ⟨g, cap, cur, rfl, _, _, h2, h3, _⟩
 ·exact ⟨none, 0, by rw [h0], by omega, Nat.zero_le _⟩
 ·exact ⟨_, cap, rfl, h2, h3⟩
theorem qUG {P : Program} {o : Oper} {a : Act} {Kc : Act -> World -> Prop} {Q : Exit -> Act -> World -> Prop} (K : EK E size) (s x : Operand) (t : TypeId)
  (ho : o.op = .call { callee := .builtin .append, args := #[s, x], argTypes := #[t, t] })
  (z : Value) (ht : P.underlying t = some (.slice e)) (hinfo : (P.info? e).map (fun i => (i.zero, i.size, decide (i.bytes <= 1024))) = some (some z, size, true)) (hzs : z.cells.size = size) (hsz : 0 < size) (hs : a.eval s = v) (hG : yA E w0 B e size v xs) (hb0 : Below w0.heap.size w0 w)
  {y : α} {g0 : Nat} {news : List Value} {b1 : List Nat} (hx : a.eval x = .slice (some ⟨g0, 0, none⟩) 1 1) (hr : E w y news b1) (hn : b1.Nodup) (hf : ∀ y ∈ b1, w0.heap.size <= y) (hcells : ∀ j u, news[j]? = some u -> w.cell? ⟨g0, j, none⟩ = some u)
  (h63 : xs.length + 1 <= 1000000000) (hbase : B <= w0.heap.size)
  (h : ∀ v' w', yA E w' B e size v' (xs ++ [y]) -> Grew w w' v v' -> Kc (a.put o.dst v') w') : o.wp P a w Kc Q := by
 obtain ⟨i, hi, hzz⟩ := Option.map_eq_some_iff.1 hinfo;simp only [Prod.mk.injEq, decide_eq_true_iff] at hzz;obtain ⟨hz, hsize, hbytes⟩ := hzz;obtain ⟨es, cb, q1, q2, q3, q4, q5⟩ := hG;have hown := qQJ q1 hb0.size (w' := w) fun g _ hl => hb0.block g hl;have hlen := K.len hr;obtain ⟨v', w', hrun, h2, h3, _, h5⟩ := run_append_own_at (P := P) w B t o.type e i z size i.bytes ht hi hz hsize rfl hzs hsz v xs.length es hown ⟨g0, 0, none⟩ 1 1 news (by rw [hlen, Nat.one_mul]) (fun j u hu => by rw [uG, Nat.zero_add]; exact hcells j u hu) (K.one hr)
  (by unfold maxLen; omega) (by have := Nat.mul_le_mul h63 hbytes; omega) (qX hbase hb0.size)
 have hlt0 := uD.lt K _ q2;have hltn := K.lt hr;have hblk : ∀ y, y < w.heap.size -> v.ownBlock ≠ some y -> w'.heap[y]? = w.heap[y]? := fun y hy hne => h3.block y hy (fun e => hne e.symm);unfold Oper.wp execOp;simp only [ho, resolve, invoke, builtin, Sem.run_bind, Sem.run_pure, Result.andThen_ok, List.map_toArray, List.map_cons, List.map_nil, hs, hx, hrun];refine h v' w' ⟨es ++ news, cb ++ b1, by simpa using h2, ?_, ?_, ?_, ?_⟩ ⟨⟨h3.os, h3.tape, h3.output, h3.size, fun y hy hm => hblk y hy fun e => hm (qU.2 e)⟩, fun y hy => ?_⟩
 ·refine uD.snoc (uD.keep K _ q2 ⟨qX hb0.size h3.size, fun y hy => ?_⟩) (K.keep hr ⟨h3.size, fun y hy => ?_⟩)
  ·rw [hblk y (qZ (hlt0 y hy) hb0.size) (fun h => q5 y h hy)]
   exact hb0.block y (hlt0 y hy)
  ·exact hblk y (hltn y hy) fun h => by
    have := (uQ q1 h).2;have := hf y hy;omega
 ·refine List.nodup_append.2 ⟨q3, hn, fun y hy z hz e => ?_⟩
  subst e;have := hlt0 y hy;have := hf y hz;omega
 ·intro y hy
  rcases List.mem_append.1 hy with hy | hy
  ·exact q4 y hy
  ·exact qX hbase (hf y hy)
 ·intro g hg hm
  rcases h5 with h5 | h5
  ·rw [h5] at hg
   rcases List.mem_append.1 hm with hm | hm
   ·exact q5 g hg hm
   ·have := (uQ q1 hg).2
    have := hf g hm;omega
  ·rw [h5] at hg
   have hgw : w.heap.size = g := by simpa using hg
   rcases List.mem_append.1 hm with hm | hm
   ·have := hlt0 g hm
    have := hb0.size;omega
   ·have := hltn g hm
    omega
 ·rcases h5 with h5 | h5
  ·rw [h5] at hy; exact .inl hy
  ·rw [h5] at hy
   have : w.heap.size = y := by simpa using hy
   exact .inr (by omega)
end
def PrtO (w : World) (x : Prt) (cs : List Value) (bs : List Nat) : Prop :=
 ∃ A1 c1 A2 c2, cs = [.slice A1 x.nest.length c1, .slice A2 x.body.length c2] /\ Rep w x.d cs bs /\ qWE w 102 9 A2 x.body.length c2 bs
theorem PrtO.ek : EK PrtO 2 where
 keep := by
  rintro w w' x cs bs ⟨A1, c1, A2, c2, h1, h2, h3⟩ k;exact ⟨A1, c1, A2, c2, h1, Rep.keep _ h2 k, h3.keep k⟩
 lt := by
  rintro w x cs bs ⟨A1, c1, A2, c2, h1, h2, h3⟩;exact Rep.lt _ h2
 len := by
  rintro w x cs bs ⟨A1, c1, A2, c2, rfl, h2, h3⟩;rfl
 one := by
  rintro w x cs bs ⟨A1, c1, A2, c2, h1, h2, h3⟩;exact Rep.one _ h2
theorem PrtO.rep {w : World} {x : Prt} {cs : List Value} {bs : List Nat} (h : PrtO w x cs bs) : Rep w x.d cs bs := by
 obtain ⟨A1, c1, A2, c2, h1, h2, h3⟩ := h;exact h2
def qAG (w : World) (x : Prt) (e : Ending) (w' : World) : Prop :=
 ∃ A1 c1 A2 c2 bs, e = .returned (.agg #[.slice A1 x.nest.length c1, .slice A2 x.body.length c2]) /\ PrtO w' x [.slice A1 x.nest.length c1, .slice A2 x.body.length c2] bs /\ bs.Nodup /\ (∀ b ∈ bs, w.heap.size <= b) /\ Below w.heap.size w w'
def qCW (x : Prt) : Prop := x.nest.length <= 1000000 /\ (∀ l ∈ x.nest, LpSm l) /\ x.body.length <= 1000000 /\ ∀ s ∈ x.body, ∃ d, zV s d = true
theorem qPH {x : Prt} {w : World} {cs : List Value} {bs : List Nat} (h : Rep w x.d cs bs) (hs : qCW x) :
  Calls Tryz.prog 39 #[.agg cs.toArray] w (qAG w x) := by
 obtain ⟨A1, c1, A2, c2, d1, d2, rfl, rfl, g1, g2⟩ := Rep.prt_iff.1 h;have HN := qQ g1;have HB := qQ g2;have HS := qQ hs;have hbl : x.body.length <= 1000000 := hs.2.2.1;have hn2 : x.body.length <= 9223372036854775807 := by omega
 clear g1 g2 h hs;go_enter Tryz.func39, Tryz.ntmps39;go_wp2_with fail;refine (qPG (HN.out.below bel) HS.out.1 HS.out.2.1).mono ?_;rintro e w1 ⟨A1q, n1, c1q, bs1, rfl, r1, nd1, hb1, b1⟩;obtain ⟨hn1, _, _⟩ := r1.sls_len;subst hn1;have X0 : BoxW w1 w.heap.size (.slice A1 x.nest.length c1) (.slice A2 x.body.length c2) := BoxW.to ⟨⟨by go_simp, by go_simp⟩, by go_simp, by go_simp⟩ b1;have X1 : BoxW w1 (w.heap.size + 1) (.slice none 0 0) (.slice none 0 0) := BoxW.to ⟨⟨by go_simp, by go_simp⟩, by go_simp, by go_simp⟩ b1;have S1 : Below w.heap.size w w1 := bel;have Z1 : w.heap.size + 2 <= w1.heap.size := by have := b1.size; simp at this; omega
 have hge : ∀ y ∈ bs1, w.heap.size + 2 <= y := fun y hy => by have := hb1 y hy; simp at this; omega
 have L1 := qQ (Rep.lt _ r1);have R1 := qQ r1;have N1 := qQ (qV nd1 hge);clear r1 nd1 hb1 hge b1;obtain ⟨⟨p0, p1⟩, _, _⟩ := X0;have lt0 := qW p0;have HX1 := qQ X1; clear X1;go_wp2;go_loopw [13] (fun i wr => ∃ (j : Nat) (u : Value), j <= x.body.length /\ i = .int .i64 j /\ BoxW wr w1.heap.size (.slice A1q x.nest.length c1q) u /\ Grow wr (w1.heap.size + 1) 102 9 u ((x.body.take j).map Stm.d) /\ BoxW wr (w.heap.size + 1) (.slice none 0 0) (.slice none 0 0) /\ w1.heap.size + 1 <= wr.heap.size /\ Below w1.heap.size w1 wr) (fun i _ => x.body.length - (intOf i).toNat)
 case atStart => exact ⟨0, .slice none 0 0, Nat.zero_le _, rfl, ⟨⟨by go_simp, by go_simp⟩, by go_simp, by go_simp⟩, by simpa using Grow.nil _ _ _ _, BoxW.to HX1.out bel, by simp, bel⟩
 case round =>
  obtain ⟨j, u, hj, rfl, ⟨⟨k2a, k2b⟩, f2a, f2b⟩, hG, hR, hz, hb⟩ := hrel;have hbw : Below w.heap.size w wr := qY S1 hb;have HR := qQ hR; clear hR;obtain ⟨Au, cu, hfu, _, _⟩ := hG.form;rw [List.length_map, List.length_take] at hfu;have HG := qQ hG; clear hG;clear p0 p1;by_cases hlt : j < x.body.length
  ·have HT := qQ (show (x.body.take (j + 1)).map Stm.d = (x.body.take j).map Stm.d ++ [x.body[j].d] by rw [List.take_succ_eq_append_getElem hlt, List.map_append]; rfl)
   have HV := qQ (HS.out.2.2.2 _ (List.getElem_mem hlt));obtain ⟨be, oe, cse, le, rfl, hble, hre, _, _, hce⟩ := (HB.out.below hbw).sls_at Stm.d_size (k := j) hlt;have Ge := qQ hre;obtain ⟨A2e, c2e, A5e, c5e, A8e, c8e, A9e, c9e, d2e, d5e, d8e, d9e, rfl, rfl, g1e, g2e, g3e, g4e, g5e, g6e, g7e, g8e, g9e⟩ := Rep.stm_iff.1 hre;have k0e := (hce 0 _ rfl).1; rw [Nat.add_zero] at k0e;have k1e := (hce 1 _ rfl).1;have k2e := (hce 2 _ rfl).1;have k3e := (hce 3 _ rfl).1;have k4e := (hce 4 _ rfl).1;have k5e := (hce 5 _ rfl).1;have k6e := (hce 6 _ rfl).1;have k7e := (hce 7 _ rfl).1;have k8e := (hce 8 _ rfl).1;have Q1e := qQ g1e;have Q2e := qQ g2e;have Q3e := qQ g3e;have Q4e := qQ g4e;have Q5e := qQ g5e;have Q6e := qQ g6e;have Q7e := qQ g7e;have Q8e := qQ g8e;have Q9e := qQ g9e;clear hce hre g1e g2e g3e g4e g5e g6e g7e g8e g9e;have lt2 := qW k2a;have hmin : min j x.body.length = j := by omega
   rw [hmin] at hfu;subst hfu;have HOW := qQ HG.out.own_ge;obtain ⟨a, ha⟩ : ∃ a, a = x.body[j] := ⟨_, rfl⟩;rw [<- ha] at k0e k1e k2e k3e k4e k5e k6e k7e k8e Ge HT HV;clear hmin ha;go_wp2_with fail;refine wp_region_noPanic ?_;refine zM (S := fun w' => Box2 w' w1.heap.size (.slice A1q x.nest.length c1q) (.slice Au j cu) /\ Box9 w' wr.heap.size (.string a.write.arr) (.slice A2e a.write.subs.length c2e) (.int .i64 a.value.kind) (.int .i64 a.value.num) (.slice A5e a.value.index.coefs.length c5e) (.int .i64 a.value.index.const) (.string a.value.read.arr) (.slice A8e a.value.read.subs.length c8e) (.slice A9e a.value.kids.length c9e)) 7 (by kernel_rfl) (⟨⟨by go_simp, by go_simp⟩, by go_simp, by go_simp, by go_simp, by go_simp, by go_simp, by go_simp, by go_simp, by go_simp, by go_simp⟩) (fun hHeld => ?_);refine goU 0 (fun _ => hHeld) ?_;refine goT 1 hHeld ?_;refine goT 2 hHeld ?_;refine qS (rs := [3]) (by kernel_rfl) (by simp) (all1 ?_);refine opT (i := 3) rfl (qK rfl) (fun K hK => ?_);go_simp
   (refine (qPK (Ge.out.below bel) HV.out.choose_spec).mono ?_; rintro e w2 ⟨Y2, y2, Y5, y5, Y8, y8, Y9, y9, bs2, rfl, r2, nd2, hb2, b2⟩; have B2 : Below wr.heap.size wr w2 := bel; have O1 := qQ (xV (N := w2.heap.size) r2 102 rfl); have N2 := qQ (qV nd2 (show ∀ y ∈ bs2, wr.heap.size <= y from fun y hy => by have := hb2 y hy; simp at this; omega)); clear r2 nd2 hb2)
   go_wp2_with fail;refine hK.out _ _ (⟨hHeld.1.to b2, hHeld.2.to b2⟩) (fun hHeld => ?_);clear hK K
   try simp only [Act.put, aq0, aq1, aq2]
   refine qS (rs := [4]) (by kernel_rfl) (by simp) (all1 ?_);refine opT (i := 4) rfl (qK rfl) (fun K hK => ?_)
   (unfold Oper.wp; go_simp)
   refine hK.out _ _ (⟨hHeld.1.to ((Below.refl _ _).alloc (qJ _) _), hHeld.2.to ((Below.refl _ _).alloc (qJ _) _)⟩) (fun hHeld => ?_);clear hK K
   try simp only [Act.put, aq0, aq1, aq2]
   refine qS (rs := [5]) (by kernel_rfl) (by simp) (all1 ?_);refine opT (i := 5) rfl (qK rfl) (fun K hK => ?_)
   (refine zX (w0 := wr) (B := w1.heap.size + 1) (xs := (x.body.take j).map Stm.d) (ys := [a.d]) (.tmp 18) (.tmp 21) _ rfl _ Tryz.underlying52 Tryz.infoStmt rfl (by decide) rfl HG.out ?hbw rfl O1.out ?hys ?hn ?hf ?hlen hz ?_; (case hbw => exact bel); (case hys => (intro y hy; simp only [List.mem_singleton] at hy; rw [hy]; exact Stm.d_size a)); (case hn => exact N2.out.1); (case hf => exact N2.out.2); (case hlen => (simp; omega)); intro v2 w4 hG4 hg4; have B4 : Below (w1.heap.size + 1) wr w4 := ((B2.alloc B2.size _).mono hz).trans (hg4.below (qX hz (qX B2.size (by simp))) (fun b hb => (HOW.out b hb).1)); have X2 : BoxW w4 w1.heap.size (.slice A1q x.nest.length c1q) (.slice Au j cu) := BoxW.toB ⟨⟨k2a, k2b⟩, f2a, f2b⟩ (by omega) B4; have XR := qQ (BoxW.toB HR.out (by omega) B4); have XZ := B4.size; obtain ⟨⟨k2d, k2e⟩, f2d, f2e⟩ := X2; obtain ⟨A4, c4, hf4, _, _⟩ := hG4.form; simp only [List.length_append, List.length_map, List.length_take, List.length_singleton] at hf4; rw [show min j x.body.length + 1 = j + 1 by omega] at hf4; subst hf4; rw [<- HT.out] at hG4; have HG4 := qQ hG4; have HB4 := qQ (hb.trans (B4.mono (by omega))))
   refine hK.out _ _ (⟨hg4.touch.box2 hHeld.1 (fun hm => by have := (HOW.out _ (qU.1 hm)).1; omega), hHeld.2.touch hg4.touch (fun hm => by have := (HOW.out _ (qU.1 hm)).2; omega)⟩) (fun hHeld => ?_);clear hK K
   try simp only [Act.put, aq0, aq1, aq2]
   refine goU 6 (fun _ => hHeld) ?_;refine qS (rs := [7]) (by kernel_rfl) (by simp) (all1 ?_);refine opTT (i := 7) rfl (qK rfl) (by kernel_rfl) (fun K hK => ?_)
   (unfold Oper.wp; go_simp)
   refine hK.out _ _ ?_;clear hK K
   try simp only [Act.put, aq0, aq1, aq2]
   refine qI (by kernel_rfl) ?_ _;refine NoPanic.normal ?_
   (go_wp2; go_roundw; (case rel => exact ⟨j + 1, _, by omega, by go_num, ⟨⟨by go_simp, by go_simp⟩, by go_simp, by go_simp⟩, HG4.out.set_low (p := ⟨w1.heap.size, 1, none⟩) (by simp) _, ⟨Box2.set XR.out.1 (by first | (simp; done) | (simp; omega)) _, by rw [World.frozen?_setCell]; exact XR.out.2.1, by rw [World.frozen?_setCell]; exact XR.out.2.2⟩, by (simp [World.setCell]; omega), HB4.out.setCell (by simp) _⟩); (case measure => (simp [intOf]; omega)))
  ·have hjj : j = x.body.length := by omega
   subst hjj;have hmin : min x.body.length x.body.length = x.body.length := by omega
   rw [hmin] at hfu;subst hfu;have hG := HG.out;obtain ⟨A5, c5, bs5, he5, r5, nd5, hb5⟩ := hG.rep;have hRo : qWE wr 102 9 Au x.body.length cu bs5 := by
    obtain ⟨esq, cbq, hq, _⟩ := HG.out;rw [List.length_map, List.length_take, Nat.min_self] at hq;refine qWE.of_own hq fun g hp hA => ?_;subst hA;simp only [Value.slice.injEq] at he5;obtain ⟨hA5, _, _⟩ := he5;obtain ⟨A', c', es', cb', he', _, _, _, h0⟩ := r5;simp only [List.cons.injEq, Value.slice.injEq, <- hA5] at he';rcases h0 with ⟨hx, _⟩ | ⟨b', o', e', hbs, _⟩
    ·have := congrArg List.length hx
     rw [List.length_map, List.length_take] at this;simp only [List.length_nil] at this;omega
    ·rw [<- he'.1.1] at e'
     simp only [Option.some.injEq, Addr.mk.injEq] at e';rw [hbs, e'.1];exact List.mem_cons_self
   rw [List.length_map, List.length_take, Nat.min_self] at he5 r5;simp only [Value.slice.injEq, true_and] at he5;obtain ⟨rfl, rfl⟩ := he5;rw [List.take_length] at r5;have H5 := qQ (qV r5 (qV nd5 hb5));have HRo := qQ hRo;clear hG r5 nd5 hb5 hRo;obtain ⟨⟨m1, m2⟩, m3, m4⟩ := HR.out;have lt1 := qW m1;have lt2 := qW k2a;go_wp2;have RN := R1.out.below hb;have hge : ∀ y ∈ bs1 ++ bs5, w.heap.size + 2 <= y := fun y hy => by
    rcases List.mem_append.1 hy with h1 | h1
    ·exact N1.out.2 y h1
    ·have := H5.out.2.2 y h1; omega
   have hnb : w.heap.size + 1 ∉ bs1 ++ bs5 := fun hm => by have := hge _ hm; omega
   have K2 : qD wr ((wr.setCell ⟨w.heap.size + 1, 0, none⟩ (.slice A1q x.nest.length c1q)).setCell ⟨w.heap.size + 1, 1, none⟩ (.slice Au x.body.length cu)) (bs1 ++ bs5) := ((qD.refl _ _).setCell hnb _).setCell hnb _;exact bodyPost_ret (v := .agg #[.slice A1q x.nest.length c1q, .slice Au x.body.length cu]) (by simp [results, Tryz.results39, go_sem, m1, m2]) rfl ⟨A1q, c1q, Au, cu, bs1 ++ bs5, rfl, ⟨_, _, _, _, rfl, Rep.keep _ (Rep.prt_iff.2 ⟨_, _, _, _, _, _, rfl, rfl, RN, H5.out.1⟩) K2, by
    have hr := HRo.out.keep K2.right;rcases hr with hr | ⟨g, cur, q1, q2, q3, q4, q5, q6⟩
    ·exact .inl hr
    ·exact .inr ⟨g, cur, q1, q2, q3, q4, q5, List.mem_append_right _ q6⟩⟩, List.nodup_append.2 ⟨N1.out.1, H5.out.2.1, fun y h1 z h2 e => by subst e; have q1 := L1.out y h1; have q2 := H5.out.2.2 y h2; omega⟩, fun y hy => by have := hge y hy; omega, (hbw.setCell (by simp) _).setCell (by simp) _⟩
end Go.Proofs.YtgogjbnneoadkaaGreat
