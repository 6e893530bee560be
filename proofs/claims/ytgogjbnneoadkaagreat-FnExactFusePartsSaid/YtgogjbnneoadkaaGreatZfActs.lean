/- Texts of this seat, joined: InOk, Touch, GrowN, RegionT, TyDep, DepF, LevF. -/
import Derived.Test.YtgogjbnneoadkaaGreatZfPgF
import Derived.Test.YtgogjbnneoadkaaGreatZfPointIn
import Derived.Test.YtgogjbnneoadkaaGreatZfInsts
import Derived.Test.YtgogjbnneoadkaaGreatZfTotal
import Derived.StillTailTactics
import Derived.Test.YtgogjbnneoadkaaGreatZfBasic
import Derived.Test.YtgogjbnneoadkaaGreatZfCore
set_option linter.all false
set_option maxHeartbeats 8000000
set_option maxRecDepth 100000
namespace Go.Proofs.YtgogjbnneoadkaaGreat
open Go.ChangeShapes Go.WideShapes Go.ChangeAt Go.RowKit Go.Deep
def prtF (p : Pgm) (k : Int) : Prt := p.parts.getD k.toNat ⟨[], []⟩
def qAK : Stm := ⟨⟨⟨#[]⟩, []⟩, ⟨0, 0, ⟨[], 0⟩, ⟨⟨#[]⟩, []⟩, []⟩⟩
def stmF (p : Pgm) (x : In) : Stm := (prtF p x.part).body.getD x.stmt.toNat qAK
theorem jC {p : Pgm} {k : Nat} (h : k < p.parts.length) : prtF p (k : Int) = p.parts[k] := by simp [prtF, List.getD_eq_getElem?_getD, h]
theorem qBH {p : Pgm} {x : In} {s : Nat} (hs : x.stmt = (s : Int)) (h : s < (prtF p x.part).body.length) : stmF p x = (prtF p x.part).body[s] := by simp [stmF, hs, List.getD_eq_getElem?_getD, h]
structure InOk (p : Pgm) (x : In) : Prop where
 p0 : 0 <= x.part
 p1 : x.part.toNat < p.parts.length
 s0 : 0 <= x.stmt
 s1 : x.stmt.toNat < (prtF p x.part).body.length
 q : x.point ∈ zG (prtF p x.part)
theorem qLR {α : Type} {f : Nat -> List α} {x : α} {k : Nat} : ∀ {m : Nat}, k < m -> x ∈ f k -> x ∈ catN f m
 | 0, h, _ => by omega
 | m + 1, h, hx => by
  rw [catN];rcases Nat.lt_or_ge k m with hk | hk
  ·exact List.mem_append_left _ (qLR hk hx)
  ·have : k = m := by omega
   subst this;exact List.mem_append_right _ hx
theorem qCL {xs : List Lp} {q : List Int} (hl : q.length = xs.length) : ∀ (n j : Nat), j + n = xs.length -> qLV xs q n j = true -> q ∈ ptsF (xs.drop j) (q.take j)
 | 0, j, hj, _ => by
  have h1 : xs.drop j = [] := List.drop_eq_nil_of_le (by omega);rw [h1, ptsF, List.take_of_length_le (by omega)]; simp
 | n + 1, j, hj, h => by
  have hlt : j < xs.length := by omega
  simp only [qLV, Bool.and_eq_true, inAt, decide_eq_true_iff] at h;obtain ⟨⟨h1, h2⟩, h3⟩ := h;have ih := qCL hl n (j + 1) (by omega) h3;rw [<- List.getElem_cons_drop hlt, ptsF, qBN hlt];refine qLR (k := (gi q j - loF (nthL xs j) (q.take j)).toNat) (by unfold widN; omega) ?_;have e : loF (nthL xs j) (q.take j) + (((gi q j - loF (nthL xs j) (q.take j)).toNat : Nat) : Int) = gi q j := by omega
  rw [e, vB (by omega), <- List.take_succ_eq_append_getElem (by omega)];exact ih
theorem qXQ : (xs : List Prt) -> (k : Int) -> (x : In) -> x ∈ qC xs k -> ∃ j, ∃ h : j < xs.length, x ∈ qGF (k + (j : Int)) xs[j]
 | [], _, _, h => by simp [qC] at h
 | y :: xs, k, x, h => by
  rw [qC] at h;rcases List.mem_append.1 h with h | h
  ·exact ⟨0, by simp, by simpa using h⟩
  ·obtain ⟨j, hj, hx⟩ := qXQ xs (k + 1) x h
   refine ⟨j + 1, by simpa using hj, ?_⟩;rw [show k + ((j + 1 : Nat) : Int) = k + 1 + (j : Int) by omega];simpa using hx
theorem InOk.of_mem {p : Pgm} {x : In} (h : x ∈ qM p) : InOk p x := by
 obtain ⟨j, hj, hx⟩ := qXQ _ _ _ h;rw [Int.zero_add, qGF, List.mem_flatMap] at hx;obtain ⟨q, hq, hx⟩ := hx;rw [xP, List.mem_map] at hx;obtain ⟨s, hs, rfl⟩ := hx;rw [List.mem_range] at hs;refine ⟨by simp, by simpa using hj, by simp, ?_, ?_⟩
 ·rw [jC hj]; simpa using hs
 ·rw [jC hj]; exact hq
theorem qZK {p : Pgm} (h : zK p = true) : ∀ x ∈ p.parts, zU p.arrays x = true := by
 simp only [zK, uK, Bool.and_eq_true, decide_eq_true_iff, List.all_eq_true] at h;exact h.2.1
structure Fine (p : Pgm) (x : In) : Prop where
 fine : wB p.arrays x.point (stmF p x) = true
 stm : zV (stmF p x) ((prtF p x.part).nest.length : Int) = true
 pt : PtS x.point
 len : x.point.length <= 4
theorem InOk.get {p : Pgm} {x : In} (h : InOk p x) : ∃ k s : Nat, x.part = (k : Int) /\ x.stmt = (s : Int) /\ ∃ hk : k < p.parts.length, ∃ hs : s < p.parts[k].body.length, prtF p x.part = p.parts[k] /\ stmF p x = p.parts[k].body[s] := by
 obtain ⟨h1, h2, h3, h4, _⟩ := h;refine ⟨x.part.toNat, x.stmt.toNat, by omega, by omega, h2, ?_⟩;have e : prtF p x.part = p.parts[x.part.toNat] := by
  have := jC h2
  rwa [show ((x.part.toNat : Nat) : Int) = x.part by omega] at this
 have hs : x.stmt.toNat < p.parts[x.part.toNat].body.length := by rw [<- e]; exact h4
 refine ⟨hs, e, ?_⟩;rw [qBH (s := x.stmt.toNat) (by omega) h4];simp only [e]
theorem InOk.fine {p : Pgm} {x : In} (h : InOk p x) (hv : zK p = true) : Fine p x := by
 have hq := h.q;obtain ⟨k, s, _, _, hk, hs, e1, e2⟩ := h.get;have hp := qZK hv _ (List.getElem_mem hk);rw [<- e1] at hp;have hm : stmF p x ∈ (prtF p x.part).body := by rw [e2, e1]; exact List.getElem_mem hs
 simp only [zU, qQO, Bool.and_eq_true, List.all_eq_true, wW] at hp;have hnf := qHC hp.1;have hp4 := qHP hnf.1 _ hq;exact ⟨(hp.2.2 _ hq).2 _ hm, hp.2.1.2 _ hm, PtS.of_B hp4.1 hp4.2.2, hp4.2.2⟩
theorem qFL {xs : List Ar} {q : List Int} {s : Stm} (h : wB xs q s = true) : jW xs q s = (rdF xs q s, wrF xs q s, true) := by rw [jW, if_pos h]
structure Us where
 reads : List Int
 write : Int
def useF (p : Pgm) (x : In) : Us := ⟨rdF p.arrays x.point (stmF p x), wrF p.arrays x.point (stmF p x)⟩
def zJ (p : Pgm) : List Us := (qM p).map (useF p)
theorem vE (p : Pgm) : (zJ p).length = (qM p).length := by simp [zJ]
def Us.d (x : Us) : D := .st [ints x.reads, .int x.write]
theorem Us.d_size (x : Us) : x.d.size = 2 := rfl
theorem Rep.us_iff {w : World} {x : Us} {cs : List Value} {bs : List Nat} : Rep w x.d cs bs ↔ ∃ (A1 : Option Addr) (c1 : Nat) (d1 : List Nat), cs = [.slice A1 x.reads.length c1, .int .i64 x.write] /\ bs = d1 /\ Rep w (ints x.reads) [.slice A1 x.reads.length c1] d1 /\ I64 x.write := by
 constructor
 ·rintro ⟨_, _, _, _, rfl, rfl, h1, _, _, _, _, rfl, rfl, ⟨rfl, rfl, h2⟩, rfl, rfl⟩
  obtain ⟨A, c, rfl⟩ := h1.ints_form1;exact ⟨A, c, _, rfl, by simp, h1, h2⟩
 ·rintro ⟨A, c, d, rfl, rfl, h1, h2⟩
  exact ⟨_, [.int .i64 x.write], _, [], rfl, by simp, h1, [.int .i64 x.write], [], [], [], rfl, rfl, ⟨rfl, rfl, h2⟩, rfl, rfl⟩
theorem yL {P : Program} {id : Nat} {Q : Exit -> Act -> World -> Prop} {a : Act} {w : World} {l : List Oper} (n : Nat) (hm : P.follows .mixedOrders = true) (hB : Region.lexTailB .any l.toArray n = true)
  (h : wpStill P l.toArray w.drew (fun a' => wpList P l.toArray Q (l.drop n) a' w.drew) (l.take n) a) : (Code.region id l.toArray true).wp P Q a w := wp_region_still_tail n hm hB h
def qCY (w : World) (u : Us) (e : Ending) (w' : World) : Prop :=
 ∃ A c bs, e = .returned (.tuple #[.slice A u.reads.length c, .int .i64 u.write]) /\ Rep w' (ints u.reads) [.slice A u.reads.length c] bs /\ bs.Nodup /\ (∀ b ∈ bs, w.heap.size <= b) /\ Below w.heap.size w w'
theorem qCS {w : World} {p : Pgm} {x : In} {cs cs' : List Value} {bs bs' : List Nat} (h : Rep w p.d cs bs) (h' : Rep w x.d cs' bs') (hx : InOk p x) :
  Calls Tryz.prog 147 #[.agg cs.toArray, .agg cs'.toArray] w fun e w' => ∃ cs2 bs2, e = .returned (.agg cs2.toArray) /\ Rep w' (stmF p x).d cs2 bs2 /\ Below w.heap.size w w' := by
 obtain ⟨k, s, hpk, hss, hk, hs, e1, e2⟩ := hx.get;obtain ⟨A1, c1, A2, c2, d1, d2, rfl, rfl, g1, g2⟩ := Rep.pgm_iff.1 h;have Garrays := qQ g1;have Gparts := qQ g2;clear h g1 g2;obtain ⟨A3', c3', d3', rfl, rfl, g1', g2', g3'⟩ := Rep.in_iff.1 h';have Gpart' := qQ g1';have Gstmt' := qQ g2';have Gpoint' := qQ g3';clear h' g1' g2' g3';rw [hpk, hss, e2];clear hx e1 e2 hpk hss;obtain ⟨be, oe, cse, le, rfl, hble, hre, _, _, hce⟩ := Gparts.out.sls_at Prt.d_size (k := k) hk;have Ge := qQ hre;obtain ⟨A1e, c1e, A2e, c2e, d1e, d2e, rfl, rfl, g1e, g2e⟩ := Rep.prt_iff.1 hre;have k0e := (hce 0 _ rfl).1; rw [Nat.add_zero] at k0e;have k1e := (hce 1 _ rfl).1;have Q1e := qQ g1e;have Q2e := qQ g2e;clear hce hre g1e g2e;obtain ⟨bf, of, csf, lf, rfl, hblf, hrf, _, _, hcf⟩ := Q2e.out.sls_at Stm.d_size (k := s) hs;have Gf := qQ hrf;obtain ⟨A2f, c2f, A5f, c5f, A8f, c8f, A9f, c9f, d2f, d5f, d8f, d9f, rfl, rfl, g1f, g2f, g3f, g4f, g5f, g6f, g7f, g8f, g9f⟩ := Rep.stm_iff.1 hrf;have k0f := (hcf 0 _ rfl).1; rw [Nat.add_zero] at k0f;have k1f := (hcf 1 _ rfl).1;have k2f := (hcf 2 _ rfl).1;have k3f := (hcf 3 _ rfl).1;have k4f := (hcf 4 _ rfl).1;have k5f := (hcf 5 _ rfl).1;have k6f := (hcf 6 _ rfl).1;have k7f := (hcf 7 _ rfl).1;have k8f := (hcf 8 _ rfl).1;have Q1f := qQ g1f;have Q2f := qQ g2f;have Q3f := qQ g3f;have Q4f := qQ g4f;have Q5f := qQ g5f;have Q6f := qQ g6f;have Q7f := qQ g7f;have Q8f := qQ g8f;have Q9f := qQ g9f;clear hcf hrf g1f g2f g3f g4f g5f g6f g7f g8f g9f;clear Garrays Gpart' Gstmt' Gpoint' Q1e;have l0e : be < w.heap.size + 1 := by omega
 have l1e : be < w.heap.size + 1 + 1 := by omega
 have l0f : bf < w.heap.size + 1 := by omega
 have l1f : bf < w.heap.size + 1 + 1 := by omega
 go_enter Tryz.func147, Tryz.ntmps147;go_wp2_with fail;refine yL 11 (by kernel_rfl) (by kernel_rfl) ?_;simp only [List.take_succ_cons, List.take_zero, List.drop_succ_cons, List.drop_zero]
 repeat still_step
 try refine wpStill_nil ?_
 go_wp2
 trace_state
 exact bodyPost_ret (v := .agg #[.string p.parts[k].body[s].write.arr, .slice A2f p.parts[k].body[s].write.subs.length c2f, .int .i64 p.parts[k].body[s].value.kind, .int .i64 p.parts[k].body[s].value.num, .slice A5f p.parts[k].body[s].value.index.coefs.length c5f, .int .i64 p.parts[k].body[s].value.index.const, .string p.parts[k].body[s].value.read.arr, .slice A8f p.parts[k].body[s].value.read.subs.length c8f, .slice A9f p.parts[k].body[s].value.kids.length c9f]) (by simp [results, Tryz.results147, go_sem]) rfl ⟨_, _, rfl, Gf.out.below bel, bel⟩
theorem qTU {w : World} {p : Pgm} {x : In} {cs cs' : List Value} {bs bs' : List Nat} (h : Rep w p.d cs bs) (h' : Rep w x.d cs' bs') (hx : InOk p x) (hv : zK p = true) :
  Calls Tryz.prog 100 #[.agg cs.toArray, .agg cs'.toArray] w (qCY w (useF p x)) := by
 have hf := hx.fine hv;have hok := qQZ hv;have HST := qQ (StB.of hf.stm hf.pt);have hcb := qXY hok;have hcw := qQS (a := (stmF p x).write) (pt := x.point) hok;have HOK := qQ hok; clear hok hf hv;have HIN := qQ hx; clear hx;obtain ⟨y, hy⟩ : ∃ y, y = stmF p x := ⟨_, rfl⟩;have HU := qQ (show useF p x = ⟨(xF y.value).map (fun a => cellF p.arrays a x.point), cellF p.arrays y.write x.point⟩ by rw [hy]; rfl);rw [<- hy] at hcw HST;rw [HU.out];have HP := qQ h;have HX := qQ h';obtain ⟨A1, c1, A2, c2, d1, d2, rfl, rfl, g1, g2⟩ := Rep.pgm_iff.1 h;have Garrays := qQ g1;have Gparts := qQ g2;clear h g1 g2;obtain ⟨A3', c3', d3', rfl, rfl, g1', g2', g3'⟩ := Rep.in_iff.1 h';have Gpart' := qQ g1';have Gstmt' := qQ g2';have Gpoint' := qQ g3';clear h' g1' g2' g3';go_enter Tryz.func100, Tryz.ntmps100;go_wp2_with fail;refine (qCS (HP.out.below bel) (HX.out.below bel) HIN.out).mono ?_;rintro e w1 ⟨cs2, bs2, rfl, r1, b1⟩;have P1 : Box2 w1 w.heap.size (.slice A1 p.arrays.length c1) (.slice A2 p.parts.length c2) := by
  refine ⟨?_, ?_⟩ <;> (rw [b1.cell (by simp [World.setCell]; try omega)]; go_simp)
 have X1 : Box3 w1 (w.heap.size+1) (.int .i64 x.part) (.int .i64 x.stmt) (.slice A3' x.point.length c3') := by
  refine ⟨?_, ?_, ?_⟩ <;> (rw [b1.cell (by simp [World.setCell]; try omega)]; go_simp)
 have S1 : Below w.heap.size w w1 := bel;clear b1;rw [<- hy] at r1;have HY := qQ hy; clear hy;obtain ⟨A22, c22, A52, c52, A82, c82, A92, c92, d22, d52, d82, d92, rfl, rfl, g12, g22, g32, g42, g52, g62, g72, g82, g92⟩ := Rep.stm_iff.1 r1;have Gwrite2 := qQ ((Rep.acc_iff (x := y.write)).2 ⟨_, _, _, rfl, rfl, g12, g22⟩);have Gvalue2 := qQ ((Rep.ex_iff (x := y.value)).2 ⟨_, _, _, _, _, _, _, _, _, rfl, rfl, g32, g42, g52, g62, g72, g82, g92⟩);clear r1 g12 g22 g32 g42 g52 g62 g72 g82 g92;go_wp2_with fail;refine (qTO y.value _ _ _ HST.out.n (Gvalue2.out.below bel)).mono ?_;rintro e w2 ⟨A9, c9, bs9, rfl, r2, hs2, hy2, b2⟩;have M2 : Box9 w2 w1.heap.size (.string y.write.arr) (.slice A22 y.write.subs.length c22) (.int .i64 y.value.kind) (.int .i64 y.value.num) (.slice A52 y.value.index.coefs.length c52) (.int .i64 y.value.index.const) (.string y.value.read.arr) (.slice A82 y.value.read.subs.length c82) (.slice A92 y.value.kids.length c92) := by
  refine ⟨?_, ?_, ?_, ?_, ?_, ?_, ?_, ?_, ?_⟩ <;> (rw [b2.cell (by simp [World.setCell]; try omega)]; go_simp)
 have s2 : Below w1.heap.size w1 w2 := bel;have P2 := P1.to s2; clear P1;have X2 := X1.to s2; clear X1;have S2 : Below w.heap.size w w2 := qY S1 s2;clear s2;have U2 : Below w1.heap.size w1 w2 := by clear S2; exact bel
 have GW2 := qQ (Gwrite2.out.below U2);clear b2 U2;have R2 := qQ r2; clear r2 hs2 hy2;obtain ⟨RS, hRS⟩ : ∃ RS, RS = xF y.value := ⟨_, rfl⟩;have hrn : RS.length <= 1000000 := by rw [hRS]; exact HST.out.n
 rw [<- hRS] at R2 ⊢;have HRS := qQ hRS; clear hRS;have H2 := qQ (HP.out.below S2);have HQ2 := qQ (Gpoint'.out.below S2);have hz2 := S2.size;go_wp2;go_loopw [7, 17] (fun u i wr => ∃ j : Nat, j <= RS.length /\ i = .int .i64 j /\ Grow wr w2.heap.size 3 1 u (((RS.take j).map (fun a => cellF p.arrays a x.point)).map D.int) /\ Below w2.heap.size w2 wr) (fun _ i _ => RS.length - (intOf i).toNat)
 case atStart => exact ⟨0, Nat.zero_le _, rfl, Grow.nil _ _ _ _, Below.refl _ _⟩
 case round =>
  obtain ⟨j, hj, rfl, hG, hb⟩ := hrel;have Pr := P2.to hb;have Xr := X2.to hb;have Mr := M2.to hb;have Sr := qY S2 hb;have HG := qQ hG; clear hG;obtain ⟨Au, cu, hfu, _, _⟩ := HG.out.form;simp only [List.length_map, List.length_take] at hfu;rw [show min j RS.length = j by omega] at hfu;have lp := qW Pr.1;have lx := qW Xr.1;have lm := qW Mr.1;clear P2 X2 M2;by_cases hlt : j < RS.length
  ·have HT := qQ (show (RS.take (j + 1)).map (fun a => cellF p.arrays a x.point) = (RS.take j).map (fun a => cellF p.arrays a x.point) ++ [cellF p.arrays RS[j] x.point] by rw [List.take_succ_eq_append_getElem hlt, List.map_append]; rfl)
   have hmem : RS[j] ∈ xF y.value := by rw [<- HRS.out]; exact List.getElem_mem hlt
   have HM := qQ (HST.out.r _ hmem); clear hmem;have hcr := qQS (a := RS[j]) (pt := x.point) HOK.out;have hRR : Rep wr (sls Acc.d RS) [.slice A9 RS.length c9] bs9 := R2.out.below hb;have RR := qQ hRR; clear hRR;obtain ⟨be, oe, cse, le, rfl, hble, hre, _, _, hce⟩ := RR.out.sls_at Acc.d_size (k := j) hlt;have Ge := qQ hre;obtain ⟨A2e, c2e, d2e, rfl, rfl, g1e, g2e⟩ := Rep.acc_iff.1 hre;have k0e := (hce 0 _ rfl).1; rw [Nat.add_zero] at k0e;have k1e := (hce 1 _ rfl).1;have Q1e := qQ g1e;have Q2e := qQ g2e;clear hce hre g1e g2e;subst hfu;go_wp2_with fail;refine (qDN (H2.out.below (qY hb bel)) (Ge.out.below bel) (HQ2.out.below (qY hb bel)) HOK.out HM.out.2).mono ?_;rintro e w3 ⟨rfl, b3⟩;obtain ⟨v, hv⟩ : ∃ v, v = cellF p.arrays RS[j] x.point := ⟨_, rfl⟩;rw [<- hv] at HT hcr ⊢;have T3 : Below wr.heap.size wr w3 := bel;have S3 : Below w2.heap.size w2 w3 := qY hb T3;clear b3 hv;have hG3 := qQ (HG.out.below T3);have hI := qQ (show I64 v by unfold I64; omega);have hbz : w2.heap.size <= w3.heap.size := S3.size;go_wp2_with (
    at_builtin;refine qT (w0 := w3) (B := w2.heap.size) (xs := ((RS.take j).map (fun a => cellF p.arrays a x.point)).map D.int) (ys := [D.int v]) rfl (.tmp 21) (.tmp 27) _ rfl _ Tryz.underlying39 Tryz.infoInt rfl (by decide) rfl hG3.out ?hbw rfl (qVR _ hI.out _) ?hys ?hn ?hf ?hlen ?hba ?_
    case hbw => exact bel
    case hys => intro y hy; simp only [List.mem_singleton] at hy; rw [hy]; rfl
    case hn => simp
    case hf => simp
    case hlen => simp; omega
    case hba => exact hbz
    intro v4 w4 hG4 hg4)
   rw [show ((RS.take j).map (fun a => cellF p.arrays a x.point)).map D.int ++ [D.int v] = ((RS.take (j + 1)).map (fun a => cellF p.arrays a x.point)).map D.int by rw [HT.out, List.map_append]; rfl] at hG4;have HG4 := qQ hG4;have S4 : Below w2.heap.size w2 w4 := (S3.alloc S3.size _).trans (hg4.below (qX hbz (by simp)) (fun b hb => (hG3.out.own_ge b hb).1));clear hG4 hg4;go_wp2;go_roundw
   case rel => exact ⟨j + 1, by omega, by go_num, HG4.out, S4⟩
   case measure => simp [intOf]; omega
  ·have hjj : j = RS.length := by omega
   subst hjj;rw [List.take_length] at HG;subst hfu;go_wp2_with fail;refine (qDN (H2.out.below (qY hb bel)) (GW2.out.below (qY hb bel)) (HQ2.out.below (qY hb bel)) HOK.out HST.out.w).mono ?_;rintro e w3 ⟨rfl, b3⟩;have T3 : Below wr.heap.size wr w3 := bel;have S3 : Below w2.heap.size w2 w3 := qY hb T3;have hG3 := qQ (HG.out.below T3);go_wp2;go_ret2;obtain ⟨A, c, bs, he, h1, h2, h3, _⟩ := hG3.out.ints;rw [he];have e : (List.map (fun a => cellF p.arrays a x.point) RS).length = (List.map (fun a => cellF p.arrays a x.point) (xF y.value)).length := by rw [HRS.out]
   refine ⟨A, c, bs, congrArg (fun n => Ending.returned (.tuple #[.slice A n c, .int .i64 (cellF p.arrays y.write x.point)])) e, ?_, h2, fun b hb' => qX hz2 (h3 b hb'), qY S2 S3⟩;show Rep w3 (ints (List.map (fun a => cellF p.arrays a x.point) (xF y.value))) [.slice A (List.map (fun a => cellF p.arrays a x.point) (xF y.value)).length c] bs;rw [<- HRS.out]; exact h1
def yZ (w : World) (B : Nat) (e : TypeId) (size : Nat) (v : Value) (xs : List D) (cb : List Nat) : Prop :=
 ∃ es, w.ownsRow B e size v xs.length es /\ Reps w xs es cb /\ cb.Nodup /\ (∀ y ∈ cb, B <= y) /\ ∀ g, v.ownBlock = some g -> g ∉ cb
section
variable {P : Program} {w w' : World} {B : Nat} {e : TypeId} {size : Nat} {v : Value} {xs : List D} {cb : List Nat}
theorem yZ.grow (h : yZ w B e size v xs cb) : Grow w B e size v xs := by obtain ⟨es, h⟩ := h; exact ⟨es, cb, h⟩
theorem yZ.nil (w : World) (B : Nat) (e : TypeId) (size : Nat) : yZ w B e size (.slice none 0 0) [] [] := ⟨[], ⟨by simp, .inl ⟨rfl, rfl⟩⟩, ⟨rfl, rfl⟩, by simp, by simp, fun g h => by cases h⟩
theorem yZ.lt (h : yZ w B e size v xs cb) : ∀ y ∈ cb, B <= y /\ y < w.heap.size := by
 obtain ⟨es, _, h2, _, h4, _⟩ := h;exact fun y hy => ⟨h4 y hy, Reps.lt _ h2 y hy⟩
theorem yZ.own (h : yZ w B e size v xs cb) : ∀ g, v.ownBlock = some g -> B <= g /\ g < w.heap.size /\ g ∉ cb := by
 obtain ⟨es, h1, _, _, _, h5⟩ := h;exact fun g hg => ⟨(uQ h1 hg).1, (uQ h1 hg).2, h5 g hg⟩
theorem jU {n : Nat} {es : List Value} (h : w.ownsRow B e size v n es) (hb : ∀ g, v.ownBlock = some g -> w'.heap[g]? = w.heap[g]?) : w'.ownsRow B e size v n es := by
 refine ⟨h.1, ?_⟩;rcases h.2 with h0 | ⟨g, cap, cur, rfl, h1, h2, h3, h4, h5, h6⟩
 ·exact .inl h0
 ·exact .inr ⟨g, cap, cur, rfl, h1, (hb g rfl).trans h2, h3, h4, h5, h6⟩
theorem yZ.touch {bs : List Nat} (h : yZ w B e size v xs cb) (t : Touch bs w w') (h1 : ∀ g, v.ownBlock = some g -> g ∉ bs) (h2 : ∀ y ∈ cb, y ∉ bs) : yZ w' B e size v xs cb := by
 have hl := h.lt;have ho := h.own;obtain ⟨es, q1, q2, q3, q4, q5⟩ := h;exact ⟨es, jU q1 fun g hg => t.block g (ho g hg).2.1 (h1 g hg), Reps.keep _ q2 ⟨t.size, fun y hy => t.block y (hl y hy).2 (h2 y hy)⟩, q3, q4, q5⟩
theorem yZ.below (h : yZ w B e size v xs cb) (hb : Below w.heap.size w w') : yZ w' B e size v xs cb := h.touch (Touch.of_below hb (bs := [])) (by simp) (by simp)
theorem yZ.set_low (h : yZ w B e size v xs cb) {p : Addr} (hp : p.block < B) (u : Value) : yZ (w.setCell p u) B e size v xs cb := by
 have hl := h.lt;have ho := h.own;obtain ⟨es, q1, q2, q3, q4, q5⟩ := h;exact ⟨es, jU q1 fun g hg => Below.heap_setCell _ _ _ _ (fun e => by have := (ho g hg).1; omega), Reps.keep _ q2 ⟨by simp [World.setCell], fun y hy => Below.heap_setCell _ _ _ _ (fun e => by have := (hl y hy).1; omega)⟩, q3, q4, q5⟩
theorem qJT (w : World) (t ty : TypeId) (i : TypeInfo) (z : Value) (bytes : Nat) (ht : P.underlying t = some (.slice e)) (hi : P.info? e = some i) (hz : i.zero = some z)
  (hsize : i.size = size) (hby : i.bytes = bytes) (hzs : z.cells.size = size) (hsz : 0 < size) (hG : yZ w B e size v xs cb) {x : D} {g0 : Nat} {news : List Value} {b1 : List Nat}
  (hr : Rep w x news b1) (hn : b1.Nodup) (hf : ∀ y ∈ b1, y ∉ cb /\ v.ownBlock ≠ some y /\ B <= y) (hcells : ∀ j u, news[j]? = some u -> w.cell? ⟨g0, j, none⟩ = some u) (hlen : news.length = size) (h1 : ∀ u ∈ news, u.oneCell' = true)
  (h63 : xs.length + 1 <= 1000000000) (hbytes : bytes <= 1024) (hbase : B <= w.heap.size) :
  ∃ v' w', (Builtin.append_ #[t, t] ty #[v, .slice (some ⟨g0, 0, none⟩) 1 1]).run P w = .ok v' w' /\ yZ w' B e size v' (xs ++ [x]) (cb ++ b1) /\ Grew w w' v v' := by
 obtain ⟨es, q1, q2, q3, q4, q5⟩ := hG;obtain ⟨v', w', hrun, h2, h3, _, h5⟩ := run_append_own_at (P := P) w B t ty e i z size bytes ht hi hz hsize hby hzs hsz v xs.length es q1 ⟨g0, 0, none⟩ 1 1 news (by rw [hlen, Nat.one_mul]) (fun j u hu => by rw [uG, Nat.zero_add]; exact hcells j u hu) h1
  (by unfold maxLen; omega) (by have := Nat.mul_le_mul h63 hbytes; omega) hbase
 have hlt0 := Reps.lt _ q2;have hblk : ∀ y, y < w.heap.size -> v.ownBlock ≠ some y -> w'.heap[y]? = w.heap[y]? := fun y hy hne => h3.block y hy (fun e => hne e.symm);refine ⟨v', w', hrun, ⟨es ++ news, by simpa using h2, vI (Reps.keep _ q2 ⟨h3.size, fun y hy => hblk y (hlt0 y hy) fun h => q5 y h hy⟩) (Rep.keep _ hr ⟨h3.size, fun y hy => hblk y (Rep.lt _ hr y hy) (hf y hy).2.1⟩), ?_, ?_, ?_⟩, ⟨h3.os, h3.tape, h3.output, h3.size, fun y hy hm => hblk y hy fun e => hm (qU.2 e)⟩, fun y hy => ?_⟩
 ·exact List.nodup_append.2 ⟨q3, hn, fun y hy z hz e => (hf z hz).1 (e ▸ hy)⟩
 ·intro y hy
  rcases List.mem_append.1 hy with hy | hy
  ·exact q4 y hy
  ·exact (hf y hy).2.2
 ·intro g hg hm
  rcases h5 with h5 | h5
  ·rw [h5] at hg
   rcases List.mem_append.1 hm with hm | hm
   ·exact q5 g hg hm
   ·exact (hf g hm).2.1 hg
  ·rw [h5] at hg
   have hgw : w.heap.size = g := by simpa using hg
   rcases List.mem_append.1 hm with hm | hm
   ·have := hlt0 g hm; omega
   ·have := Rep.lt _ hr g hm; omega
 ·rcases h5 with h5 | h5
  ·rw [h5] at hy; exact .inl hy
  ·rw [h5] at hy
   have : w.heap.size = y := by simpa using hy
   exact .inr (by omega)
theorem xN {o : Oper} {a : Act} {K : Act -> World -> Prop} {Q : Exit -> Act -> World -> Prop} (s x : Operand) (t : TypeId)
  (ho : o.op = .call { callee := .builtin .append, args := #[s, x], argTypes := #[t, t] })
  (z : Value) (ht : P.underlying t = some (.slice e)) (hinfo : (P.info? e).map (fun i => (i.zero, i.size, decide (i.bytes <= 1024))) = some (some z, size, true)) (hzs : z.cells.size = size) (hsz : 0 < size) (hs : a.eval s = v) (hG : yZ w B e size v xs cb) {d : D} {g0 : Nat} {news : List Value} {b1 : List Nat}
  (hx : a.eval x = .slice (some ⟨g0, 0, none⟩) 1 1) (hr : Rep w d news b1) (hn : b1.Nodup) (hf : ∀ y ∈ b1, y ∉ cb /\ v.ownBlock ≠ some y /\ B <= y) (hcells : ∀ j u, news[j]? = some u -> w.cell? ⟨g0, j, none⟩ = some u) (hlen : news.length = size) (h1 : ∀ u ∈ news, u.oneCell' = true)
  (h63 : xs.length + 1 <= 1000000000) (hbase : B <= w.heap.size)
  (h : ∀ v' w', yZ w' B e size v' (xs ++ [d]) (cb ++ b1) -> Grew w w' v v' -> K (a.put o.dst v') w') : o.wp P a w K Q := by
 obtain ⟨i, hi, hzz⟩ := Option.map_eq_some_iff.1 hinfo;simp only [Prod.mk.injEq, decide_eq_true_iff] at hzz;obtain ⟨v', w', hrun, h2, h3⟩ := qJT (P := P) w t o.type i z i.bytes ht hi hzz.1 hzz.2.1 rfl hzs hsz hG hr hn hf hcells hlen h1 h63 hzz.2.2 hbase;unfold Oper.wp execOp;simp only [ho, resolve, invoke, builtin, Sem.run_bind, Sem.run_pure, Result.andThen_ok, List.map_toArray, List.map_cons, List.map_nil, hs, hx, hrun];exact h v' w' h2 h3
structure Apart (vr vw : Value) (cb : List Nat) : Prop where
 o : ∀ y, vr.ownBlock = some y -> vw.ownBlock ≠ some y
 c : ∀ y, vw.ownBlock = some y -> y ∉ cb
theorem Apart.nil : Apart (.slice none 0 0) (.slice none 0 0) [] := by
 constructor
 ·intro y h; cases h
 ·intro y h; cases h
theorem Apart.step {vr vw vr' vw' : Value} {b1 : List Nat} {N0 N1 N2 N3 : Nat} (a : Apart vr vw cb) (hw0 : ∀ y, vw.ownBlock = some y -> y < N0) (hcb : ∀ y ∈ cb, y < N0)
  (g1 : ∀ y, vr'.ownBlock = some y -> vr.ownBlock = some y ∨ N1 <= y) (h01 : N0 <= N1) (l1 : ∀ y, vr'.ownBlock = some y -> y < N2) (hb : ∀ y ∈ b1, N0 <= y /\ y < N2) (h02 : N0 <= N2)
  (g2 : ∀ y, vw'.ownBlock = some y -> vw.ownBlock = some y ∨ N3 <= y) (h23 : N2 <= N3) : Apart vr' vw' (cb ++ b1) := by
 refine ⟨fun y h1 h2 => ?_, fun y h2 hm => ?_⟩
 ·have := l1 y h1
  rcases g2 y h2 with h3 | h3
  ·have := hw0 y h3
   rcases g1 y h1 with h4 | h4
   ·exact a.o y h4 h3
   ·omega
  ·omega
 ·rcases g2 y h2 with h3 | h3
  ·have := hw0 y h3
   rcases List.mem_append.1 hm with hm | hm
   ·exact a.c y h3 hm
   ·have := (hb y hm).1; omega
  ·rcases List.mem_append.1 hm with hm | hm
   ·have := hcb y hm; omega
   ·have := (hb y hm).2; omega
theorem Touch.box5 {bs : List Nat} {a b : World} (h : Touch bs a b) {g : Nat} {u0 u1 u2 u3 u4 : Value} (k : Box5 a g u0 u1 u2 u3 u4) (hn : g ∉ bs) : Box5 b g u0 u1 u2 u3 u4 := by
 have hl := qW k.1;exact ⟨(h.cell hl hn).trans k.1, (h.cell hl hn).trans k.2.1, (h.cell hl hn).trans k.2.2.1, (h.cell hl hn).trans k.2.2.2.1, (h.cell hl hn).trans k.2.2.2.2⟩
end
end Go.Proofs.YtgogjbnneoadkaaGreat
namespace Go.Proofs.YtgogjbnneoadkaaGreat
open Go.RowKit
section
variable {P : Program} {ops : Array Oper} {Q : Exit -> Act -> World -> Prop} {md : Region.Mode} {S : World -> Prop} {T : Nat}
def vY (P : Program) (md : Region.Mode) (ops : Array Oper) (Q : Exit -> Act -> World -> Prop) (S : World -> Prop) (T : Nat) : Nat -> Array Bool -> Act -> World -> Prop
 | 0, listed, a, w => Region.ready md ops listed = [] /\ Q .normal a w
 | fuel + 1, listed, a, w =>
  (Region.ready md ops listed = [] -> Q .normal a w) /\
  ∀ i ∈ Region.ready md ops listed, wpOp P ops Q i (fun a' w' => ((listed.setIfInBounds i true).getD T true = false -> S w') /\ vY P md ops Q S T fuel (listed.setIfInBounds i true) a' w') a w
theorem qYX : ∀ (fuel : Nat) (listed : Array Bool) (a : Act) (w : World), vY P md ops Q S T fuel listed a w -> wpAny P md ops Q fuel listed a w
 | 0, _, _, _, h => h
 | fuel + 1, _, _, _, h => ⟨h.1, fun i hi => wpOp_mono (fun a' w' h' => qYX fuel _ a' w' h'.2) (h.2 i hi)⟩
def qBK (md : Region.Mode) (ops : Array Oper) (T i : Nat) : Bool := !(T == i) && match ops[T]? with
 | some o => o.after.toList.any fun e => Region.binds md e && e.on == i
 | none => false
theorem qJV {S' : World -> Prop} {i : Nat} {oi : Oper} {v : Value} (hi : ops[i]? = some oi) (hsel : ∀ (j : Nat) (o : Oper) cs b, ops[j]? = some o -> o.op ≠ .select cs b)
  (hQ : ∀ c a w, Q (.panic c) (a.put oi.dst v) w -> Q (.panic c) a w) (hTi : T ≠ i)
  (C : Array Bool -> Prop)
  (hC : ∀ (listed : Array Bool) j oj, C listed -> ops[j]? = some oj -> (∀ e ∈ oj.after, Region.binds md e = true -> e.on ≠ i) -> C (listed.setIfInBounds j true) /\ ∀ w, ((listed.setIfInBounds j true).getD T true = false -> S w) -> S' w) :
  ∀ (fuel : Nat) (listed : Array Bool) (a : Act) (w : World), C listed ->
   (∀ j oj, ops[j]? = some oj -> j ≠ i -> listed.getD j true = false -> (∀ e ∈ oj.after, Region.binds md e = true -> e.on ≠ i) -> oi.apart ops oj = true) ->
   i ∈ Region.ready md ops listed -> YieldsIf P ops S' oi v a -> S' w -> (listed.getD T true = false -> S w) ->
   vY P md ops Q S T fuel (listed.setIfInBounds i true) (a.put oi.dst v) w -> vY P md ops Q S T (fuel + 1) listed a w := by
 have hget : ∀ listed : Array Bool, (listed.setIfInBounds i true).getD T true = listed.getD T true := fun listed => getD_set_ne true (Ne.symm hTi);intro fuel
 induction fuel with
 | zero =>
  intro listed a w _ _ hr hy hS hK H;refine ⟨fun h => (by rw [h] at hr; cases hr), fun j hj => ?_⟩;by_cases hji : j = i
  ·subst hji; exact hy.wpOp hi hS ⟨fun h => hK (by rw [hget] at h; exact h), H⟩
  ·have := ready_mono hj hji
   rw [H.1] at this
   cases this
 | succ fuel ih =>
  intro listed a w hc hfree hr hy hS hK H;refine ⟨fun h => (by rw [h] at hr; cases hr), fun j hj => ?_⟩;by_cases hji : j = i
  ·subst hji; exact hy.wpOp hi hS ⟨fun h => hK (by rw [hget] at h; exact h), H⟩
  ·have h1 := H.2 j (ready_mono hj hji)
   obtain ⟨hjun, oj, hoj, hall⟩ := mem_ready.1 hj;have hnot : ∀ e ∈ oj.after, Region.binds md e = true -> e.on ≠ i := fun e he hb heq => by
    have h1 := hall e he hb;have h0 := (mem_ready.1 hr).1;rw [heq] at h1;rcases Nat.lt_or_ge i listed.size with h' | h'
    ·simp [h'] at h0 h1; rw [h0] at h1; cases h1
    ·simp [Array.getElem?_eq_none h'] at h1
   obtain ⟨hc', hS'⟩ := hC listed j oj hc hoj hnot;have h2 := wpOp_putIf hoj (hfree j oj hoj hji hjun hnot) (fun cs b => hsel i oi cs b hi) (fun cs b => hsel j oj cs b hoj) hQ hy h1;have hfree' : ∀ k ok, ops[k]? = some ok -> k ≠ i -> (listed.setIfInBounds j true).getD k true = false ->
     (∀ e ∈ ok.after, Region.binds md e = true -> e.on ≠ i) -> oi.apart ops ok = true := fun k ok hk hki hun hno => by
    refine hfree k ok hk hki ?_ hno;by_cases hjk : j = k
    ·subst hjk; exact hjun
    ·rw [getD_set_ne true hjk] at hun; exact hun
   have hcomm : (listed.setIfInBounds i true).setIfInBounds j true = (listed.setIfInBounds j true).setIfInBounds i true := Array.setIfInBounds_comm _ _ (Ne.symm hji);refine wpOp_mono (fun a' w' h3 => ?_) h2;have h4 : (listed.setIfInBounds j true).getD T true = false -> S w' := fun h => h3.2.1 (by rw [hcomm, hget]; exact h)
   refine ⟨h4, ih (listed.setIfInBounds j true) a' w' hc' hfree' (ready_mono hr (Ne.symm hji)) h3.1 (hS' w' h4) h4 ?_⟩;rw [<- hcomm];exact h3.2.2
theorem qI {listed : Array Bool} {a : Act} {w : World} (hr : Region.ready md ops listed = []) (h : Q .normal a w) : ∀ fuel, vY P md ops Q S T fuel listed a w
 | 0 => ⟨hr, h⟩
 | _ + 1 => ⟨fun _ => h, by rw [hr]; simp⟩
theorem zM {id : Nat} {a : Act} {w : World} (T : Nat) (hm : P.follows .mixedOrders = true) (hS : S w.drew)
  (h : S w.drew -> vY P .any ops Q S T ops.size (Array.replicate ops.size false) a w.drew) : (Code.region id ops true).wp P Q a w :=
 wp_region_any hm (qYX _ _ _ _ (h hS))
end
section
variable {P : Program} {l : List Oper} {Q : Exit -> Act -> World -> Prop} {S : World -> Prop} {md : Region.Mode} {T : Nat}
theorem qAJ {i : Nat} {oi : Oper} {v : Value} {fuel : Nat} {listed : Array Bool} {a : Act} {w : World} (hi : l[i]? = some oi) (hg : oi.guard = none) (ht : qBK md l.toArray T i = true) (hl : listed.getD T true = false)
  (hs : Region.noSelect l.toArray = true) (hf : Region.free md l.toArray listed i = true) (hr : (Region.ready md l.toArray listed).contains i = true)
  (hQ : ∀ c a w, Q (.panic c) (a.put oi.dst v) w -> Q (.panic c) a w) (hy : ∀ w, S w -> (execOp a.eval oi).run P w = .ok (.value v) w) (hS : S w)
  (h : vY P md l.toArray Q S T fuel (listed.setIfInBounds i true) (a.put oi.dst v) w) : vY P md l.toArray Q S T (fuel + 1) listed a w := by
 simp only [qBK, Bool.and_eq_true, Bool.not_eq_true', beq_eq_false_iff_ne] at ht;obtain ⟨hTi, ht⟩ := ht;refine qJV (S' := S) (oi := oi) (by simpa using hi) (Region.noSelect_spec hs) hQ hTi (fun listed => listed.getD T true = false) (fun listed j oj hc hj hno => ?_) fuel listed a w hl (Region.free_spec (by simpa using hi) hf) (by simpa using hr) (.inl ⟨by simp [Region.wanted, hg], hy⟩) hS (fun _ => hS) h;have hne : j ≠ T := fun e => by
  subst e;rw [hj] at ht;simp only [List.any_eq_true, Bool.and_eq_true, beq_iff_eq] at ht;obtain ⟨e, he, hb, heq⟩ := ht;exact hno e (by simpa using he) hb heq
 have hg2 : (listed.setIfInBounds j true).getD T true = false := by rw [getD_set_ne true hne]; exact hc
 exact ⟨hg2, fun w hw => hw hg2⟩
theorem qAX {i : Nat} {oi : Oper} {v : Value} {fuel : Nat} {listed : Array Bool} {a : Act} {w : World} (hi : l[i]? = some oi) (hg : oi.guard = none) (hTi : (T == i) = false)
  (hs : Region.noSelect l.toArray = true) (hf : Region.free md l.toArray listed i = true) (hr : (Region.ready md l.toArray listed).contains i = true)
  (hQ : ∀ c a w, Q (.panic c) (a.put oi.dst v) w -> Q (.panic c) a w) (hy : ∀ w, (execOp a.eval oi).run P w = .ok (.value v) w) (hK : listed.getD T true = false -> S w)
  (h : vY P md l.toArray Q S T fuel (listed.setIfInBounds i true) (a.put oi.dst v) w) : vY P md l.toArray Q S T (fuel + 1) listed a w :=
 qJV (S' := fun _ => True) (oi := oi) (by simpa using hi) (Region.noSelect_spec hs) hQ (by simpa using hTi) (fun _ => True) (fun _ _ _ _ _ _ => ⟨trivial, fun _ _ => trivial⟩) fuel listed a w trivial (Region.free_spec (by simpa using hi) hf) (by simpa using hr) (.inl ⟨by simp [Region.wanted, hg], fun w _ => hy w⟩) trivial hK h
theorem qS {rs : List Nat} {fuel : Nat} {listed : Array Bool} {a : Act} {w : World} (hr : Region.ready md l.toArray listed = rs) (hne : rs ≠ [])
  (h : ∀ i ∈ rs, wpOp P l.toArray Q i (fun a' w' => ((listed.setIfInBounds i true).getD T true = false -> S w') /\ vY P md l.toArray Q S T fuel (listed.setIfInBounds i true) a' w') a w) : vY P md l.toArray Q S T (fuel + 1) listed a w :=
 ⟨fun h0 => absurd (hr ▸ h0) hne, hr ▸ h⟩
theorem opT {i : Nat} {o : Oper} {fuel : Nat} {listed : Array Bool} {a : Act} {w : World} (ho : l[i]? = some o) (hg : Region.wanted o (yielded l.toArray a.tmps) = true)
  (h : ∀ K' : Act -> World -> Prop, Shut (∀ a w, S w -> (S w -> vY P md l.toArray Q S T fuel (listed.setIfInBounds i true) a w) -> K' a w) -> Oper.wp P o a w K' Q) :
  wpOp P l.toArray Q i (fun a' w' => ((listed.setIfInBounds i true).getD T true = false -> S w') /\ vY P md l.toArray Q S T fuel (listed.setIfInBounds i true) a' w') a w := by
 refine wpOp_step (o := o) (by simpa using ho) fun K hK => ?_;rw [if_pos hg];exact h K fun a w hS hW => hK a w ⟨fun _ => hS, hW hS⟩
theorem opTT {i : Nat} {o : Oper} {fuel : Nat} {listed : Array Bool} {a : Act} {w : World} (ho : l[i]? = some o) (hg : Region.wanted o (yielded l.toArray a.tmps) = true) (ht : (listed.setIfInBounds i true).getD T true = true)
  (h : ∀ K' : Act -> World -> Prop, Shut (∀ a w, vY P md l.toArray Q S T fuel (listed.setIfInBounds i true) a w -> K' a w) -> Oper.wp P o a w K' Q) :
  wpOp P l.toArray Q i (fun a' w' => ((listed.setIfInBounds i true).getD T true = false -> S w') /\ vY P md l.toArray Q S T fuel (listed.setIfInBounds i true) a' w') a w := by
 refine wpOp_step (o := o) (by simpa using ho) fun K hK => ?_;rw [if_pos hg];exact h K fun a w hW => hK a w ⟨fun h => (by rw [ht] at h; cases h), hW⟩
theorem all1 {p : Nat -> Prop} {i : Nat} (h : p i) : ∀ k ∈ [i], p k := by simpa using h
theorem all2 {p : Nat -> Prop} {i j : Nat} (h : p i) (h2 : p j) : ∀ k ∈ [i, j], p k := by simpa using ⟨h, h2⟩
end
section
variable {P : Program} {l : List Oper} {Q : Exit -> Act -> World -> Prop} {S : World -> Prop} {md : Region.Mode} {T : Nat}
theorem goT (i : Nat) {oi : Oper} {v : Value} {fuel : Nat} {listed : Array Bool} {a a' : Act} {w : World} (hS : S w)
  (h : vY P md l.toArray Q S T fuel (listed.setIfInBounds i true) a' w)
  (hi : l[i]? = some oi := by rfl) (hg : oi.guard = none := by rfl) (ht : qBK md l.toArray T i = true := by kernel_rfl) (hl : listed.getD T true = false := by kernel_rfl) (hs : Region.noSelect l.toArray = true := by kernel_rfl)
  (hf : Region.free md l.toArray listed i = true := by kernel_rfl) (hr : (Region.ready md l.toArray listed).contains i = true := by kernel_rfl)
  (hy : ∀ w, S w -> (execOp a.eval oi).run P w = .ok (.value v) w := by (intro w hSw; (try dsimp only at hSw); go_simp; try with_reducible rfl))
  (hA : a.put oi.dst v = a' := by (simp only [Act.put, aq0, aq1, aq2]; try rfl))
  (hQ : ∀ c a w, Q (.panic c) (a.put oi.dst v) w -> Q (.panic c) a w := by exact fun _ _ _ h => h) : vY P md l.toArray Q S T (fuel + 1) listed a w :=
 qAJ hi hg ht hl hs hf hr hQ hy hS (by rw [hA]; exact h)
theorem goU (i : Nat) {oi : Oper} {v : Value} {fuel : Nat} {listed : Array Bool} {a a' : Act} {w : World} (hK : listed.getD T true = false -> S w)
  (h : vY P md l.toArray Q S T fuel (listed.setIfInBounds i true) a' w)
  (hi : l[i]? = some oi := by rfl) (hg : oi.guard = none := by rfl) (ht : (T == i) = false := by kernel_rfl) (hs : Region.noSelect l.toArray = true := by kernel_rfl)
  (hf : Region.free md l.toArray listed i = true := by kernel_rfl) (hr : (Region.ready md l.toArray listed).contains i = true := by kernel_rfl)
  (hy : ∀ w, (execOp a.eval oi).run P w = .ok (.value v) w := by (intro w; go_simp; try with_reducible rfl))
  (hA : a.put oi.dst v = a' := by (simp only [Act.put, aq0, aq1, aq2]; try rfl))
  (hQ : ∀ c a w, Q (.panic c) (a.put oi.dst v) w -> Q (.panic c) a w := by exact fun _ _ _ h => h) : vY P md l.toArray Q S T (fuel + 1) listed a w :=
 qAX hi hg ht hs hf hr hQ hy hK (by rw [hA]; exact h)
end
end Go.Proofs.YtgogjbnneoadkaaGreat
namespace Go.Proofs.YtgogjbnneoadkaaGreat
open Go.ChangeShapes Go.WideShapes Go.ChangeAt Go.RowKit Go.Deep
structure Dp where
 from_ : Int
 to_ : Int
 kinds : Int
 deriving DecidableEq
def Dp.d (x : Dp) : D := .st [.int x.from_, .int x.to_, .int x.kinds]
theorem Dp.d_size (x : Dp) : x.d.size = 3 := rfl
theorem Rep.dp_iff {w : World} {x : Dp} {cs : List Value} {bs : List Nat} : Rep w x.d cs bs ↔ cs = [.int .i64 x.from_, .int .i64 x.to_, .int .i64 x.kinds] /\ bs = [] /\ I64 x.from_ /\ I64 x.to_ /\ I64 x.kinds := by
 constructor
 ·intro h
  replace h : Reps w [.int x.from_, .int x.to_, .int x.kinds] cs bs := h;obtain ⟨_, _, _, _, rfl, rfl, g1, h⟩ := h;obtain ⟨_, _, _, _, rfl, rfl, g2, h⟩ := h;obtain ⟨_, _, _, _, rfl, rfl, g3, h⟩ := h;obtain ⟨rfl, rfl⟩ := h;obtain ⟨rfl, rfl, g1⟩ := g1;obtain ⟨rfl, rfl, g2⟩ := g2;obtain ⟨rfl, rfl, g3⟩ := g3;exact ⟨rfl, by simp, g1, g2, g3⟩
 ·rintro ⟨rfl, rfl, g1, g2, g3⟩
  have h : Reps w [.int x.from_, .int x.to_, .int x.kinds] _ _ := ⟨_, _, _, _, rfl, rfl, ⟨rfl, rfl, g1⟩, ⟨_, _, _, _, rfl, rfl, ⟨rfl, rfl, g2⟩, ⟨_, _, _, _, rfl, rfl, ⟨rfl, rfl, g3⟩, ⟨rfl, rfl⟩⟩⟩⟩;simpa using (show Rep w x.d _ _ from h)
theorem Tryz.infoDep : (Tryz.prog.info? 86).map (fun i => (i.zero, i.size, decide (i.bytes <= 1024))) = some (some (.agg #[.int .i64 0, .int .i64 0, .int .i64 0]), 3, true) := by kernel_rfl
def uS (a b : Us) : Int := (if b.reads.contains a.write then 1 else 0) + (if a.reads.contains b.write then 2 else 0) + (if a.write = b.write then 4 else 0)
theorem qWQ (a b : Us) : 0 <= uS a b /\ uS a b <= 7 := by
 unfold uS
 split <;> split <;> split <;> omega
def noUs : Us := ⟨[], 0⟩
def nthU (us : List Us) (k : Nat) : Us := us.getD k noUs
theorem qKK {us : List Us} {k : Nat} (h : k < us.length) : nthU us k = us[k] := by simp [nthU, List.getD_eq_getElem?_getD, h]
def jX (us : List Us) (i : Nat) : Nat -> Nat -> List Dp
 | 0, _ => []
 | n + 1, k => (if 0 < uS (nthU us i) (nthU us k) then [⟨(i : Int), (k : Int), uS (nthU us i) (nthU us k)⟩] else []) ++ jX us i n (k + 1)
def yK (us : List Us) : Nat -> List Dp
 | 0 => []
 | i + 1 => yK us i ++ jX us i (us.length - (i + 1)) (i + 1)
def qKA (us : List Us) : List Dp := yK us us.length
def jT (us : List Us) (i k : Nat) : List Dp := jX us i (k - (i + 1)) (i + 1)
theorem qWG (us : List Us) (i : Nat) : ∀ n k, jX us i (n + 1) k = jX us i n k ++ (if 0 < uS (nthU us i) (nthU us (k + n)) then [⟨(i : Int), ((k + n : Nat) : Int), uS (nthU us i) (nthU us (k + n))⟩] else [])
 | 0, k => by simp [jX]
 | n + 1, k => by
  rw [jX, qWG us i n (k + 1)]
  conv => rhs; rw [jX]
  rw [List.append_assoc, show k + 1 + n = k + (n + 1) by omega]
theorem qYN {us : List Us} {i k : Nat} (h : i < k) : jT us i (k + 1) = jT us i k ++ (if 0 < uS (nthU us i) (nthU us k) then [⟨(i : Int), (k : Int), uS (nthU us i) (nthU us k)⟩] else []) := by
 unfold jT;rw [show k + 1 - (i + 1) = (k - (i + 1)) + 1 by omega, qWG, show i + 1 + (k - (i + 1)) = k by omega]
theorem qUX {us : List Us} {i k : Nat} (h : i < k) (h2 : 0 < uS (nthU us i) (nthU us k)) : jT us i (k + 1) = jT us i k ++ [⟨(i : Int), (k : Int), uS (nthU us i) (nthU us k)⟩] := by rw [qYN h, if_pos h2]
theorem qDL {us : List Us} {i k : Nat} (h : i < k) (h2 : ¬ 0 < uS (nthU us i) (nthU us k)) : jT us i (k + 1) = jT us i k := by rw [qYN h, if_neg h2, List.append_nil]
theorem jS (us : List Us) (i : Nat) : ∀ n k d, d ∈ jX us i n k -> d.from_ = (i : Int) /\ ∃ j, k <= j /\ j < k + n /\ d.to_ = (j : Int) /\ d.kinds = uS (nthU us i) (nthU us j) /\ 0 < d.kinds
 | 0, k, d, h => by simp [jX] at h
 | n + 1, k, d, h => by
  rw [jX] at h;rcases List.mem_append.1 h with h | h
  ·split at h
   ·next h2 =>
    rw [List.mem_singleton] at h; subst h;exact ⟨rfl, k, qJ _, by omega, rfl, rfl, h2⟩
   ·simp at h
  ·obtain ⟨h1, j, h2, h3, h4, h5⟩ := jS us i n (k + 1) d h
   exact ⟨h1, j, by omega, by omega, h4, h5⟩
structure DpOk (us : List Us) (d : Dp) : Prop where
 f0 : 0 <= d.from_
 ft : d.from_ < d.to_
 t1 : d.to_ < (us.length : Int)
 k0 : 0 < d.kinds
 k1 : d.kinds <= 7
theorem qWU {us : List Us} : ∀ {n : Nat}, n <= us.length -> ∀ d ∈ yK us n, DpOk us d /\ d.from_ < (n : Int)
 | 0, _, d, h => by simp [yK] at h
 | n + 1, hn, d, h => by
  rw [yK] at h;rcases List.mem_append.1 h with h | h
  ·have := qWU (by omega) d h
   exact ⟨this.1, by omega⟩
  ·obtain ⟨h1, j, h2, h3, h4, h5, h6⟩ := jS _ _ _ _ _ h
   have hk := qWQ (nthU us n) (nthU us j);exact ⟨⟨by omega, by omega, by omega, h6, by omega⟩, by omega⟩
theorem qUZ {us : List Us} : ∀ d ∈ qKA us, DpOk us d := fun d h => (qWU (qJ _) d h).1
theorem qGO {us : List Us} : ∀ {n : Nat}, n <= us.length -> (yK us n).Pairwise (fun a b => a.from_ <= b.from_)
 | 0, _ => by simp [yK]
 | n + 1, hn => by
  rw [yK];refine List.pairwise_append.2 ⟨qGO (by omega), ?_, fun a ha b hb => ?_⟩
  ·refine List.pairwise_of_forall_mem_list fun a ha b hb => ?_
   rw [(jS _ _ _ _ _ ha).1, (jS _ _ _ _ _ hb).1];omega
  ·have h1 := (qWU (by omega) a ha).2
   rw [(jS _ _ _ _ _ hb).1];omega
theorem qJZ (us : List Us) (i : Nat) : ∀ n k, (jX us i n k).length <= n
 | 0, _ => by simp [jX]
 | n + 1, k => by
  rw [jX, List.length_append];have := qJZ us i n (k + 1)
  split <;> simp <;> omega
theorem qUQ {us : List Us} : ∀ {n : Nat}, n <= us.length -> (yK us n).length <= n * us.length
 | 0, _ => by simp [yK]
 | n + 1, hn => by
  rw [yK, List.length_append, Nat.add_mul];have h1 := qUQ (us := us) (n := n) (by omega);have h2 := qJZ us n (us.length - (n + 1)) (n + 1);omega
end Go.Proofs.YtgogjbnneoadkaaGreat
