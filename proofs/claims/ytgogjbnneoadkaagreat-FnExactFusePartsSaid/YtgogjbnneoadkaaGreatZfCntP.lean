/- How many marks a valid program takes. -/
import Derived.Test.YtgogjbnneoadkaaGreatZfSum
import Derived.Test.YtgogjbnneoadkaaGreatZfCore
import Derived.Deep.AppendLies
import Derived.Test.YtgogjbnneoadkaaGreatZfBasic
import Derived.Deep.RegionLaw
import Derived.Test.YtgogjbnneoadkaaGreatZfRowS
import Derived.Deep.CutBlock
import Derived.Test.YtgogjbnneoadkaaGreatZfBoxNest
import Derived.Test.YtgogjbnneoadkaaGreatZfTyStmt
import Derived.Test.YtgogjbnneoadkaaGreatZfActs
import Derived.Test.YtgogjbnneoadkaaGreatZfPgF
import Derived.Test.YtgogjbnneoadkaaGreatZfFin
import Derived.Test.YtgogjbnneoadkaaGreatZfSame
set_option linter.all false
set_option maxHeartbeats 1000000
namespace Go.Proofs.YtgogjbnneoadkaaGreat
open Go.ChangeShapes Go.WideShapes Go.ChangeAt Go.RowKit Go.Deep
theorem uL {α : Type} {cnt : α -> Nat} {k : Nat} : ∀ (xs : List α), (∀ x ∈ xs, cnt x <= k) -> cntL cnt xs <= xs.length * k
 | [], _ => by simp [cntL]
 | x :: xs, h => by
  have h1 := h x List.mem_cons_self;have h2 := uL xs fun y hy => h y (List.mem_cons_of_mem _ hy);rw [cntL, List.length_cons, Nat.add_mul]; omega
theorem qFI {xs : List Aff} {d : Int} (h : xJ xs d = true) : cntL Aff.cntE xs <= 10 := by
 have h1 := xB h;have h2 := uL (cnt := Aff.cntE) (k := 5) xs (fun t ht => by have := (xE.1 (h1.2.2 t ht).1).1; unfold Aff.cntE; omega);have := h1.2.1;omega
theorem qBP {x : Ex} {d : Int} (h : ownF x d = true) : x.index.coefs.length <= 4 /\ cntL Aff.cntE x.read.subs <= 10 := by
 have zA : ∀ {a : Aff}, uU a = true -> a.coefs.length = 0 := fun {a} h => by rw [qQV h]; rfl
 have zC : ∀ {a : Acc}, uB a = true -> cntL Aff.cntE a.subs = 0 := fun {a} h => by rw [qQW h]; rfl
 unfold ownF at h;by_cases e2 : x.kind = 2
 ·rw [if_pos e2] at h
  simp only [Bool.and_eq_true] at h;have h1 := zC h.2.1;have h2 := (xE.1 h.2.2.1).1;omega
 ·rw [if_neg e2] at h
  by_cases e3 : x.kind = 3
  ·rw [if_pos e3] at h
   simp only [Bool.and_eq_true, uA] at h;have h1 := zA h.2.1;have h2 := qFI h.2.2.2;omega
  ·rw [if_neg e3] at h
   by_cases e1 : x.kind = 1
   ·rw [if_pos e1] at h
    simp only [Bool.and_eq_true] at h;have h1 := zA h.2.1; have h2 := zC h.2.2; omega
   ·rw [if_neg e1] at h
    simp only [Bool.and_eq_true] at h;have h1 := zA h.2.1; have h2 := zC h.2.2; omega
theorem qLF (x : Ex) : ∀ (L : Nat) (d : Int), zS x d L = true -> x.cntE + 64 <= 64 * 2 ^ L :=
 Ex.ind (P := fun x => ∀ (L : Nat) (d : Int), zS x d L = true -> x.cntE + 64 <= 64 * 2 ^ L) (fun x hx L d h => by
  rw [uC] at h;simp only [Bool.and_eq_true, decide_eq_true_iff, List.all_eq_true] at h;obtain ⟨hL, hk, ho, hkids⟩ := h;have hkn : x.kids.length <= 2 := by
   have : yR x.kind <= 2 := by unfold yR; split <;> (try split) <;> omega
   omega
  obtain ⟨M, rfl⟩ : ∃ M, L = M + 1 := ⟨L - 1, by omega⟩;simp only [Nat.add_sub_cancel] at hkids;have h1 := uL (cnt := Ex.cntE) (k := 64 * 2 ^ M - 64) x.kids (fun y hy => by have := hx y hy M d (hkids y hy); omega);have h2 : x.kids.length * (64 * 2 ^ M - 64) <= 2 * (64 * 2 ^ M - 64) := Nat.mul_le_mul_right _ hkn;have h3 := qBP ho;have h4 : 1 <= 2 ^ M := Nat.one_le_two_pow;rw [Ex.cntE_eq, Nat.pow_succ];omega) x
def Pgm.cntM (x : Pgm) : Nat := cntL Ar.cntE x.arrays + cntL Prt.cntE x.parts
def Pgm.mkM (q : Int) (x : Pgm) : Pgm := ⟨mkL Ar.mkE Ar.cntE q x.arrays, mkL Prt.mkE Prt.cntE (q + ((cntL Ar.cntE x.arrays : Nat) : Int)) x.parts⟩
theorem Pgm.mkM_rep {w : World} {x : Pgm} {q : Int} {A1 A2 : Option Addr} {n1 n2 c1 c2 : Nat} {b1 b2 : List Nat} (h1 : Rep w (sls Ar.d (mkL Ar.mkE Ar.cntE q x.arrays)) [.slice A1 n1 c1] b1) (h2 : Rep w (sls Prt.d (mkL Prt.mkE Prt.cntE (q + ((cntL Ar.cntE x.arrays : Nat) : Int)) x.parts)) [.slice A2 n2 c2] b2) : Rep w (x.mkM q).d [.slice A1 n1 c1, .slice A2 n2 c2] (b1 ++ b2) := by
 show Reps w [sls Ar.d (x.mkM q).arrays, sls Prt.d (x.mkM q).parts] _ _;simp only [Reps];exact ⟨[.slice A1 n1 c1], [.slice A2 n2 c2], b1, b2, rfl, rfl, h1, [.slice A2 n2 c2], [], b2, [], by simp, by simp, h2, rfl, rfl⟩
theorem Pgm.mkM_open {w : World} {x : Pgm} {q : Int} {cs : List Value} {bs : List Nat} (h : Rep w (x.mkM q).d cs bs) : ∃ A1 A2 n1 n2 c1 c2 b1 b2, cs = [.slice A1 n1 c1, .slice A2 n2 c2] /\ Rep w (sls Ar.d (mkL Ar.mkE Ar.cntE q x.arrays)) [.slice A1 n1 c1] b1 /\ Rep w (sls Prt.d (mkL Prt.mkE Prt.cntE (q + ((cntL Ar.cntE x.arrays : Nat) : Int)) x.parts)) [.slice A2 n2 c2] b2 := by
 obtain ⟨A1, c1, A2, c2, d1, d2, rfl, rfl, g1, g2⟩ := Rep.pgm_iff.1 h;exact ⟨_, _, _, _, _, _, _, _, rfl, g1, g2⟩
theorem Pgm.cntM_le (x : Pgm) : x.cntM <= 8 * szD x.d := by
 have h1 := Ar.cnts_le x.arrays;have h2 := Prt.cnts_le x.parts;rw [qKZ];unfold Pgm.cntM; omega
theorem qZE {w : World} {x : Pgm} {cs : List Value} {bs : List Nat} {q : Int} (h : Rep w x.d cs bs) (hnd : bs.Nodup) (h0 : 0 <= q) (h1 : q + ((x.cntM : Nat) : Int) <= 4611686018427387904) :
  Calls Tryz.prog 13 #[.agg cs.toArray, .int .i64 q] w fun e w' => e = .returned (.int .i64 (q + ((x.cntM : Nat) : Int))) /\ Rep w' (x.mkM q).d cs bs /\ Touch bs w w' := by
 obtain ⟨A1, c1, A2, c2, d1, d2, rfl, rfl, g1, g2⟩ := Rep.pgm_iff.1 h;obtain ⟨n1, n2, dj⟩ := List.nodup_append.1 hnd;have hc : x.cntM = cntL Ar.cntE x.arrays + cntL Prt.cntE x.parts := rfl;rw [hc] at h1 ⊢;have l1 := Rep.lt _ g1;have l2 := Rep.lt _ g2;have G1 := qQ g1;have G2 := qQ g2;clear h g1 g2 hnd;obtain ⟨k1, hk1⟩ : ∃ k1, k1 = cntL Ar.cntE x.arrays := ⟨_, rfl⟩;obtain ⟨k2, hk2⟩ : ∃ k2, k2 = cntL Prt.cntE x.parts := ⟨_, rfl⟩;have HK1 := qQ hk1;have HK2 := qQ hk2;rw [<- hk1, <- hk2] at h1 ⊢;clear hk1 hk2 hc;have D1 := qQ dj;have L1 := qQ l1;have L2 := qQ l2;clear dj l1 l2;go_enter Tryz.func13, Tryz.ntmps13;go_wp2_with fail;refine (qHE (G1.out.below bel) n1 (q := q) h0 (by rw [<- HK1.out]; omega)).mono ?_;rintro e w1 ⟨rfl, r1, t1⟩;rw [<- HK1.out];have hz : w.heap.size < w1.heap.size := by have := t1.size; simp at this; omega
 have hno : w.heap.size ∉ d1 := fun hm => by have := L1.out _ hm; omega
 have P1 : Box2 w1 w.heap.size (.slice A1 x.arrays.length c1) (.slice A2 x.parts.length c2) := by
  refine ⟨?_, ?_⟩ <;> (rw [t1.cell (by simp) hno]; go_simp)
 have b0 : Below w.heap.size w (w.alloc (.cells #[.slice A1 x.arrays.length c1, .slice A2 x.parts.length c2] 30)) := bel;have G2b := qQ (Rep.keep _ (G2.out.below b0) (t1.keeps fun y hy => ⟨Rep.lt _ (G2.out.below b0) y hy, fun hm => D1.out y hm y hy rfl⟩));have t1b := qQ ((Touch.of_below b0).trans t1);have R1 := qQ r1;clear t1 r1;go_wp2_with fail;refine (qUB G2b.out n2 (q := q + (k1 : Int)) (by omega) (by rw [<- HK2.out]; omega)).mono ?_;rintro e w2 ⟨rfl, r2, t2⟩;have R1b := Rep.keep _ R1.out (t2.keeps fun y hy => ⟨Rep.lt _ R1.out y hy, fun hm => D1.out y hy y hm rfl⟩);have RR := qQ (Pgm.mkM_rep (x := x) R1b (by rw [<- HK1.out]; exact r2));rw [<- HK2.out];clear R1b r2 R1;go_wp2;go_ret;exact ⟨qF (by omega), RR.out, (t1b.out.mono (by simp +contextual)).trans (t2.mono (by simp +contextual))⟩
theorem qXJ {w : World} {x : Pgm} {cs : List Value} {bs : List Nat} {q : Int} (h : Rep w (x.mkM q).d cs bs) (h0 : 0 <= q) (h1 : q + ((x.cntM : Nat) : Int) <= 4611686018427387904) :
  Calls Tryz.prog 14 #[.agg cs.toArray, .int .i64 q] w fun e w' => e = .returned (.int .i64 (q + ((x.cntM : Nat) : Int))) /\ Below w.heap.size w w' := by
 obtain ⟨A1, A2, n1, n2, c1, c2, d1, d2, rfl, g1, g2⟩ := Pgm.mkM_open h;have hc : q + ((x.cntM : Nat) : Int) = q + ((cntL Ar.cntE x.arrays : Nat) : Int) + ((cntL Prt.cntE x.parts : Nat) : Int) := by unfold Pgm.cntM; omega
 rw [hc] at h1 ⊢;have G1 := qQ g1;have G2 := qQ g2;clear h g1 g2 hc;go_enter Tryz.func14, Tryz.ntmps14;have P0 : Box2 (w.alloc (.cells #[.slice A1 n1 c1, .slice A2 n2 c2] 30)) w.heap.size (.slice A1 n1 c1) (.slice A2 n2 c2) := by
  refine ⟨?_, ?_⟩ <;> go_simp
 go_wp2_with fail;refine (qGT (G1.out.below bel) h0 (by omega)).mono ?_;rintro e w1 ⟨rfl, b1⟩;have P1 := P0.to b1; clear P0;have B1 : Below w.heap.size w w1 := bel;go_wp2_with fail;refine (qUO (G2.out.below bel) (by omega) (by omega)).mono ?_;rintro e w2 ⟨rfl, b2⟩;go_wp2;go_ret;exact ⟨rfl, bel⟩
theorem qFO {xs : List Aff} {i : Nat} (h : xJ xs i = true) : cntL Aff.cntE xs <= 1000 := by
 obtain ⟨_, a2, a3⟩ := xB h;have h1 := uL (cnt := Aff.cntE) (k := 5) xs (fun a ha => by have := (xE.1 (a3 a ha).1).1; unfold Aff.cntE; omega);have h2 : xs.length * 5 <= 200 * 5 := Nat.mul_le_mul_right _ (by omega);omega
theorem qMO {x : Stm} {d : Int} (h : zV x d = true) : x.cntE <= 5000 := by
 obtain ⟨h1, h2, h3⟩ := xR h;simp only [uA, Bool.and_eq_true] at h1;have h4 := qFI h1.2;have h5 := qLF x.value 5 d h2;rw [Ex.cntE_eq] at h5;unfold Stm.cntE;omega
theorem qBU {p : Pgm} (h : zK p = true) : p.cntM <= 1000000 := by
 have hp := qZK h;have hs := wS h;simp only [zK, uK, Bool.and_eq_true, decide_eq_true_iff] at h;obtain ⟨⟨h1, h2⟩, _⟩ := h;obtain ⟨a1, a2⟩ := yB h1;have c1 := uL (cnt := Ar.cntE) (k := 1000) p.arrays (fun a ha => by
  obtain ⟨j, hj, rfl⟩ := List.getElem_of_mem ha;have := a2 j hj;rw [yN hj, uP, Bool.and_eq_true] at this;have := (uZ.1 this.1).2;unfold Ar.cntE;omega)
 have c2 := uL (cnt := Prt.cntE) (k := 100000) p.parts (fun x hx => by
  have hk := hp x hx;simp only [zU, qQO, Bool.and_eq_true, List.all_eq_true] at hk;obtain ⟨k1, ⟨k2, k3⟩, _⟩ := hk;have hv : qB x.nest = true := by
   cases hv : qB x.nest with
   | true => rfl
   | false => simp [qN, hv] at k1
  simp only [qB, Bool.and_eq_true, decide_eq_true_iff] at hv;have e1 := uL (cnt := Lp.cntE) (k := 2000) x.nest (fun l hl => by
   obtain ⟨j, hj, rfl⟩ := List.getElem_of_mem hl;obtain ⟨q1, q2⟩ := jA x.nest 0 hv.2 j hj;have := qFO q1;have := qFO q2;unfold Lp.cntE;omega)
  have e2 := uL (cnt := Stm.cntE) (k := 5000) x.body (fun s hs => qMO (k3 s hs));have k4 := (uZ.1 k2).2;have e3 : x.nest.length * 2000 <= 4 * 2000 := Nat.mul_le_mul_right _ hv.1;have e4 : x.body.length * 5000 <= 4 * 5000 := Nat.mul_le_mul_right _ (by omega);unfold Prt.cntE;omega)
 have e5 : p.arrays.length * 1000 <= 4 * 1000 := Nat.mul_le_mul_right _ (by omega);have e6 : p.parts.length * 100000 <= 4 * 100000 := Nat.mul_le_mul_right _ (by omega);unfold Pgm.cntM;omega
theorem qRK (q : Pgm) : (finF q).1.cntM <= 1000000 := by
 unfold finF
 split
 ·rename_i h; exact qBU h
 ·decide
end Go.Proofs.YtgogjbnneoadkaaGreat
