/- Library functions on slices of Affine: slices.IndexFunc, ContainsFunc, EqualFunc. Printed by tygen.py. -/
import Derived.Test.YtgogjbnneoadkaaGreatZfCore
set_option linter.all false
set_option maxHeartbeats 2000000
namespace Go.Proofs.YtgogjbnneoadkaaGreat
open Go.ChangeShapes Go.WideShapes Go.ChangeAt Go.RowKit Go.Deep
theorem Aff.d_size (x : Aff) : x.d.size = 2 := rfl
theorem Rep.aff_iff2 {w : World} {x : Aff} {cs : List Value} {bs : List Nat} : Rep w x.d cs bs ↔ ∃ (A1 : Option Addr) (c1 : Nat) (d1 : List Nat), cs = [.slice A1 x.coefs.length c1, .int .i64 x.const] /\ bs = d1 /\ Rep w (ints x.coefs) [.slice A1 x.coefs.length c1] d1 /\ I64 x.const := by
 constructor
 ·intro h
  replace h : Reps w [ints x.coefs, .int x.const] cs bs := h;obtain ⟨_, _, _, _, rfl, rfl, g1, h⟩ := h;obtain ⟨_, _, _, _, rfl, rfl, g2, h⟩ := h;obtain ⟨rfl, rfl⟩ := h;obtain ⟨B1, e1, rfl, _⟩ := g1.ints_form;obtain ⟨rfl, rfl, g2⟩ := g2;exact ⟨_, _, _, rfl, by simp, g1, g2⟩
 ·rintro ⟨A1, c1, d1, rfl, rfl, g1, g2⟩
  have h : Reps w [ints x.coefs, .int x.const] _ _ := ⟨_, _, _, _, rfl, rfl, g1, ⟨_, _, _, _, rfl, rfl, ⟨rfl, rfl, g2⟩, ⟨rfl, rfl⟩⟩⟩;simpa using (show Rep w x.d _ _ from h)
theorem qYL {w : World} {x : Aff} {cs cs' : List Value} {bs bs' : List Nat} (h : Rep w x.d cs bs) (h' : Rep w x.d cs' bs') :
  Calls Tryz.prog 226 #[.agg cs.toArray, .agg cs'.toArray] w fun e w' => e = .returned (.bool true) /\ Below w.heap.size w w' := by
 obtain ⟨A, n, c, rfl, _⟩ := Rep.aff_iff.1 h;obtain ⟨A', n', c', rfl, _⟩ := Rep.aff_iff.1 h';exact qSO h h'
theorem qZG {w : World} {xs : List Aff} {A B : Option Addr} {n m c d : Nat} {bs bs' : List Nat} (hA : Rep w (sls Aff.d xs) [.slice A n c] bs) (hB : Rep w (sls Aff.d xs) [.slice B m d] bs') :
  Calls Tryz.prog 201 #[.slice A n c, .slice B m d] w fun e w' => e = .returned (.bool true) /\ Below w.heap.size w w' := by
 obtain ⟨rfl, h1, h2⟩ := hA.sls_len;obtain ⟨rfl, _, _⟩ := hB.sls_len;have hn : xs.length <= 9223372036854775807 := qX h1 h2;clear h1 h2;have hl1 : ((xs.length : Int) != (xs.length : Int)) = false := by simp
 have HA := qQ hA; clear hA;have HB := qQ hB; clear hB;go_enter Tryz.func201, Tryz.ntmps201;go_wp2;go_loopw [5] (fun i wr => ∃ k : Nat, k <= xs.length /\ i = .int .i64 k /\ Below w.heap.size w wr) (fun i _ => xs.length - (intOf i).toNat)
 case atStart => exact ⟨0, Nat.zero_le _, rfl, Below.refl _ _⟩
 case round =>
  obtain ⟨k, hk, rfl, hb⟩ := hrel;by_cases hlt : k < xs.length
  ·obtain ⟨b, o, cs, l, rfl, hbl, hr, _, _, hc⟩ := (HA.out.below hb).sls_at Aff.d_size hlt
   have G := qQ hr;obtain ⟨A1, c1, d1, rfl, rfl, g1, g2⟩ := Rep.aff_iff2.1 hr;have k0 := (hc 0 _ rfl).1; rw [Nat.add_zero] at k0;have k1 := (hc 1 _ rfl).1;clear hc hr g1 g2;obtain ⟨b', o', cs', l', rfl, hbl', hr', _, _, hc'⟩ := (HB.out.below hb).sls_at Aff.d_size hlt;have G' := qQ hr';obtain ⟨A1', c1', d1', rfl, rfl, g1', g2'⟩ := Rep.aff_iff2.1 hr';have k0' := (hc' 0 _ rfl).1; rw [Nat.add_zero] at k0';have k1' := (hc' 1 _ rfl).1;clear hc' hr' g1' g2';go_wp2_with fail;go_region_held3 (fun w' => w'.cell? ⟨b, o + k * 2, none⟩ = some (.slice A1 xs[k].coefs.length c1) /\ w'.cell? ⟨b, o + k * 2 + 1, none⟩ = some (.int .i64 xs[k].const) /\ w'.cell? ⟨b', o' + k * 2, none⟩ = some (.slice A1' xs[k].coefs.length c1') /\ w'.cell? ⟨b', o' + k * 2 + 1, none⟩ = some (.int .i64 xs[k].const)) (first | exact ⟨k0, k1, k0', k1'⟩ | exact ⟨(by rw [b1.cell hbl]; exact k0), (by rw [b1.cell hbl]; exact k1), (by rw [b1.cell hbl']; exact k0'), (by rw [b1.cell hbl']; exact k1')⟩ | skip)
    (first | (go_at_call 226; refine (qYL (G.out.drewN 1) (G'.out.drewN 1)).mono ?_; rintro e w1 ⟨rfl, b1⟩; replace b1 := qL b1))
   have S1 := qY hb b1;clear b1;go_wp2;go_roundw
   case rel => exact ⟨k + 1, by omega, by go_num, S1⟩
   case measure => simp [intOf]; omega
  ·go_wp2
   go_ret;exact ⟨rfl, hb⟩
theorem qXP (x : Aff) : szD x.d = x.coefs.length := by
 have h : szD x.d = szDs [ints x.coefs, .int x.const] := by simp only [Aff.d, szD]
 rw [h]; simp only [szDs, szD, yI]; omega
theorem yF {w : World} {x : Aff} {cs : List Value} {bs : List Nat} {left : Int} (h : Rep w x.d cs bs) (h0 : 0 <= left) (h1 : left <= 1048576) :
  Calls Tryz.prog 219 #[.agg cs.toArray, .int .i64 left] w fun e w' => e = .returned (.int .i64 (szR left (szD x.d))) /\ Below w.heap.size w w' := by
 obtain ⟨A1, c1, d1, rfl, rfl, g1, g2⟩ := Rep.aff_iff2.1 h;rw [qXP x];have G1 := qQ g1;clear h g1 g2;by_cases hs0 : (left : Int) - ((x.coefs.length : Nat) : Int) < 0
 ·have HR := qQ (show szR left (x.coefs.length) = -1 from qA (by omega))
  have HS0 := qQ (qA hs0);go_enter Tryz.func219, Tryz.ntmps219;go_wp2_with fail;refine (qVQ (G1.out.below bel) (by omega) (by omega)).mono ?_;rintro e w1 ⟨rfl, rfl⟩;rw [HS0.out];go_wp2;go_ret;exact ⟨qF HR.out.symm, bel⟩
 ·have HS0 := qQ (zY (left := left) (tot := x.coefs.length) (by omega))
  have hp0 : 0 <= left - ((x.coefs.length : Nat) : Int) := by omega
  clear hs0;have HR := qQ (show szR left (x.coefs.length) = left - ((x.coefs.length : Nat) : Int) by rw [zY (by omega)] <;> omega);go_enter Tryz.func219, Tryz.ntmps219;go_wp2_with fail;refine (qVQ (G1.out.below bel) (by omega) (by omega)).mono ?_;rintro e w1 ⟨rfl, rfl⟩;rw [HS0.out];go_wp2;go_ret;exact ⟨qF HR.out.symm, bel⟩
theorem vJ {w : World} {xs : List Aff} {A : Option Addr} {n c : Nat} {bs : List Nat} {left : Int} (h : Rep w (sls Aff.d xs) [.slice A n c] bs) (h0 : 0 <= left) (h1 : left <= 1048576) :
  Calls Tryz.prog 192 #[.slice A n c, .int .i64 left] w fun e w' => e = .returned (.int .i64 (szR left (szD (sls Aff.d xs)))) /\ Below w.heap.size w w' := by
 obtain ⟨rfl, h2, h3⟩ := h.sls_len;have hn : xs.length <= 9223372036854775807 := qX h2 h3;have H := qQ h; clear h h2 h3;have HT := qQ (xI Aff.d xs);by_cases hs : left - ((xs.length : Nat) : Int) < 0
 ·have hr := qQ (show szR left (szD (sls Aff.d xs)) = -1 from qA (by rw [HT.out]; omega))
  go_enter Tryz.func192, Tryz.ntmps192;go_wp2;go_ret;exact ⟨qF hr.out.symm, bel⟩
 have hp : 0 <= left - ((xs.length : Nat) : Int) := by omega
 clear hs;go_enter Tryz.func192, Tryz.ntmps192;go_wp2;go_loopw [1, 5] (fun u i wr => ∃ j : Nat, j <= xs.length /\ i = .int .i64 j /\ u = .int .i64 (left - ((xs.length : Nat) : Int) - ((szTo Aff.d xs j : Nat) : Int)) /\ 0 <= left - ((xs.length : Nat) : Int) - ((szTo Aff.d xs j : Nat) : Int) /\ Below w.heap.size w wr) (fun _ i _ => xs.length - (intOf i).toNat)
 case atStart => exact ⟨0, Nat.zero_le _, rfl, zQ (by simp [uV]), by rw [uV]; omega, Below.refl _ _⟩
 case round =>
  obtain ⟨j, hj, rfl, rfl, hge, hb⟩ := hrel;by_cases hlt : j < xs.length
  ·have HD := qQ (zR Aff.d hlt)
   have HE := qQ (uY Aff.d (xs := xs) (j + 1));obtain ⟨b, o, cs, l, rfl, hbl, hr, _, _, hc⟩ := (H.out.below hb).sls_at Aff.d_size (k := j) hlt;have G := qQ hr;obtain ⟨A1, c1, d1, rfl, rfl, g1, g2⟩ := Rep.aff_iff2.1 hr;have k0 := (hc 0 _ rfl).1; rw [Nat.add_zero] at k0;have k1 := (hc 1 _ rfl).1;clear hc hr g1 g2;by_cases hx : left - ((xs.length : Nat) : Int) - ((szTo Aff.d xs j : Nat) : Int) - ((szD (Aff.d xs[j]) : Nat) : Int) < 0
   ·have HN := qQ (qA hx)
    have hr2 := qQ (show szR left (szD (sls Aff.d xs)) = -1 from qA (by have h4 := HE.out; rw [HD.out] at h4; rw [HT.out]; omega));go_wp2_with fail;refine (yF G.out (by omega) (by omega)).mono ?_;rintro e w1 ⟨rfl, b1⟩;rw [HN.out];go_wp2;go_ret;exact ⟨qF hr2.out.symm, qY hb b1⟩
   ·have HN := qQ (zY (left := left - ((xs.length : Nat) : Int) - ((szTo Aff.d xs j : Nat) : Int)) (tot := szD (Aff.d xs[j])) (by omega))
    have hge2 : 0 <= left - ((xs.length : Nat) : Int) - ((szTo Aff.d xs j : Nat) : Int) - ((szD (Aff.d xs[j]) : Nat) : Int) := by omega
    go_wp2_with fail;refine (yF G.out (by omega) (by omega)).mono ?_;rintro e w1 ⟨rfl, b1⟩;rw [HN.out];go_wp2;go_roundw
    case rel => exact ⟨j + 1, by omega, by go_num, zQ (by rw [HD.out]; omega), by rw [HD.out]; omega, qY hb b1⟩
    case measure => simp [intOf]; omega
  ·have hjj : j = xs.length := by omega
   subst hjj;have hr2 := qQ (show szR left (szD (sls Aff.d xs)) = left - ((xs.length : Nat) : Int) - ((szTo Aff.d xs xs.length : Nat) : Int) by rw [vZ, zY (by rw [HT.out]; rw [vZ] at hge; omega), HT.out]; omega);go_wp2;go_ret;exact ⟨qF hr2.out.symm, hb⟩
theorem qYV {w : World} {x : Aff} {cs : List Value} {bs : List Nat} (h : Rep w x.d cs bs) (hz : szD x.d <= 10000000) :
  Calls Tryz.prog 224 #[.agg cs.toArray] w (vO w x.d) := by
 obtain ⟨A, n, c, rfl, h1, _⟩ := Rep.aff_iff.1 h;have hn : n <= 10000000 := by
  rw [h1.ints_len.1]; rw [qXP] at hz; exact hz
 refine (qSH h hn).mono ?_;rintro e w1 ⟨g, rfl, r, hg, b⟩;exact ⟨_, _, rfl, r, by simp, by simpa using hg, b⟩
theorem Tryz.makeAffine : (Tryz.prog.info? 61).map (fun i => (i.zero, i.size, decide (i.bytes <= 1024))) = some (some (.agg #[.slice none 0 0, .int .i64 0]), 2, true) := by kernel_rfl
theorem qZX {w : World} {xs : List Aff} {A : Option Addr} {n c : Nat} {bs : List Nat} (h : Rep w (sls Aff.d xs) [.slice A n c] bs) (hz : szD (sls Aff.d xs) <= 10000000) :
  Calls Tryz.prog 198 #[.slice A n c] w (yQ w (sls Aff.d xs)) := by
 obtain ⟨rfl, h2, h3⟩ := h.sls_len;have hn : xs.length <= 9223372036854775807 := qX h2 h3;have H := qQ h; clear h h2 h3;have HZ := qQ (show xs.length + szDs (xs.map Aff.d) <= 10000000 by rw [<- xI]; exact hz); clear hz;obtain ⟨i0, hi, hzz⟩ := Option.map_eq_some_iff.1 Tryz.makeAffine;simp only [Prod.mk.injEq, decide_eq_true_iff] at hzz;have hmk := fun W => uR (P := Tryz.prog) 57 61 (.agg #[.slice none 0 0, .int .i64 0]) 2 i0.bytes Tryz.underlying57 (by rw [hi, Option.map_some, hzz.1, hzz.2.1]) .i64 .i64 xs.length (by
  have h1 := HZ.out;have h2 := Nat.mul_le_mul hzz.2.2 (show xs.length <= 10000000 by omega);omega) (by omega) W
 clear hi hzz;go_enter Tryz.func198, Tryz.ntmps198;go_wp2;clear hmk;have hrow0 := Row.made w (Value.agg #[.slice none 0 0, .int .i64 0]).cells (xs.length * 2) 61;have hlen0 : (madeCells (Value.agg #[.slice none 0 0, .int .i64 0]).cells (xs.length * 2)).toList.length = xs.length * 2 := by simp [size_madeCells]
 have HR0 := qQ (qV hrow0 hlen0); clear hrow0 hlen0;go_loopw [4] (fun i wr => ∃ (j : Nat) (es rest : List Value) (cb : List Nat), j <= xs.length /\ i = .int .i64 j /\ Row wr w.heap.size 61 (es ++ rest) /\ es.length = j * 2 /\ rest.length + j * 2 = xs.length * 2 /\ Reps wr ((xs.take j).map Aff.d) es cb /\ cb.Nodup /\ (∀ y ∈ cb, w.heap.size + 1 <= y) /\ Below w.heap.size w wr) (fun i _ => xs.length - (intOf i).toNat)
 case atStart => exact ⟨0, [], _, [], Nat.zero_le _, rfl, HR0.out.1, by simp, by simp; simpa using HR0.out.2, by simp [Reps], by simp, by simp, bel⟩
 case round =>
  obtain ⟨j, es, rest, cb, hj, rfl, hrow, hes, hrest, hreps, hnd, hcb, hb⟩ := hrel;have HE := qQ (qV hes (qV hrest (qV hreps (qV hnd hcb)))); clear hes hrest hreps hnd hcb;have HROW := qQ hrow; clear hrow;by_cases hlt : j < xs.length
  ·have hsz1 := zR Aff.d hlt
   have hsz2 := uY Aff.d (xs := xs) (j + 1);have HX := qQ (show szD (Aff.d xs[j]) <= 10000000 by have := HZ.out; omega); clear hsz1 hsz2;obtain ⟨b, o, cs, l, rfl, hbl, hr, _, _, hc⟩ := (H.out.below hb).sls_at Aff.d_size (k := j) hlt;have G := qQ hr;obtain ⟨A1, c1, d1, rfl, rfl, g1, g2⟩ := Rep.aff_iff2.1 hr;have k0 := (hc 0 _ rfl).1; rw [Nat.add_zero] at k0;have k1 := (hc 1 _ rfl).1;clear hc hr g1 g2;go_wp2_with fail;refine (qYV G.out HX.out).mono ?_;rintro e w1 ⟨cs1, bs1, rfl, r1', nd1, hb1, b1⟩;have R1 := qQ r1';obtain ⟨A1r, c1r, d1r, hcs1, _⟩ := Rep.aff_iff2.1 r1';subst hcs1;clear r1';obtain ⟨hes, hrest, hreps, hnd, hcb⟩ := HE.out;have hzr := hb.size;have hg0 := HROW.out.lt;have hrow1 := HROW.out.to b1;rcases rest with _ | ⟨u0, rest⟩
   ·simp only [List.length_nil] at hrest; omega
   rcases rest with _ | ⟨u1, rest⟩
   ·simp only [List.length_cons, List.length_nil] at hrest; omega
   have o0 : w1.cell? ⟨w.heap.size, j * 2, none⟩ = some u0 := by rw [hrow1.cell, List.getElem?_append_right (by omega), hes]; simp
   have f0 : w1.frozen? ⟨w.heap.size, j * 2, none⟩ = false := hrow1.frozen _;have o1 : w1.cell? ⟨w.heap.size, j * 2 + 1, none⟩ = some u1 := by rw [hrow1.cell, List.getElem?_append_right (by omega), hes]; simp
   have f1 : w1.frozen? ⟨w.heap.size, j * 2 + 1, none⟩ = false := hrow1.frozen _;have s0 : Row w1 w.heap.size 61 (es ++ u0 :: u1 :: rest) := hrow1;have s1 := s0.set_in (.slice A1r xs[j].coefs.length c1r);rw [show (es : List Value).length = j * 2 by simp [hes]] at s1;have s2 := s1.set_in (.int .i64 xs[j].const);rw [show (es ++ [.slice A1r xs[j].coefs.length c1r] : List Value).length = j * 2 + 1 by simp [hes]] at s2;have HS := qQ s2; clear s0 s1 s2 hrow1 HROW;have HM := qQ (qV hes (qV hrest (qV hreps (qV hnd (qV hcb (qV nd1 (qV hb1 (qV hb b1)))))))); clear hes hrest hreps hnd hcb nd1 hb1 hb b1;go_wp2;go_roundw
   case rel =>
    obtain ⟨hes, hrest, hreps, hnd, hcb, nd1, hb1, hb, b1⟩ := HM.out;have hn1 : w.heap.size ∉ bs1 := fun hm => by have := hb1 _ hm; omega
    have hn2 : w.heap.size ∉ cb := fun hm => by have := hcb _ hm; omega
    refine ⟨j + 1, _, rest, cb ++ bs1, by omega, by go_num, HS.out, by simp [hes]; omega, by simp only [List.length_cons] at hrest; omega, ?_, ?_, ?_, ?_⟩
    ·rw [List.take_succ_eq_append_getElem hlt, List.map_append]
     have hk1 := Reps.keep _ hreps (qD.of_below b1 (Reps.lt _ hreps));rw [show (es ++ [.slice A1r xs[j].coefs.length c1r] ++ [.int .i64 xs[j].const] : List Value) = es ++ [.slice A1r xs[j].coefs.length c1r, .int .i64 xs[j].const] by simp];exact vI (Reps.keep _ hk1 (((qD.refl _ _).setCell hn2 _).setCell hn2 _)) (Rep.keep _ R1.out (((qD.refl _ _).setCell hn1 _).setCell hn1 _))
    ·refine List.nodup_append.2 ⟨hnd, nd1, fun y h1 z h2 e => ?_⟩
     subst e;have q1 := Reps.lt _ hreps y h1;have q2 := hb1 y h2;omega
    ·intro y hy
     rcases List.mem_append.1 hy with hy | hy
     ·exact hcb y hy
     ·have := hb1 y hy; omega
    ·exact (((qY hb b1).setCell (qJ _) _).setCell (qJ _) _)
   case measure => simp [intOf]; omega
  ·have hjj : j = xs.length := by omega
   subst hjj;obtain ⟨hes, hrest, hreps, hnd, hcb⟩ := HE.out;rw [List.take_length] at hreps;have hres := Row.rep HROW.out hreps (c := xs.length) (by simp) (by have := HZ.out; unfold maxLen; omega);rw [List.length_map] at hres;have HF := qQ (qV hres (qV hnd hcb)); clear hres hnd hcb hreps hes hrest;go_wp2;go_ret;obtain ⟨hres, hnd, hcb⟩ := HF.out;exact ⟨_, _, _, _, rfl, hres, List.nodup_cons.2 ⟨fun hm => by have := hcb _ hm; omega, hnd⟩, fun y hy => by
    rcases List.mem_cons.1 hy with rfl | hy
    ·exact qJ _
    ·have := hcb y hy; omega, hb⟩
def Aff.mkE (q : Int) (x : Aff) : Aff := ⟨seqI (q) x.coefs.length, q + ((x.coefs.length : Nat) : Int)⟩
def Aff.cntE (x : Aff) : Nat := x.coefs.length + 1
theorem Aff.cnt_le (x : Aff) : x.cntE <= 8 * (szD x.d + 1) := by
 have := qXP x;simp only [Aff.cntE];omega
theorem Aff.cnts_le (xs : List Aff) : cntL Aff.cntE xs <= 8 * szD (sls Aff.d xs) := jJ xs fun x _ => x.cnt_le
theorem vF {w : World} {xs : List Aff} {A : Option Addr} {n c : Nat} {bs : List Nat} {q : Int} (h : Rep w (sls Aff.d xs) [.slice A n c] bs) (hnd : bs.Nodup) (h0 : 0 <= q) (h1 : q + ((cntL Aff.cntE xs : Nat) : Int) <= 4611686018427387904) :
  Calls Tryz.prog 130 #[.slice A n c, .int .i64 q] w fun e w' => e = .returned (.int .i64 (q + ((cntL Aff.cntE xs : Nat) : Int))) /\ Rep w' (sls Aff.d (mkL Aff.mkE Aff.cntE q xs)) [.slice A n c] bs /\ Touch bs w w' := by
 obtain ⟨rfl, h2, h3⟩ := h.sls_len;have hn : xs.length <= 9223372036854775807 := qX h2 h3;have ND := qQ hnd; clear hnd;clear h2 h3;go_enter Tryz.func130, Tryz.ntmps130;go_wp2;go_loopw [1, 5] (fun u i wr => ∃ j : Nat, j <= xs.length /\ i = .int .i64 j /\ u = .int .i64 (q + ((cntL Aff.cntE (xs.take j) : Nat) : Int)) /\ Rep wr (sls Aff.d (mkTo Aff.mkE Aff.cntE q xs j)) [.slice A xs.length c] bs /\ Touch bs w wr) (fun _ i _ => xs.length - (intOf i).toNat)
 case atStart => exact ⟨0, Nat.zero_le _, rfl, zQ (by simp [cntL]), by rw [jF]; exact h, Touch.refl _ _⟩
 case round =>
  obtain ⟨j, hj, rfl, rfl, hr0, ht⟩ := hrel;by_cases hlt : j < xs.length
  ·have hlen : (mkTo Aff.mkE Aff.cntE q xs j).length = xs.length := jE _ _ _ _ hj
   obtain ⟨b, o, cs, l, rfl, hbl, hr, hbb, hlb, hnl, hbn, hc, hset⟩ := hr0.sls_focus Aff.d_size ND.out (k := j) (by rw [hlen]; exact hlt);rw [qQK hlt] at hr;have hcnt := xA (cnt := Aff.cntE) hlt;have hle := vC (cnt := Aff.cntE) (xs := xs) (j + 1);rw [hcnt] at hle;have HC := qQ hcnt; clear hcnt hr0 hlen;obtain ⟨A1, c1, d1, rfl, rfl, g1, g2⟩ := Rep.aff_iff2.1 hr;have k0 := (hc 0 _ rfl).1; rw [Nat.add_zero] at k0;have z0 := (hc 0 _ rfl).2; rw [Nat.add_zero] at z0;have k1 := (hc 1 _ rfl).1;have z1 := (hc 1 _ rfl).2;have HS := qQ hset; clear hset hc hr;have B1 : q + ((cntL Aff.cntE (xs.take j) : Nat) : Int) + ((xs[j].coefs.length : Nat) : Int) + 1 <= 4611686018427387904 := by simp only [Aff.cntE] at hle; omega
   have B0 : 0 <= q + ((cntL Aff.cntE (xs.take j) : Nat) : Int) := by omega
   have nd_l := hnl;have mb1 : b ∉ l := fun hm => hbn (by first | exact hm | simp [hm])
   have sb1 : ∀ y ∈ l, y ∈ (l : List Nat) := fun y hm => by first | exact hm | simp [hm]
   have lt1 := Rep.lt _ g1;have hlow : ∀ y ∈ (l : List Nat), y ∈ bs := hlb;have HND := qQ (qV hnl (qV hbn hlb)); clear hnl hbn hlb;have R1_0 := qQ g1; clear g1;have R2_0 := qQ g2; clear g2;have M0 := Mk.refl wr b (o + j * 2) (o + j * 2 + 2) (l);have L0 := hbl;have Hmb1 := qQ mb1; clear mb1;have Hsb1 := qQ sb1; clear sb1;have Hlt1 := qQ lt1; clear lt1;have Hnd_l := qQ nd_l; clear nd_l;have Hhlow := qQ hlow; clear hlow;go_wp2_with fail;refine (qQG (k := q + ((cntL Aff.cntE (xs.take j) : Nat) : Int)) R1_0.out (by have := h1; simp only [Aff.cntE] at hle; omega) (by have := h1; simp only [Aff.cntE] at hle; omega)).mono ?_;rintro e w1 ⟨rfl, r1, t1⟩;have M1 := M0.call t1 Hsb1.out HND.out.2.1 (qZ hbl M0.touch.size);have k0_1 := (t1.cell (g := b) (o := o + j * 2) (qZ hbl M0.touch.size) Hmb1.out).trans k0; clear k0;have z0_1 := (t1.frozen (g := b) (o := o + j * 2) (qZ hbl M0.touch.size) Hmb1.out).trans z0; clear z0;have k1_1 := (t1.cell (g := b) (o := o + j * 2 + 1) (qZ hbl M0.touch.size) Hmb1.out).trans k1; clear k1;have z1_1 := (t1.frozen (g := b) (o := o + j * 2 + 1) (qZ hbl M0.touch.size) Hmb1.out).trans z1; clear z1;have R1_1 := qQ r1; clear r1 R1_0;clear t1;have X2 := qQ (show ∃ W, W = w1.setCell ⟨b, o + j * 2 + 1, none⟩ (.int .i64 (q + ((cntL Aff.cntE (xs.take j) : Nat) : Int) + ((xs[j].coefs.length : Nat) : Int))) from ⟨_, rfl⟩);have M2 := M1.store (i := o + j * 2 + 1) (by omega) (by omega) (.int .i64 (q + ((cntL Aff.cntE (xs.take j) : Nat) : Int) + ((xs[j].coefs.length : Nat) : Int)));have kE := @kO (w1) b (o + j * 2 + 1) (.int .i64 (q + ((cntL Aff.cntE (xs.take j) : Nat) : Int) + ((xs[j].coefs.length : Nat) : Int))); have zE := @zO (w1) b (o + j * 2 + 1) (.int .i64 (q + ((cntL Aff.cntE (xs.take j) : Nat) : Int) + ((xs[j].coefs.length : Nat) : Int)));have k0_2 := kE k0_1 (by omega);have z0_2 := zE z0_1;have k1_2 := World.cell?_setCell_same (w := w1) (a := ⟨b, o + j * 2 + 1, none⟩) (v := .int .i64 (q + ((cntL Aff.cntE (xs.take j) : Nat) : Int) + ((xs[j].coefs.length : Nat) : Int))) k1_1;have kE := @kO (w1) b (o + j * 2 + 1) (.int .i64 (q + ((cntL Aff.cntE (xs.take j) : Nat) : Int) + ((xs[j].coefs.length : Nat) : Int))); have zE := @zO (w1) b (o + j * 2 + 1) (.int .i64 (q + ((cntL Aff.cntE (xs.take j) : Nat) : Int) + ((xs[j].coefs.length : Nat) : Int)));have z1_2 := zE z1_1;have R1_2 := qQ (Rep.keep _ R1_1.out ((qD.refl _ _).setCell (p := ⟨b, o + j * 2 + 1, none⟩) Hmb1.out (.int .i64 (q + ((cntL Aff.cntE (xs.take j) : Nat) : Int) + ((xs[j].coefs.length : Nat) : Int))))); clear R1_1
   have MM := qQ M2;go_wp2;go_roundw
   case rel =>
    have rx : Rep _ (Aff.mkE (q + ((cntL Aff.cntE (xs.take j) : Nat) : Int)) xs[j]).d _ (l) := Rep.aff_iff2.2 ⟨_, _, _, rfl, rfl, (by simp only [Aff.mkE, qR, qP]; exact R1_2.out), (by have := h1; simp only [Aff.cntE] at hle; unfold I64; simp only [Aff.mkE]; omega)⟩;have rs := HS.out _ (Aff.mkE (q + ((cntL Aff.cntE (xs.take j) : Nat) : Int)) xs[j]) _ rx MM.out.touch MM.out.frozen (fun jj u hu => by
     match jj, hu with
     | 0, hu => simp only [List.getElem?_cons_zero, List.getElem?_cons_succ, Option.some.injEq] at hu; subst hu; first | exact k0_2 | simpa [Aff.mkE, qR, qP] using k0_2
     | 1, hu => simp only [List.getElem?_cons_zero, List.getElem?_cons_succ, Option.some.injEq] at hu; subst hu; first | exact k1_2 | simpa [Aff.mkE, qR, qP] using k1_2
     | jj + 2, hu => simp at hu) MM.out.other
    rw [qQY hlt] at rs;exact ⟨j + 1, by omega, by go_num, zQ (by rw [HC.out]; simp only [Aff.cntE]; omega), rs, ht.trans (MM.out.touch.mono fun y hy => by rcases List.mem_cons.1 hy with rfl | hy; exact hbb; exact Hhlow.out y hy)⟩
   case measure => simp [intOf]; omega
  ·have hjj : j = xs.length := by omega
   subst hjj;rw [qQH] at hr0;go_wp2;go_ret;exact ⟨qF (by rw [List.take_length]), hr0, ht⟩
theorem vT {w : World} {xs : List Aff} {A : Option Addr} {n c : Nat} {bs : List Nat} {q : Int} (h : Rep w (sls Aff.d (mkL Aff.mkE Aff.cntE q xs)) [.slice A n c] bs) (h0 : 0 <= q) (h1 : q + ((cntL Aff.cntE xs : Nat) : Int) <= 4611686018427387904) :
  Calls Tryz.prog 132 #[.slice A n c, .int .i64 q] w fun e w' => e = .returned (.int .i64 (q + ((cntL Aff.cntE xs : Nat) : Int))) /\ Below w.heap.size w w' := by
 obtain ⟨hn0, h2, h3⟩ := h.sls_len;rw [qP] at hn0;subst hn0;have hn : xs.length <= 9223372036854775807 := qX h2 h3;clear h2 h3;have H := qQ h; clear h;go_enter Tryz.func132, Tryz.ntmps132;go_wp2;go_loopw [1, 5] (fun u i wr => ∃ j : Nat, j <= xs.length /\ i = .int .i64 j /\ u = .int .i64 (q + ((cntL Aff.cntE (xs.take j) : Nat) : Int)) /\ Below w.heap.size w wr) (fun _ i _ => xs.length - (intOf i).toNat)
 case atStart => exact ⟨0, Nat.zero_le _, rfl, zQ (by simp [cntL]), Below.refl _ _⟩
 case round =>
  obtain ⟨j, hj, rfl, rfl, hb⟩ := hrel;by_cases hlt : j < xs.length
  ·obtain ⟨b, o, cs, l, rfl, hbl, hr, _, _, hc⟩ := (H.out.below hb).sls_at Aff.d_size (k := j) (by rw [qP]; exact hlt)
   rw [qXA hlt] at hr;have hcnt := xA (cnt := Aff.cntE) hlt;have hle := vC (cnt := Aff.cntE) (xs := xs) (j + 1);rw [hcnt] at hle;have HC := qQ hcnt; clear hcnt;obtain ⟨A1, c1, d1, rfl, rfl, g1, g2⟩ := Rep.aff_iff2.1 hr;have k0 := (hc 0 _ rfl).1; rw [Nat.add_zero] at k0;have k1 := (hc 1 _ rfl).1;clear hc hr;simp only [Aff.mkE, qR] at k0 g1;simp only [Aff.mkE] at k1;clear g2;have B1 : q + ((cntL Aff.cntE (xs.take j) : Nat) : Int) + ((xs[j].coefs.length : Nat) : Int) + 1 <= 4611686018427387904 := by simp only [Aff.cntE] at hle; omega
   have B0 : 0 <= q + ((cntL Aff.cntE (xs.take j) : Nat) : Int) := by omega
   have HLE := qQ hle; clear hle;have R1_0 := qQ g1; clear g1;go_wp2_with fail;refine (qQD (k := q + ((cntL Aff.cntE (xs.take j) : Nat) : Int)) R1_0.out (by omega) (by omega)).mono ?_;rintro e w' ⟨rfl, rfl⟩;go_wp2;go_roundw
   case rel => exact ⟨j + 1, by omega, by go_num, zQ (by rw [HC.out]; simp only [Aff.cntE]; omega), hb⟩
   case measure => simp [intOf]; omega
  ·have hjj : j = xs.length := by omega
   subst hjj;go_wp2;go_ret;exact ⟨qF (by rw [List.take_length]), hb⟩
theorem qXS {w : World} {xs : List Aff} {A : Option Addr} {n c : Nat} {bs : List Nat} {g : FuncId} {cap : Array Value} {p : Aff -> Bool} (h : Rep w (sls Aff.d xs) [.slice A n c] bs) (hg : xD Tryz.prog g)
  (hp : ∀ x cs bs W, x ∈ xs -> Below w.heap.size w W -> Rep W (Aff.d x) cs bs -> Calls Tryz.prog g (#[.agg cs.toArray] ++ cap) W fun e w' => e = .returned (.bool (p x)) /\ Below W.heap.size W w') :
  Calls Tryz.prog 162 #[.slice A n c, .func (.func g) #[] cap] w fun e w' => e = .returned (.int .i64 (idxI p xs 0)) /\ Below w.heap.size w w' := by
 obtain ⟨rfl, h2, h3⟩ := h.sls_len;have hn : xs.length <= 9223372036854775807 := qX h2 h3;clear h2 h3;have H := qQ h; clear h;have HP := qQ hp; clear hp;unfold xD at hg;go_enter Tryz.func162, Tryz.ntmps162;go_wp2;go_loopw [8] (fun i wr => ∃ j : Nat, j <= xs.length /\ i = .int .i64 j /\ idxI p xs 0 = idxI p (xs.drop j) j /\ Below w.heap.size w wr) (fun i _ => xs.length - (intOf i).toNat)
 case atStart => exact ⟨0, Nat.zero_le _, rfl, by simp, Below.refl _ _⟩
 case round =>
  obtain ⟨j, hj, rfl, hi, hb⟩ := hrel;have HI := qQ hi; clear hi;by_cases hlt : j < xs.length
  ·have hd := qQ (wN p xs j hlt)
   obtain ⟨b, o, cs, l, rfl, hbl, hr, _, _, hc⟩ := (H.out.below hb).sls_at Aff.d_size (k := j) hlt;have G := qQ hr;obtain ⟨A1, c1, d1, rfl, rfl, g1, g2⟩ := Rep.aff_iff2.1 hr;have k0 := (hc 0 _ rfl).1; rw [Nat.add_zero] at k0;have k1 := (hc 1 _ rfl).1;clear hc hr g1 g2;go_wp2_with fail;refine (HP.out _ _ _ _ (List.getElem_mem hlt) (by exact hb) G.out).mono ?_;rintro e w1 ⟨rfl, b1⟩;have S1 := qY hb b1;by_cases hpx : p xs[j] = true
   ·have hd2 := qQ (hd.out.trans (if_pos hpx))
    have HX := qQ hpx; clear hpx;rw [HX.out];go_wp2;go_ret;exact ⟨qF (by rw [HI.out, hd2.out]), S1⟩
   ·have hd2 := qQ (hd.out.trans (if_neg hpx))
    simp only [Bool.not_eq_true] at hpx;have HX := qQ hpx; clear hpx;rw [HX.out];go_wp2;go_roundw
    case rel => exact ⟨j + 1, by omega, by go_num, by rw [HI.out, hd2.out], S1⟩
    case measure => simp [intOf]; omega
  ·have hjj : j = xs.length := by omega
   subst hjj;go_wp2;go_ret;exact ⟨qF (by rw [HI.out]; simp [idxI]), hb⟩
theorem yX {w : World} {xs : List Aff} {A : Option Addr} {n c : Nat} {bs : List Nat} {g : FuncId} {cap : Array Value} {p : Aff -> Bool} (h : Rep w (sls Aff.d xs) [.slice A n c] bs) (hg : xD Tryz.prog g)
  (hp : ∀ x cs bs W, x ∈ xs -> Below w.heap.size w W -> Rep W (Aff.d x) cs bs -> Calls Tryz.prog g (#[.agg cs.toArray] ++ cap) W fun e w' => e = .returned (.bool (p x)) /\ Below W.heap.size W w') :
  Calls Tryz.prog 122 #[.slice A n c, .func (.func g) #[] cap] w fun e w' => e = .returned (.bool (xs.any p)) /\ Below w.heap.size w w' := by
 have hx := qQ (qQF p xs 0 (Int.le_refl _));have HH := qQ h; clear h;have HP := qQ hp; clear hp;go_enter Tryz.func122, Tryz.ntmps122;go_wp2_with fail;refine (qXS HH.out hg HP.out).mono ?_;rintro e w1 ⟨rfl, b1⟩;go_wp2;go_ret;exact ⟨qH hx.out, b1⟩
theorem vM {w : World} {xs ys : List Aff} {A B : Option Addr} {n c m d : Nat} {bs bs' : List Nat} {g : FuncId} {cap : Array Value} {p : Aff -> Aff -> Bool} (h : Rep w (sls Aff.d xs) [.slice A n c] bs) (h' : Rep w (sls Aff.d ys) [.slice B m d] bs') (hg : xD Tryz.prog g)
  (hp : ∀ x y cs bs cs' bs' W, x ∈ xs -> y ∈ ys -> Below w.heap.size w W -> Rep W (Aff.d x) cs bs -> Rep W (Aff.d y) cs' bs' -> Calls Tryz.prog g (#[.agg cs.toArray, .agg cs'.toArray] ++ cap) W fun e w' => e = .returned (.bool (p x y)) /\ Below W.heap.size W w') :
  Calls Tryz.prog 106 #[.slice A n c, .slice B m d, .func (.func g) #[] cap] w fun e w' => e = .returned (.bool (yC p xs ys)) /\ Below w.heap.size w w' := by
 obtain ⟨rfl, h1, h2⟩ := h.sls_len;obtain ⟨rfl, h3, h4⟩ := h'.sls_len;have hn : xs.length <= 9223372036854775807 := qX h1 h2;have hm : ys.length <= 9223372036854775807 := qX h3 h4;clear h1 h2 h3 h4;have H := qQ h; clear h;have H' := qQ h'; clear h';have HP := qQ hp; clear hp;unfold xD at hg;by_cases hl : xs.length = ys.length
 ·have hl1 : ((xs.length : Int) != (ys.length : Int)) = false := by simp [hl]
  have HL := qQ hl; clear hl;go_enter Tryz.func106, Tryz.ntmps106;go_wp2;go_loopw [17] (fun i wr => ∃ j : Nat, j <= xs.length /\ i = .int .i64 j /\ yC p xs ys = yC p (xs.drop j) (ys.drop j) /\ Below w.heap.size w wr) (fun i _ => xs.length - (intOf i).toNat)
  case atStart => exact ⟨0, Nat.zero_le _, rfl, by simp, Below.refl _ _⟩
  case round =>
   obtain ⟨j, hj, rfl, hi, hb⟩ := hrel;have HI := qQ hi; clear hi;by_cases hlt : j < xs.length
   ·have hlt2 : j < ys.length := by rw [<- HL.out]; exact hlt
    have hd := qQ (qQT p xs ys j hlt hlt2);obtain ⟨b, o, cs, l, rfl, hbl, hr, _, _, hc⟩ := (H.out.below hb).sls_at Aff.d_size (k := j) hlt;have G := qQ hr;obtain ⟨A1, c1, d1, rfl, rfl, g1, g2⟩ := Rep.aff_iff2.1 hr;have k0 := (hc 0 _ rfl).1; rw [Nat.add_zero] at k0;have k1 := (hc 1 _ rfl).1;clear hc hr g1 g2;obtain ⟨b', o', cs', l', rfl, hbl', hr', _, _, hc'⟩ := (H'.out.below hb).sls_at Aff.d_size (k := j) hlt2;have G' := qQ hr';obtain ⟨A1', c1', d1', rfl, rfl, g1', g2'⟩ := Rep.aff_iff2.1 hr';have k0' := (hc' 0 _ rfl).1; rw [Nat.add_zero] at k0';have k1' := (hc' 1 _ rfl).1;clear hc' hr' g1' g2';have hja : (j : Int) < (ys.length : Int) := by omega
    go_wp2_with fail;refine (HP.out _ _ _ _ _ _ _ (List.getElem_mem hlt) (List.getElem_mem hlt2) (hb.trans (by have h5 := hb.size; refine Below.mono (B := wr.heap.size) ?_ h5; exact bel)) (G.out.below bel) (G'.out.below bel)).mono ?_;rintro e w1 ⟨rfl, b1⟩;have S1 : Below w.heap.size w w1 := qY hb bel
    cases hpx : p xs[j] ys[j] with
    | false =>
     have HX := qQ (hd.out.trans (by rw [hpx, Bool.false_and])); clear hpx;go_wp2;go_ret;exact ⟨qH (by rw [HI.out, HX.out]), S1⟩
    | true =>
     have HX := qQ (hd.out.trans (by rw [hpx, Bool.true_and])); clear hpx;go_wp2;go_roundw
     case rel => exact ⟨j + 1, by omega, by go_num, by rw [HI.out, HX.out], S1⟩
     case measure => simp [intOf]; omega
   ·have hjj : j = xs.length := by omega
    subst hjj;go_wp2;go_ret;exact ⟨qH (by rw [HI.out, List.drop_length, HL.out, List.drop_length]; rfl), hb⟩
 ·have hl1 : ((xs.length : Int) != (ys.length : Int)) = true := by simp; omega
  have HR := qQ (qXK p xs ys hl); clear hl;go_enter Tryz.func106, Tryz.ntmps106;go_wp2;go_ret;exact ⟨qH HR.out.symm, bel⟩
end Go.Proofs.YtgogjbnneoadkaaGreat
