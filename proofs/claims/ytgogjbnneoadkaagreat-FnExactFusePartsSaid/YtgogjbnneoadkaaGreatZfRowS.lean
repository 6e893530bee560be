/- A struct stored into a block of the call's own, said by its row. -/
import Derived.Test.YtgogjbnneoadkaaGreatZfSum
import Derived.Test.YtgogjbnneoadkaaGreatZfActs
import Derived.Deep.CutBlock
import Derived.Deep.MidRow
set_option linter.all false
set_option maxHeartbeats 16000000
set_option maxRecDepth 100000
namespace Go.Proofs.YtgogjbnneoadkaaGreat
open Go.ChangeShapes Go.WideShapes Go.ChangeAt Go.RowKit Go.Deep
theorem Row.box7 {w : World} {g : Nat} {t : TypeId} {a0 a1 a2 a3 a4 a5 a6 : Value} (h : Row w g t [a0, a1, a2, a3, a4, a5, a6]) : Box7 w g a0 a1 a2 a3 a4 a5 a6 :=
 ⟨h.cell 0, h.cell 1, h.cell 2, h.cell 3, h.cell 4, h.cell 5, h.cell 6⟩
theorem Row.new (w : World) (l : List Value) (t : TypeId) : Row (w.alloc (.cells l.toArray t)) w.heap.size t l := by unfold Row; rw [heap_alloc_new]
theorem qRP {w : World} {p : Addr} {v : Value} {o : Obj} (h : w.cell? p = some v) : (w.alloc o).cell? p = some v := (World.cell?_alloc_some _ _ _ (by rw [h]; rfl)).trans h
theorem wF (w : World) (o : Obj) : (w.alloc o).heap.size = w.heap.size + 1 := by simp
theorem qSG (w : World) (l1 l2 l3 : List Value) (t : TypeId) {W : World} (hW : W = ((w.alloc (.cells l1.toArray t)).alloc (.cells l2.toArray t)).alloc (.cells l3.toArray t)) :
  Row W w.heap.size t l1 /\ Row W (w.heap.size + 1) t l2 /\ Row W (w.heap.size + 2) t l3 /\ Below w.heap.size w W /\ W.heap.size = w.heap.size + 3 := by
 subst hW;have al : ∀ (v : World) (o : Obj), Below v.heap.size v (v.alloc o) := fun v o => (Below.refl _ _).alloc (qJ _) _;refine ⟨((Row.new w l1 t).to (al _ _)).to (al _ _), ?_, ?_, qY (qY (al _ _) (al _ _)) (al _ _), by rw [wF, wF, wF]⟩
 ·have h := (Row.new (w.alloc (.cells l1.toArray t)) l2 t).to (al _ (.cells l3.toArray t))
  rwa [wF] at h
 ·have h := Row.new ((w.alloc (.cells l1.toArray t)).alloc (.cells l2.toArray t)) l3 t
  rwa [wF, wF] at h
theorem Rep.accZero {w : World} : Rep w accZero.d [.string ⟨#[]⟩, .slice none 0 0] [] :=
 Rep.acc_iff.2 ⟨none, 0, [], rfl, rfl, by show 0 <= maxLen; exact Nat.zero_le _, (Rep.ints_nil (Nat.zero_le _) : Rep w (ints []) [.slice none 0 0] [])⟩
theorem Ex.rep_of {w : World} {k n : Int} {i : Aff} {r : Acc} {ks : List Ex} {v2 v3 v4 v5 : Value} {A : Option Addr} {c : Nat} {d3 d6 d7 : List Nat} (hk : I64 k) (hn : I64 n) (h1 : Rep w i.d [v2, v3] d3) (h2 : Rep w r.d [v4, v5] d6) (h3 : Rep w (sls Ex.d ks) [.slice A ks.length c] d7) :
  Rep w (Ex.d ⟨k, n, i, r, ks⟩) [.int .i64 k, .int .i64 n, v2, v3, v4, v5, .slice A ks.length c] (d3 ++ d6 ++ d7) := by
 rw [Ex.d_eq];simp only [Rep, Reps];exact ⟨[_], _, [], d3 ++ d6 ++ d7, rfl, rfl, ⟨rfl, rfl, hk⟩, [_], _, [], d3 ++ d6 ++ d7, rfl, rfl, ⟨rfl, rfl, hn⟩, [_, _], _, d3, d6 ++ d7, rfl, by simp, h1, [_, _], _, d6, d7, rfl, rfl, h2, [_], [], d7, [], rfl, by simp, h3, rfl, rfl⟩
theorem Tryz.infoEx : (Tryz.prog.info? 100).map (fun i => (i.zero, i.size, decide (i.bytes <= 1024))) = some (some (.agg #[.int .i64 0, .int .i64 0, .slice none 0 0, .int .i64 0, .string ⟨#[]⟩, .slice none 0 0, .slice none 0 0]), 7, true) := by kernel_rfl
theorem qFV {p : Aff -> Bool} {x : Ex} (h : qJQ p x = true) : (x.kind = 2 -> p x.index = true) /\ (x.kind = 3 -> (∀ t ∈ x.read.subs, p t = true) /\ x.read.subs.length <= 1000000) /\ x.kids.length <= 1000000 /\ ∀ y ∈ x.kids, qJQ p y = true := by
 rw [qDT] at h;simp only [Bool.and_eq_true, decide_eq_true_iff, List.all_eq_true] at h;obtain ⟨h1, h2, h3, h4⟩ := h;refine ⟨fun e => by rwa [if_pos e] at h1, fun e => ?_, h3, h4⟩;rw [if_pos e] at h2;simp only [Bool.and_eq_true, decide_eq_true_iff, List.all_eq_true] at h2;exact h2
theorem Touch.then {bs : List Nat} {a b c : World} (h : Touch bs a b) (k : Below a.heap.size b c) : Touch bs a c :=
 ⟨k.os.trans h.os, k.tape.trans h.tape, k.output.trans h.output, qX h.size k.size, fun x hx hn => (k.block x hx).trans (h.block x hx hn)⟩
def MapX (g : FuncId) (cap : Array Value) (F : Aff -> Aff) (p : Aff -> Bool) (x : Ex) : Prop := ∀ (w : World) (cs : List Value) (bs : List Nat), Rep w x.d cs bs -> (∀ t, p t = true -> qZP w g cap F t) -> qJQ p x = true ->
  Calls Tryz.prog 164 #[.agg cs.toArray, .func (.func g) #[] cap] w (qYA w (zD F x))
theorem qLG {g : FuncId} {cap : Array Value} {F : Aff -> Aff} {p : Aff -> Bool} (hg : xD Tryz.prog g) {x : Ex} (hrec : ∀ y ∈ x.kids, MapX g cap F p y) : MapX g cap F p x := by
 intro w cs bs h hc ha;have HREC := qQ hrec; clear hrec;have HC := qQ hc; clear hc;have hp := qFV ha;have hkl := hp.2.2.1;have HPA := qQ hp; clear hp ha;have HEQ := qQ (qDY F x);obtain ⟨A3, c3, A6, c6, A7, c7, d3, d6, d7, rfl, rfl, g1, g2, g3, g4, g5, g6, g7⟩ := Rep.ex_iff.1 h;have Gkind := qQ g1;have Gnum := qQ g2;have Gindex := qQ ((Rep.aff_iff2 (x := x.index)).2 ⟨_, _, _, rfl, rfl, g3, g4⟩);have Gread := qQ ((Rep.acc_iff (x := x.read)).2 ⟨_, _, _, rfl, rfl, g5, g6⟩);have Gkids := qQ g7;clear h g1 g2 g3 g4 g5 g6 g7;have hn : x.kids.length <= 9223372036854775807 := by omega
 have HE := qQ hg;unfold xD at hg;obtain ⟨W, hW⟩ : ∃ W, W = ((w.alloc (.cells #[.int .i64 x.kind, .int .i64 x.num, .slice A3 x.index.coefs.length c3, .int .i64 x.index.const, .string x.read.arr, .slice A6 x.read.subs.length c6, .slice A7 x.kids.length c7] 100)).alloc (.cells #[.int .i64 0, .int .i64 0, .slice none 0 0, .int .i64 0, .string ⟨#[]⟩, .slice none 0 0, .slice none 0 0] 100)).alloc (.cells #[.int .i64 x.kind, .int .i64 x.num, .slice none 0 0, .int .i64 0, .string ⟨#[]⟩, .slice none 0 0, .slice none 0 0] 100) := ⟨_, rfl⟩;obtain ⟨rp0, Z0, O0, B0, hWz⟩ := qSG w _ _ _ _ hW;have P0 : Box7 W w.heap.size (.int .i64 x.kind) (.int .i64 x.num) (.slice A3 x.index.coefs.length c3) (.int .i64 x.index.const) (.string x.read.arr) (.slice A6 x.read.subs.length c6) (.slice A7 x.kids.length c7) := rp0.box7;clear rp0;have HW := qQ hW; clear hW;have HWZ := qQ hWz;have hWz2 : w.heap.size + 3 <= W.heap.size := by omega
 clear hWz;have GK0 := qQ (Gkids.out.below B0);have HZ0 := qQ Z0; clear Z0;have HKK := qQ (qV Gkind.out Gnum.out);have ZE := qQ (show (zD F x).kids.length = x.kids.length by rw [HEQ.out]; exact List.length_map _);go_enter Tryz.func164, Tryz.ntmps164;go_upto_block 0 with (fail);rw [<- HW.out];go_cut [15] (fun _ wc => ∃ (AI : Option Addr) (nI cI : Nat) (kI : Int) (sR : ByteArray) (AR : Option Addr) (nR cR : Nat) (dI dR : List Nat), Row wc (w.heap.size + 2) 100 [.int .i64 x.kind, .int .i64 x.num, .slice AI nI cI, .int .i64 kI, .string sR, .slice AR nR cR, .slice none 0 0] /\ Row wc (w.heap.size + 1) 100 [.int .i64 0, .int .i64 0, .slice none 0 0, .int .i64 0, .string ⟨#[]⟩, .slice none 0 0, .slice none 0 0] /\ Rep wc (zD F x).index.d [.slice AI nI cI, .int .i64 kI] dI /\ Rep wc (zD F x).read.d [.string sR, .slice AR nR cR] dR /\ (dI ++ dR).Nodup /\ (∀ y ∈ dI ++ dR, w.heap.size + 3 <= y) /\ Box7 wc w.heap.size (.int .i64 x.kind) (.int .i64 x.num) (.slice A3 x.index.coefs.length c3) (.int .i64 x.index.const) (.string x.read.arr) (.slice A6 x.read.subs.length c6) (.slice A7 x.kids.length c7) /\ w.heap.size + 3 <= wc.heap.size /\ Below w.heap.size w wc)
 case first =>
  have OB := O0.box7;have lo := qW OB.1;have lp := qW P0.1;have HO0 := qQ O0; clear O0;by_cases h2 : x.kind = 2
  case pos =>
   have q1 : (x.kind == 2) = true := vV h2;have HI := qQ (HPA.out.1 h2);have HX := qQ (show zD F x = ⟨x.kind, x.num, F x.index, accZero, x.kids.map (zD F)⟩ by rw [HEQ.out, if_pos h2, if_neg (by omega)]);clear h2;go_wp2_with fail;refine (HC.out _ HI.out _ _ _ B0 (Gindex.out.below B0)).mono ?_;rintro e w1 ⟨A1, n1, c1_, k1, bs1, rfl, r1, nd1, hb1, b1⟩;have OB1 := OB.to b1;have f12 := (b1.frozen (p := ⟨w.heap.size + 2, 2, none⟩) lo).trans (HO0.out.frozen 2);have f13 := (b1.frozen (p := ⟨w.heap.size + 2, 3, none⟩) lo).trans (HO0.out.frozen 3);have P1 := P0.to b1;have lp1 := qW P1.1;have lo1 := qW OB1.1;have HO1 := qQ (((HO0.out.to b1).set 2 (.slice A1 n1 c1_)).set 3 (.int .i64 k1));have HZ1 := qQ (((HZ0.out.to b1).far (p := ⟨w.heap.size + 2, 2, none⟩) (by simp) (.slice A1 n1 c1_)).far (p := ⟨w.heap.size + 2, 3, none⟩) (by simp) (.int .i64 k1));have hge := qQ (show ∀ y ∈ bs1, w.heap.size + 3 <= y from fun y hy => qX hWz2 (hb1 y hy));have hno : w.heap.size + 2 ∉ bs1 := fun hm => by have := hge.out _ hm; omega
   have HIX := qQ (Rep.keep _ r1 (((qD.refl w1 bs1).setCell (p := ⟨w.heap.size + 2, 2, none⟩) hno (.slice A1 n1 c1_)).setCell (p := ⟨w.heap.size + 2, 3, none⟩) hno (.int .i64 k1)));have PQ := qQ (show Box7 ((w1.setCell ⟨w.heap.size+2,2,none⟩ (.slice A1 n1 c1_)).setCell ⟨w.heap.size+2,3,none⟩ (.int .i64 k1)) w.heap.size (.int .i64 x.kind) (.int .i64 x.num) (.slice A3 x.index.coefs.length c3) (.int .i64 x.index.const) (.string x.read.arr) (.slice A6 x.read.subs.length c6) (.slice A7 x.kids.length c7) by refine ⟨?_, ?_, ?_, ?_, ?_, ?_, ?_⟩ <;> go_simp);have hz1 := b1.size;have ND := qQ nd1;clear r1 nd1 hb1 OB P0;go_wp2;go_meet
   case rel =>
    refine ⟨_, _, _, _, _, _, _, _, bs1, [], HO1.out, HZ1.out, ?_, ?_, by simpa using ND.out, by simpa using hge.out, PQ.out, by (simp [World.setCell]; omega), bel⟩
    ·rw [HX.out]; exact HIX.out
    ·rw [HX.out]; exact Rep.accZero
  case neg =>
   by_cases h3 : x.kind = 3
   case pos =>
    have q1 : (x.kind == 2) = false := uF h2;have q2 : (x.kind == 3) = true := vV h3;obtain ⟨hs, hl⟩ := HPA.out.2.1 h3;have HS := qQ hs; clear hs;have HX := qQ (show zD F x = ⟨x.kind, x.num, affZero, uW F x.read, x.kids.map (zD F)⟩ by rw [HEQ.out, if_neg h2, if_pos h3]);clear h2 h3;go_wp2_with fail;refine (qWP (Gread.out.below B0) hl HE.out (fun t ht => (HC.out t (HS.out t ht)).below B0)).mono ?_;rintro e w1 ⟨A1, c1_, bs1, rfl, r1, nd1, hb1, b1⟩;have OB1 := OB.to b1;have f12 := (b1.frozen (p := ⟨w.heap.size + 2, 4, none⟩) lo).trans (HO0.out.frozen 4);have f13 := (b1.frozen (p := ⟨w.heap.size + 2, 5, none⟩) lo).trans (HO0.out.frozen 5);have P1 := P0.to b1;have lp1 := qW P1.1;have lo1 := qW OB1.1;have HO1 := qQ (((HO0.out.to b1).set 4 (.string (uW F x.read).arr)).set 5 (.slice A1 (uW F x.read).subs.length c1_));have HZ1 := qQ (((HZ0.out.to b1).far (p := ⟨w.heap.size + 2, 4, none⟩) (by simp) (.string (uW F x.read).arr)).far (p := ⟨w.heap.size + 2, 5, none⟩) (by simp) (.slice A1 (uW F x.read).subs.length c1_));have hge := qQ (show ∀ y ∈ bs1, w.heap.size + 3 <= y from fun y hy => qX hWz2 (hb1 y hy));have hno : w.heap.size + 2 ∉ bs1 := fun hm => by have := hge.out _ hm; omega
    have HIX := qQ (Rep.keep _ r1 (((qD.refl w1 bs1).setCell (p := ⟨w.heap.size + 2, 4, none⟩) hno (.string (uW F x.read).arr)).setCell (p := ⟨w.heap.size + 2, 5, none⟩) hno (.slice A1 (uW F x.read).subs.length c1_)));have PQ := qQ (show Box7 ((w1.setCell ⟨w.heap.size+2,4,none⟩ (.string (uW F x.read).arr)).setCell ⟨w.heap.size+2,5,none⟩ (.slice A1 (uW F x.read).subs.length c1_)) w.heap.size (.int .i64 x.kind) (.int .i64 x.num) (.slice A3 x.index.coefs.length c3) (.int .i64 x.index.const) (.string x.read.arr) (.slice A6 x.read.subs.length c6) (.slice A7 x.kids.length c7) by refine ⟨?_, ?_, ?_, ?_, ?_, ?_, ?_⟩ <;> go_simp);have hz1 := b1.size;have ND := qQ nd1;clear r1 nd1 hb1 OB P0;go_wp2;go_meet
    case rel =>
     refine ⟨_, _, _, _, _, _, _, _, [], bs1, HO1.out, HZ1.out, ?_, ?_, by simpa using ND.out, by simpa using hge.out, PQ.out, by (simp [World.setCell]; omega), bel⟩
     ·rw [HX.out]; exact Rep.affZero
     ·rw [HX.out]; exact HIX.out
   case neg =>
    have q1 : (x.kind == 2) = false := uF h2;have q2 : (x.kind == 3) = false := uF h3;have HX := qQ (show zD F x = ⟨x.kind, x.num, affZero, accZero, x.kids.map (zD F)⟩ by rw [HEQ.out, if_neg h2, if_neg h3]);have PQ := qQ P0;clear h2 h3;go_wp2;go_meet
    case rel =>
     refine ⟨_, _, _, _, _, _, _, _, [], [], HO0.out, HZ0.out, ?_, ?_, by simp, by simp, PQ.out, hWz2, B0⟩
     ·rw [HX.out]; exact Rep.affZero
     ·rw [HX.out]; exact Rep.accZero
 case rest =>
  obtain ⟨AI, nI, cI, kI, sR, AR, nR, cR, dI, dR, ho, hz, hi, hr, hnd, hge, Pc, hsz, hbc⟩ := hcut;rename World => wc;clear P0 O0 HW HWZ HZ0;have HO := qQ ho;have HZ := qQ hz;have HI := qQ hi;have HR := qQ hr;have HND := qQ hnd;have HGE := qQ hge;have GKc := qQ (Gkids.out.below hbc);have lp := qW Pc.1;clear ho hz hi hr hnd hge;have HMX := qQ (show zD F x = ⟨x.kind, x.num, (zD F x).index, (zD F x).read, x.kids.map (zD F)⟩ by rw [HEQ.out]);obtain ⟨IX, hIX⟩ : ∃ IX, IX = (zD F x).index := ⟨_, rfl⟩;obtain ⟨RX, hRX⟩ : ∃ RX, RX = (zD F x).read := ⟨_, rfl⟩;rw [<- hIX] at HI HMX;rw [<- hRX] at HR HMX;clear hIX hRX ZE HEQ;have hgO : w.heap.size + 2 < wc.heap.size := by omega
  go_wp2;go_loopw [32] (fun i wr => ∃ (j : Nat) (u : Value), j <= x.kids.length /\ i = .int .i64 j /\ Row wr (w.heap.size + 2) 100 [.int .i64 x.kind, .int .i64 x.num, .slice AI nI cI, .int .i64 kI, .string sR, .slice AR nR cR, u] /\ Grow wr wc.heap.size 100 7 u ((x.kids.take j).map fun y => (zD F y).d) /\ Touch [w.heap.size + 2] wc wr) (fun i _ => x.kids.length - (intOf i).toNat)
  case atStart => exact ⟨0, .slice none 0 0, Nat.zero_le _, rfl, HO.out, by simpa using Grow.nil _ _ _ _, Touch.refl _ _⟩
  case round =>
   obtain ⟨j, u, hj, rfl, hrow, hG, htc⟩ := hrel;have HO2 := qQ hrow; clear hrow;have HTC := qQ htc; clear htc;have hbr : Below w.heap.size w wr := hbc.trans (HTC.out.below hbc.size (by simp));have hszr := HTC.out.size;obtain ⟨Au, cu, hfu, _, _⟩ := hG.form;rw [List.length_map, List.length_take] at hfu;have HG := qQ hG; clear hG;by_cases hlt : j < x.kids.length
   ·have HT := qQ (show ((x.kids.take (j + 1)).map fun y => (zD F y).d) = ((x.kids.take j).map fun y => (zD F y).d) ++ [(zD F x.kids[j]).d] by rw [List.take_succ_eq_append_getElem hlt, List.map_append]; rfl)
    have HRJ := qQ (HREC.out _ (List.getElem_mem hlt));have HAJ := qQ (HPA.out.2.2.2 _ (List.getElem_mem hlt));obtain ⟨be, oe, cse, le, rfl, hble, hre, _, _, hce⟩ := (Gkids.out.below hbr).sls_at Ex.d_size (k := j) hlt;have Ge := qQ hre;obtain ⟨A3e, c3e, A6e, c6e, A7e, c7e, d3e, d6e, d7e, rfl, rfl, g1e, g2e, g3e, g4e, g5e, g6e, g7e⟩ := Rep.ex_iff.1 hre;have k0e := (hce 0 _ rfl).1; rw [Nat.add_zero] at k0e;have k1e := (hce 1 _ rfl).1;have k2e := (hce 2 _ rfl).1;have k3e := (hce 3 _ rfl).1;have k4e := (hce 4 _ rfl).1;have k5e := (hce 5 _ rfl).1;have k6e := (hce 6 _ rfl).1;have Q1e := qQ g1e;have Q2e := qQ g2e;have Q3e := qQ g3e;have Q4e := qQ g4e;have Q5e := qQ g5e;have Q6e := qQ g6e;have Q7e := qQ g7e;clear hce hre g1e g2e g3e g4e g5e g6e g7e;have OB := HO2.out.box7;have lo := qW OB.1;obtain ⟨o0, o1, o2, o3, o4, o5, o6⟩ := OB;have f6 := HO2.out.frozen 6;have hmin : min j x.kids.length = j := by omega
    rw [hmin] at hfu;subst hfu;have HOW := qQ HG.out.own_ge;obtain ⟨y, hy⟩ : ∃ y, y = x.kids[j] := ⟨_, rfl⟩;rw [<- hy] at k0e k1e k2e k3e k4e k5e k6e Ge HT HRJ HAJ;clear hmin hy;go_wp2_with fail;refine wp_region_noPanic ?_;refine zM (S := fun w' => w'.cell? ⟨w.heap.size + 2, 6, none⟩ = some (.slice Au j cu) /\ Box7 w' wr.heap.size (.int .i64 y.kind) (.int .i64 y.num) (.slice A3e y.index.coefs.length c3e) (.int .i64 y.index.const) (.string y.read.arr) (.slice A6e y.read.subs.length c6e) (.slice A7e y.kids.length c7e)) 8 (by kernel_rfl) (⟨by go_simp, by go_simp, by go_simp, by go_simp, by go_simp, by go_simp, by go_simp, by go_simp⟩) (fun hHeld => ?_);refine goU 0 (fun _ => hHeld) ?_;refine goT 1 hHeld ?_;refine goT 2 hHeld ?_;refine goU 3 (fun _ => hHeld) ?_;refine qS (rs := [4]) (by kernel_rfl) (by simp) (all1 ?_);refine opT (i := 4) rfl (qK rfl) (fun K hK => ?_);go_simp
    (refine (HRJ.out _ _ _ (Ge.out.below bel) (fun t ht => (HC.out t ht).below (qY hbr bel)) HAJ.out).mono ?_; rintro e w1 ⟨X3, z3, X6, z6, X7, z7, bs1, rfl, r1, nd1, hb1, b1⟩; have B1 : Below wr.heap.size wr w1 := bel; have O1 := qQ (xV (N := w1.heap.size) r1 100 rfl); have N1 := qQ (qV nd1 (show ∀ z ∈ bs1, wr.heap.size <= z from fun z hz => by have := hb1 z hz; simp at this; omega)); clear r1 nd1 hb1)
    go_wp2_with fail;refine hK.out _ _ (⟨qG hHeld.1 b1, hHeld.2.to b1⟩) (fun hHeld => ?_);clear hK K
    try simp only [Act.put, aq0, aq1, aq2]
    refine qS (rs := [5]) (by kernel_rfl) (by simp) (all1 ?_);refine opT (i := 5) rfl (qK rfl) (fun K hK => ?_)
    (unfold Oper.wp; go_simp)
    refine hK.out _ _ (⟨qRP hHeld.1, hHeld.2.to ((Below.refl _ _).alloc (qJ _) _)⟩) (fun hHeld => ?_);clear hK K
    try simp only [Act.put, aq0, aq1, aq2]
    refine qS (rs := [6]) (by kernel_rfl) (by simp) (all1 ?_);refine opT (i := 6) rfl (qK rfl) (fun K hK => ?_)
    (refine zX (w0 := wr) (B := wc.heap.size) (xs := (x.kids.take j).map fun y => (zD F y).d) (ys := [(zD F y).d]) (.tmp 37) (.tmp 41) _ rfl _ Tryz.underlying98 Tryz.infoEx rfl (by decide) rfl HG.out ?hbw rfl O1.out ?hys ?hn ?hf ?hlen hszr ?_; (case hbw => exact bel); (case hys => (intro z hz; simp only [List.mem_singleton] at hz; rw [hz]; exact Ex.d_size _)); (case hn => exact N1.out.1); (case hf => exact N1.out.2); (case hlen => (simp; omega)); intro v2_ w4 hG4 hg4; have B4 : Below wc.heap.size wr w4 := ((B1.alloc B1.size _).mono hszr).trans (hg4.below (qX hszr (qX B1.size (by simp))) (fun b hb => (HOW.out b hb).1)); have XR := qQ (HO2.out.of_block (B4.block _ hgO)); have XB := XR.out.box7; have XF := XR.out.frozen 6; have xlt := qW XB.1; obtain ⟨A4, c4, hf4, _, _⟩ := hG4.form; simp only [List.length_append, List.length_map, List.length_take, List.length_singleton] at hf4; rw [show min j x.kids.length + 1 = j + 1 by omega] at hf4; subst hf4; rw [<- HT.out] at hG4; have HG4 := qQ hG4; have HT4 := qQ (HTC.out.then B4))
    refine hK.out _ _ (⟨(hg4.touch.cell (qW hHeld.1) (fun hm => by have := (HOW.out _ (qU.1 hm)).1; omega)).trans hHeld.1, hHeld.2.touch hg4.touch (fun hm => by have := (HOW.out _ (qU.1 hm)).2; omega)⟩) (fun hHeld => ?_);clear hK K
    try simp only [Act.put, aq0, aq1, aq2]
    refine goU 7 (fun _ => hHeld) ?_;refine qS (rs := [8]) (by kernel_rfl) (by simp) (all1 ?_);refine opTT (i := 8) rfl (qK rfl) (by kernel_rfl) (fun K hK => ?_)
    (unfold Oper.wp; go_simp)
    refine hK.out _ _ ?_;clear hK K
    try simp only [Act.put, aq0, aq1, aq2]
    refine qI (by kernel_rfl) ?_ _;refine NoPanic.normal ?_
    (go_wp2; go_roundw; (case rel => exact ⟨j + 1, _, by omega, by go_num, XR.out.set 6 _, HG4.out.set_low (p := ⟨w.heap.size + 2, 6, none⟩) hgO _, HT4.out.setCell (by first | (simp; done) | (simp; omega)) _⟩); (case measure => (simp [intOf]; omega)))
   ·have hjj : j = x.kids.length := by omega
    subst hjj;rw [Nat.min_self] at hfu;subst hfu;obtain ⟨A5, c5, bs5, he5, r5, nd5, hb5⟩ := HG.out.rep;rw [List.length_map, List.length_take, Nat.min_self] at he5 r5;simp only [Value.slice.injEq, true_and] at he5;obtain ⟨rfl, rfl⟩ := he5;rw [List.take_length] at r5;have HZr := qQ (HZ.out.of_block (HTC.out.block (w.heap.size + 1) (by omega) (by simp)));obtain ⟨o0, o1, o2, o3, o4, o5, o6⟩ := HO2.out.box7;obtain ⟨z0, z1, z2, z3, z4, z5, z6⟩ := HZr.out.box7;have f0 := HZr.out.frozen 0;have f1 := HZr.out.frozen 1;have f2 := HZr.out.frozen 2;have f3 := HZr.out.frozen 3;have f4 := HZr.out.frozen 4;have f5 := HZr.out.frozen 5;have f6 := HZr.out.frozen 6;have lz := qW z0;have lo := qW o0;have HIr := qQ (Rep.keep _ HI.out (HTC.out.keeps fun z hz => ⟨Rep.lt _ HI.out z hz, by have := HGE.out z (List.mem_append_left _ hz); simp; omega⟩));have HRr := qQ (Rep.keep _ HR.out (HTC.out.keeps fun z hz => ⟨Rep.lt _ HR.out z hz, by have := HGE.out z (List.mem_append_right _ hz); simp; omega⟩));have HLI := qQ (qV (Rep.lt _ HI.out) (Rep.lt _ HR.out));have H5 := qQ (qV r5 (qV nd5 hb5));clear r5 nd5 hb5;go_wp2;have hnb : ∀ bs : List Nat, (∀ z ∈ bs, w.heap.size + 3 <= z) -> w.heap.size + 1 ∉ bs := fun bs h hm => by have := h _ hm; omega
    have RF := (((((((HZr.out.set 0 (.int .i64 x.kind)).set 1 (.int .i64 x.num)).set 2 (.slice AI nI cI)).set 3 (.int .i64 kI)).set 4 (.string sR)).set 5 (.slice AR nR cR)).set 6 (.slice Au x.kids.length cu));simp only [List.set_cons_zero, List.set_cons_succ] at RF;have BF : Below w.heap.size w (((((((wr.setCell ⟨w.heap.size + 1, 0, none⟩ (.int .i64 x.kind)).setCell ⟨w.heap.size + 1, 1, none⟩ (.int .i64 x.num)).setCell ⟨w.heap.size + 1, 2, none⟩ (.slice AI nI cI)).setCell ⟨w.heap.size + 1, 3, none⟩ (.int .i64 kI)).setCell ⟨w.heap.size + 1, 4, none⟩ (.string sR)).setCell ⟨w.heap.size + 1, 5, none⟩ (.slice AR nR cR)).setCell ⟨w.heap.size + 1, 6, none⟩ (.slice Au x.kids.length cu)) := bel;have KF : ∀ bs : List Nat, (∀ z ∈ bs, w.heap.size + 3 <= z) -> qD wr (((((((wr.setCell ⟨w.heap.size + 1, 0, none⟩ (.int .i64 x.kind)).setCell ⟨w.heap.size + 1, 1, none⟩ (.int .i64 x.num)).setCell ⟨w.heap.size + 1, 2, none⟩ (.slice AI nI cI)).setCell ⟨w.heap.size + 1, 3, none⟩ (.int .i64 kI)).setCell ⟨w.heap.size + 1, 4, none⟩ (.string sR)).setCell ⟨w.heap.size + 1, 5, none⟩ (.slice AR nR cR)).setCell ⟨w.heap.size + 1, 6, none⟩ (.slice Au x.kids.length cu)) bs := fun bs h => by
     have hz5 := hnb bs h
     repeat (first | with_reducible exact qD.refl _ _ | refine qD.setCell ?_ hz5 _)
    refine bodyPost_ret (v := .agg #[.int .i64 x.kind, .int .i64 x.num, .slice AI nI cI, .int .i64 kI, .string sR, .slice AR nR cR, .slice Au x.kids.length cu]) ?_ rfl ?_
    ·obtain ⟨y0, y1, y2, y3, y4, y5, y6⟩ := RF.box7
     obtain ⟨Wf, hWf⟩ : ∃ Wf, Wf = (((((((wr.setCell ⟨w.heap.size + 1, 0, none⟩ (.int .i64 x.kind)).setCell ⟨w.heap.size + 1, 1, none⟩ (.int .i64 x.num)).setCell ⟨w.heap.size + 1, 2, none⟩ (.slice AI nI cI)).setCell ⟨w.heap.size + 1, 3, none⟩ (.int .i64 kI)).setCell ⟨w.heap.size + 1, 4, none⟩ (.string sR)).setCell ⟨w.heap.size + 1, 5, none⟩ (.slice AR nR cR)).setCell ⟨w.heap.size + 1, 6, none⟩ (.slice Au x.kids.length cu)) := ⟨_, rfl⟩;rw [<- hWf] at y0 y1 y2 y3 y4 y5 y6 ⊢;clear hWf;simp [results, Tryz.results164, go_sem, y0, y1, y2, y3, y4, y5, y6]
    refine qYA.of ⟨[.int .i64 x.kind, .int .i64 x.num, .slice AI nI cI, .int .i64 kI, .string sR, .slice AR nR cR, .slice Au x.kids.length cu], dI ++ dR ++ bs5, rfl, ?_, ?_, ?_, ?_⟩
    ·have hll : (x.kids.map (zD F)).length = x.kids.length := List.length_map _
     have := Ex.rep_of (w := wr) (A := Au) (c := cu) (d7 := bs5) HKK.out.1 HKK.out.2 HIr.out HRr.out (ks := x.kids.map (zD F)) (by
      rw [hll];have := H5.out.1;unfold sls;rw [List.map_map];exact this)
     rw [hll] at this;rw [HMX.out];refine Rep.keep _ this (KF _ (fun z hz => by
      rcases List.mem_append.1 hz with hz | hz
      ·exact HGE.out z hz
      ·have := H5.out.2.2 z hz; omega))
    ·refine List.nodup_append.2 ⟨HND.out, H5.out.2.1, fun a ha b hb e => ?_⟩
     subst e;have h1 := H5.out.2.2 a hb;rcases List.mem_append.1 ha with ha | ha
     ·have := HLI.out.1 a ha; omega
     ·have := HLI.out.2 a ha; omega
    ·intro z hz
     rcases List.mem_append.1 hz with hz | hz
     ·have := HGE.out z hz; omega
     ·have := H5.out.2.2 z hz; omega
    ·exact BF
theorem qLU {g : FuncId} {cap : Array Value} {F : Aff -> Aff} {p : Aff -> Bool} (hg : xD Tryz.prog g) (x : Ex) : MapX g cap F p x := Ex.ind (P := MapX g cap F p) (fun _ hx => qLG hg hx) x
theorem Row.setCells {g : Nat} {t : TypeId} : (vs l pre : List Value) -> {w : World} -> Row w g t (pre ++ l) -> l.length = vs.length -> Row (w.setCells g pre.length vs) g t (pre ++ vs)
 | [], l, pre, w, h, hl => by
  have : l = [] := List.eq_nil_of_length_eq_zero hl;subst this;exact h
 | v :: vs, l, pre, w, h, hl => by
  match l, hl with
  | u :: l, hl =>
   have h1 := h.set_in v;have h2 := Row.setCells vs l (pre ++ [v]) h1 (by simpa using hl);rw [List.length_append, List.length_singleton, List.append_assoc] at h2;exact h2
theorem Touch.cellR {w w' : World} {bs : List Nat} {g o : Nat} {v : Value} (t : Touch bs w w') (h : w.cell? ⟨g, o, none⟩ = some v) (hn : g ∉ bs) : w'.cell? ⟨g, o, none⟩ = some v := (t.cell (qW h) hn).trans h
theorem Touch.setCells {g : Nat} : (vs : List Value) -> (o : Nat) -> (w : World) -> Touch [g] w (w.setCells g o vs)
 | [], _, w => Touch.refl _ w
 | v :: vs, o, w => ((Touch.refl _ w).setCell (p := ⟨g, o, none⟩) (by simp) v).trans (Touch.setCells vs (o + 1) _)
theorem qO {P : Program} {w : World} {o : Oper} {a : Act} {K : Act -> World -> Prop} {Q : Exit -> Act -> World -> Prop} (ty : TypeId) (x y : Operand) (ho : o.op = .store ty x y) {g : Nat} {t : TypeId} {vs l : List Value}
  (hx : a.eval x = .pointer (some ⟨g, 0, none⟩)) (hy : a.eval y = .agg vs.toArray) (hr : Row w g t l) (hl : l.length = vs.length) (hi : (P.info? ty).map (·.size) = some vs.length) (h1 : vs.all (·.oneCell') = true)
  (h : ∀ w', Row w' g t vs -> Touch [g] w w' -> K (a.put o.dst undef) w') : o.wp P a w K Q :=
 wp_store_mid ty x y ho g 0 vs.toArray hx hy (fun j hj => ⟨by rw [Nat.zero_add, hr.cell, List.getElem?_eq_getElem (by simp at hj; omega)]; rfl, hr.frozen _⟩) (by simpa using hi) (by simpa using h1) (h _ (Row.setCells vs l [] hr hl) (Touch.setCells _ _ _))
theorem Rep.sls_blk {α : Type} {w : World} {f : α -> D} {xs : List α} {b o n c : Nat} {bs : List Nat} (h : Rep w (sls f xs) [.slice (some ⟨b, o, none⟩) n c] bs) (h0 : 0 < xs.length) : b < w.heap.size := by
 obtain ⟨A, c', es, cb, e, _, _, _, h2⟩ := h;simp only [List.cons.injEq, Value.slice.injEq] at e;rcases h2 with ⟨h3, _⟩ | ⟨b', o', h3, _, h4, _⟩
 ·have := congrArg List.length h3
  rw [List.length_map] at this;simp only [List.length_nil] at this;omega
 ·rw [<- e.1.1] at h3
  simp only [Option.some.injEq, Addr.mk.injEq] at h3;rw [h3.1]; exact h4
theorem wQ {W0 w1 w2 w3 w4 : World} {g : Nat} {d1 d2 : D} {c1 c2 : List Value} {bs1 bs2 : List Nat} (r1 : Rep w1 d1 c1 bs1) (r2 : Rep w2 d2 c2 bs2) (nd1 : bs1.Nodup) (nd2 : bs2.Nodup) (hb1 : ∀ b ∈ bs1, W0.heap.size <= b) (hb2 : ∀ b ∈ bs2, w1.heap.size <= b)
  (B1 : Below W0.heap.size W0 w1) (B13 : Below w1.heap.size w1 w3) (B23 : Below w2.heap.size w2 w3) (t4 : Touch [g] w3 w4) (hg0 : W0.heap.size <= g) (hg1 : g ∉ bs1) (hg2 : g ∉ bs2) :
  Rep w4 d1 c1 bs1 /\ Rep w4 d2 c2 bs2 /\ (bs1 ++ bs2).Nodup /\ (∀ y ∈ bs1 ++ bs2, W0.heap.size <= y /\ y < w4.heap.size /\ y ≠ g) /\ Below W0.heap.size W0 w4 := by
 have l1 := Rep.lt _ r1;have l2 := Rep.lt _ r2;have z13 := B13.size; have z23 := B23.size; have z1 := B1.size; have z4 := t4.size;have q1 := Rep.keep _ (r1.below B13) (t4.keeps (l := bs1) fun y hy => ⟨by have := l1 y hy; omega, fun hm => hg1 (by rw [<- List.mem_singleton.1 hm]; exact hy)⟩);have q2 := Rep.keep _ (r2.below B23) (t4.keeps (l := bs2) fun y hy => ⟨by have := l2 y hy; omega, fun hm => hg2 (by rw [<- List.mem_singleton.1 hm]; exact hy)⟩);refine ⟨q1, q2, List.nodup_append.2 ⟨nd1, nd2, fun y h1 z h2 e => by subst e; have := l1 y h1; have := hb2 y h2; omega⟩, fun y hy => ?_, (qY B1 B13).trans (t4.below (by omega) (by simpa using hg0))⟩;rcases List.mem_append.1 hy with h | h
 ·exact ⟨hb1 y h, by have := l1 y h; omega, fun e => hg1 (e ▸ h)⟩
 ·exact ⟨by have := hb2 y h; omega, by have := l2 y h; omega, fun e => hg2 (e ▸ h)⟩
end Go.Proofs.YtgogjbnneoadkaaGreat
