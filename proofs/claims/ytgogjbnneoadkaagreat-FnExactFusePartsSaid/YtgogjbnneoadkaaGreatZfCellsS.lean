/- The cells that a statement reads and writes: l4Cells of the reference. -/
import Derived.Test.YtgogjbnneoadkaaGreatZfCopy
import Derived.Test.YtgogjbnneoadkaaGreatZfPointIn
set_option linter.all false
set_option maxHeartbeats 8000000
set_option maxRecDepth 100000
namespace Go.Proofs.YtgogjbnneoadkaaGreat
open Go.ChangeShapes Go.WideShapes Go.ChangeAt Go.RowKit Go.Deep
theorem qPA {x : Ex} (hrec : ∀ y ∈ x.kids, RdEx y) : RdEx x := by
 intro L dp w cs bs Bg v o hsh hL hlen h hG hB hv;have HREC := qQ hrec; clear hrec;have HE := qQ (qZR x);have hsh2 := hsh;rw [uC] at hsh2;simp only [Bool.and_eq_true, decide_eq_true_iff, List.all_eq_true] at hsh2;obtain ⟨hL1, hkn, _, hall⟩ := hsh2;have HALL := qQ hall; clear hall;have HRD := qQ (qVS x L dp hsh); clear hsh;have HLT := Rep.lt _ h;have HOWN := qQ hG.own_ge;obtain ⟨A3, c3, A6, c6, A7, c7, d3, d6, d7, rfl, rfl, g1, g2, g3, g4, g5, g6, g7⟩ := Rep.ex_iff.1 h;have Gkind := qQ g1;have Gnum := qQ g2;have Gindex := qQ ((Rep.aff_iff2 (x := x.index)).2 ⟨_, _, _, rfl, rfl, g3, g4⟩);have Gread := qQ ((Rep.acc_iff (x := x.read)).2 ⟨_, _, _, rfl, rfl, g5, g6⟩);have Gkids := qQ g7;clear h g1 g2 g3 g4 g5 g6 g7;have hn : x.kids.length <= 9223372036854775807 := qX Gkids.out.sls_len.2.1 Gkids.out.sls_len.2.2;obtain ⟨W, hW⟩ : ∃ W, W = w.alloc (.cells #[.int .i64 x.kind, .int .i64 x.num, .slice A3 x.index.coefs.length c3, .int .i64 x.index.const, .string x.read.arr, .slice A6 x.read.subs.length c6, .slice A7 x.kids.length c7] 100) := ⟨_, rfl⟩;have P0 : Box7 W w.heap.size (.int .i64 x.kind) (.int .i64 x.num) (.slice A3 x.index.coefs.length c3) (.int .i64 x.index.const) (.string x.read.arr) (.slice A6 x.read.subs.length c6) (.slice A7 x.kids.length c7) := by
  rw [hW]; refine ⟨?_, ?_, ?_, ?_, ?_, ?_, ?_⟩ <;> go_simp
 have B0 : Below w.heap.size w W := by rw [hW]; exact bel
 have hWz : W.heap.size = w.heap.size + 1 := by rw [hW]; simp
 have HW := qQ hW; clear hW;have HWZ := qQ hWz; clear hWz;have HG := qQ (hG.below B0); clear hG;have GR := qQ (Gread.out.below B0);have GK := qQ (Gkids.out.below B0);have HVK := qQ (show ∀ y ∈ d7, v.ownBlock ≠ some y /\ y < W.heap.size from fun y hy => ⟨hv y (by simp [hy]), by have := HLT y (by simp [hy]); have := HWZ.out; omega⟩);have hvw : v.ownBlock ≠ some w.heap.size := fun e => by have := (HOWN.out _ e).2; omega
 have hgW : Grew w W v v := Grew.of_below B0 v;have HGW := qQ hgW; clear hgW;have HVW := qQ hvw; clear hvw hv HLT;clear Gindex Gread Gkids Gkind Gnum;obtain ⟨Av, cv, hfv, _, _⟩ := HG.out.form;rw [List.length_map] at hfv;have HBW := qQ (show Bg <= W.heap.size from qX hB B0.size); clear hB;by_cases hk : x.kind = 3
 ·have hk0 : x.kids.length = 0 := by
   rw [hk] at hkn;have : yR 3 = 0 := by simp [yR]
   omega
  have q1 : (x.kind == 3) = true := vV hk;have HR := qQ (HE.out.trans (if_pos hk)); clear HE;have hacc := jP (HRD.out x.read (by rw [HR.out]; simp));have hal : ∀ t ∈ x.read.subs, t.coefs.length <= 10000000 := fun t ht => by have := (xE.1 (hacc.2 t ht)).1; omega
  have hsl : x.read.subs.length <= 1000000 := by
   have h5 := HRD.out x.read (by rw [HR.out]; simp);simp only [uA, Bool.and_eq_true] at h5;have := (xB h5.2).2.1;omega
  have HAL := qQ (qV hsl hal);have HK0 := qQ hk0;rw [HR.out] at hlen ⊢;simp only [List.length_singleton] at hlen;clear hacc hal hsl hk hkn hk0 HALL HRD;subst hfv;go_enter Tryz.func173, Tryz.ntmps173;go_wp2_with fail;rw [<- HW.out];refine (vQ GR.out HAL.out.1 HAL.out.2).mono ?_;rintro e w1 ⟨A9, c9, bs9, rfl, r9, nd9, hb9, b9⟩;have P1 := P0.to b9;have O1 := qQ (xV (N := w1.heap.size) r9 97 rfl);have N1 := qQ (qV nd9 hb9);have B1 := b9.alloc b9.size (.cells #[.string x.read.arr, .slice A9 x.read.subs.length c9] 97);clear r9 nd9 hb9 P0;go_wp2_with (
   at_builtin;refine qT (w0 := W) (B := Bg) (xs := o.map Acc.d) (ys := [x.read.d]) rfl (.tmp 9) (.tmp 13) _ rfl _ Tryz.underlying190 Tryz.infoAcc rfl (by decide) rfl HG.out B1 rfl O1.out ?hys ?hn ?hf ?hlen HBW.out ?_
   case hys => intro y hy; simp only [List.mem_singleton] at hy; rw [hy]; rfl
   case hn => exact N1.out.1
   case hf => exact N1.out.2
   case hlen => simp; omega
   intro v2 w4 hG4 hg4)
  rw [show o.map Acc.d ++ [x.read.d] = (o ++ [x.read]).map Acc.d by simp] at hG4;have g4 := qQ ((HGW.out.trans (Grew.of_below B1 _)).trans hg4);have P4 : Box7 w4 w.heap.size (.int .i64 x.kind) (.int .i64 x.num) (.slice A3 x.index.coefs.length c3) (.int .i64 x.index.const) (.string x.read.arr) (.slice A6 x.read.subs.length c6) (.slice A7 x.kids.length c7) := ((P1.to (show Below w1.heap.size w1 _ from (Below.refl _ _).alloc (qJ _) (.cells #[.string x.read.arr, .slice A9 x.read.subs.length c9] 97)))).touch hg4.touch (fun hm => HVW.out (qU.1 hm));have HG4 := qQ hG4;obtain ⟨A5, c5, hf5, _, _⟩ := hG4.form;rw [List.length_map, List.length_append, List.length_singleton] at hf5;rw [HK0.out] at P4;clear hG4 hg4 B1 b9 P1 HK0;subst hf5;go_wp2;go_loopw [0, 5] (fun u i wr => u = .slice A5 (o.length + 1) c5 /\ i = .int .i64 0 /\ wr = w4) (fun _ _ _ => 0)
  case atStart => exact ⟨rfl, rfl, rfl⟩
  case round =>
   obtain ⟨rfl, rfl, rfl⟩ := hrel;go_wp2;go_ret;exact ⟨_, rfl, HG4.out, g4.out⟩
 have q1 : (x.kind == 3) = false := uF hk;have HR := qQ (HE.out.trans (if_neg hk)); clear HE hk;rw [HR.out] at hlen ⊢;have HLEN := qQ hlen; clear hlen;clear hkn;subst hfv;obtain ⟨L, rfl⟩ : ∃ M, L = M + 1 := ⟨L - 1, by omega⟩;go_enter Tryz.func173, Tryz.ntmps173;go_wp2;rw [<- HW.out];go_loopw [0, 5] (fun u i wr => ∃ j : Nat, j <= x.kids.length /\ i = .int .i64 j /\ Grow wr Bg 97 2 u ((o ++ xU (x.kids.take j)).map Acc.d) /\ Grew W wr (.slice Av o.length cv) u) (fun _ i _ => x.kids.length - (intOf i).toNat)
 case atStart => exact ⟨0, Nat.zero_le _, rfl, by simpa [xU] using HG.out, Grew.refl _ _⟩
 case round =>
  obtain ⟨j, hj, rfl, hGr, hgr⟩ := hrel;have P1 := P0.touch hgr.touch (fun hm => HVW.out (qU.1 hm));have HGr := qQ hGr; clear hGr;have Hgr := qQ hgr; clear hgr;obtain ⟨R, hR⟩ : ∃ R, R = o ++ xU (x.kids.take j) := ⟨_, rfl⟩;rw [<- hR] at HGr;have HR2 := qQ hR; clear hR;obtain ⟨Au, cu, hfu, _, _⟩ := HGr.out.form;rw [List.length_map] at hfu;by_cases hlt : j < x.kids.length
  ·have HT := qQ (qVL hlt)
   have hle := qQB (xs := x.kids) (j + 1);rw [HT.out, List.length_append] at hle;have hl3 := HLEN.out;have HL3 := qQ (show R.length + (xF x.kids[j]).length <= 1000000 by rw [HR2.out, List.length_append]; omega);have GKr := qQ (GK.out.grew Hgr.out fun y hy => (HVK.out y hy).1);have HVR := qQ (Hgr.out.apart (bs := d7) (fun y hy => (HVK.out y hy).1) fun y hy => (HVK.out y hy).2);have HSK := qQ (HALL.out _ (List.getElem_mem hlt));clear hle hl3;obtain ⟨be, oe, cse, le, rfl, hble, hre, _, _, hce⟩ := GKr.out.sls_at Ex.d_size (k := j) hlt;have Ge := qQ hre;obtain ⟨A3e, c3e, A6e, c6e, A7e, c7e, d3e, d6e, d7e, rfl, rfl, g1e, g2e, g3e, g4e, g5e, g6e, g7e⟩ := Rep.ex_iff.1 hre;have k0e := (hce 0 _ rfl).1; rw [Nat.add_zero] at k0e;have k1e := (hce 1 _ rfl).1;have k2e := (hce 2 _ rfl).1;have k3e := (hce 3 _ rfl).1;have k4e := (hce 4 _ rfl).1;have k5e := (hce 5 _ rfl).1;have k6e := (hce 6 _ rfl).1;have Q1e := qQ g1e;have Q2e := qQ g2e;have Q3e := qQ g3e;have Q4e := qQ g4e;have Q5e := qQ g5e;have Q6e := qQ g6e;have Q7e := qQ g7e;clear hce hre g1e g2e g3e g4e g5e g6e g7e;have HSB := qQ ‹∀ y ∈ d3e ++ d6e ++ d7e, y ∈ d7›;subst hfu;go_wp2_with fail;refine (HREC.out _ (List.getElem_mem hlt) L dp _ _ _ Bg _ R HSK.out (by omega) HL3.out Ge.out HGr.out (qX HBW.out Hgr.out.touch.size) (fun y hy => HVR.out y (HSB.out y hy))).mono ?_;rintro e w2 ⟨v2, rfl, hG2, hg2⟩;rw [HR2.out, List.append_assoc, <- HT.out] at hG2;have HG2 := qQ hG2;have g2 := qQ (Hgr.out.trans hg2);clear hG2 hg2 P1 k0e k1e k2e k3e k4e k5e k6e;go_wp2;go_roundw
   case rel => exact ⟨j + 1, by omega, by go_num, HG2.out, g2.out⟩
   case measure => simp [intOf]; omega
  ·have hjj : j = x.kids.length := by omega
   subst hjj;have HX := qQ (show xU x.kids = xU (x.kids.take x.kids.length) by rw [List.take_length]);subst hfu;go_wp2;go_ret;rw [HX.out, <- HR2.out];exact ⟨_, rfl, HGr.out, HGW.out.trans Hgr.out⟩
theorem qPE (x : Ex) : RdEx x := Ex.ind (P := RdEx) (fun x hx => qPA hx) x
def jL (w : World) (r : List Int × Int × Bool) (e : Ending) (w' : World) : Prop :=
 ∃ A n c bs, e = .returned (.tuple #[.slice A n c, .int .i64 r.2.1, .bool r.2.2]) /\ Rep w' (ints r.1) [.slice A n c] bs /\ bs.Nodup /\ (∀ b ∈ bs, w.heap.size <= b) /\ Below w.heap.size w w'
theorem jL.of_grow {w w' : World} {e : TypeId} {v : Value} {r : List Int × Int × Bool} {B : Nat} (h : Grow w' B e 1 v (r.1.map D.int)) (hB : w.heap.size <= B) (hb : Below w.heap.size w w') : jL w r (.returned (.tuple #[v, .int .i64 r.2.1, .bool r.2.2])) w' := by
 obtain ⟨A, c, bs, rfl, h1, h2, h3, _⟩ := h.ints;exact ⟨A, _, c, bs, rfl, h1, h2, fun b hb' => qX hB (h3 b hb'), hb⟩
theorem qTH {xs : List Ar} {q : List Int} {s : Stm} (h : (xF s.value).any (vW xs q) = true) : jW xs q s = ([], 0, false) := by
 have : wB xs q s = false := by
  show (decide (0 <= cellF xs s.write q) && !(xF s.value).any (vW xs q)) = false;rw [h]; simp
 simp [jW, this]
theorem qTK {xs : List Ar} {q : List Int} {s : Stm} (h : cellF xs s.write q < 0) : jW xs q s = ([], 0, false) := by
 have : wB xs q s = false := by
  show (decide (0 <= cellF xs s.write q) && !(xF s.value).any (vW xs q)) = false;rw [decide_eq_false (by omega)]; rfl
 simp [jW, this]
theorem qMS {xs : List Ar} {q : List Int} {s : Stm} (h : (xF s.value).any (vW xs q) = false) (h2 : ¬ cellF xs s.write q < 0) : jW xs q s = (rdF xs q s, wrF xs q s, true) := by
 have : wB xs q s = true := by
  show (decide (0 <= cellF xs s.write q) && !(xF s.value).any (vW xs q)) = true;rw [h, decide_eq_true (by omega)]; rfl
 simp [jW, this]
theorem qRY {w w1 : World} {o o2 : Obj} {e : TypeId} {size : Nat} (h : Below (w.heap.size + 2) (((w.alloc o).alloc (.cells #[] e)).alloc o2) w1) : Grow w1 (w.heap.size + 1) e size (.slice (some ⟨w.heap.size + 1, 0, none⟩) 0 0) [] := by
 refine Grow.below (w := (w.alloc o).alloc (.cells #[] e)) (Grow.madeE _ _ (by simp) (by simp)) ?_;refine Below.trans ((Below.refl _ _).alloc (by simp) o2) ?_;simpa using h
theorem qVE {w : World} {xs : List Ar} {s : Stm} {q : List Int} {cs' : List Value} {A B : Option Addr} {n c m d : Nat} {bs bs1 bs2 : List Nat} {dp : Int} (h : Rep w (sls Ar.d xs) [.slice A n c] bs) (h' : Rep w s.d cs' bs1) (hq : Rep w (ints q) [.slice B m d] bs2) (hok : xM xs = true) (hv : zV s dp = true) (hp : PtS q) :
  Calls Tryz.prog 136 #[.slice A n c, .agg cs'.toArray, .slice B m d] w (jL w (jW xs q s)) := by
 have HST := qQ (StB.of hv hp);have HSH := qQ (xR hv).2.1;have hcb := qXY hok;have hcw := qQS (a := s.write) (pt := q) hok;obtain ⟨rfl, _, _⟩ := h.sls_len;have H := qQ h; clear h;have HQ := qQ hq; clear hq;obtain ⟨A2', c2', A5', c5', A8', c8', A9', c9', d2', d5', d8', d9', rfl, rfl, g1', g2', g3', g4', g5', g6', g7', g8', g9'⟩ := Rep.stm_iff.1 h';have Gwrite' := qQ ((Rep.acc_iff (x := s.write)).2 ⟨_, _, _, rfl, rfl, g1', g2'⟩);have Gvalue' := qQ ((Rep.ex_iff (x := s.value)).2 ⟨_, _, _, _, _, _, _, _, _, rfl, rfl, g3', g4', g5', g6', g7', g8', g9'⟩);clear h' g1' g2' g3' g4' g5' g6' g7' g8' g9';have HOK := qQ hok; clear hok hv hp;go_enter Tryz.func136, Tryz.ntmps136;go_wp2_with fail;have hge : (Value.slice (some ⟨w.heap.size + 1 + 1, 0, none⟩) 0 0).ownBlock = some (w.heap.size + 2) := rfl;refine (qPE s.value 5 dp _ _ _ (w.heap.size + 2) _ [] HSH.out (by omega) ?hl (Gvalue'.out.below bel) (Grow.madeE 97 2 (by simp) (by omega)) ?hB ?hap).mono ?_
 case hl => have := HST.out.n; simpa using this
 case hB => simp
 case hap => intro y hy e; rw [hge] at e; have := Rep.lt _ Gvalue'.out y hy; simp at e; omega
 rintro e w1 ⟨v1, rfl, hG1, hg1⟩;have B1 := hg1.below (B := w.heap.size + 2) (by simp) (fun b hb => by rw [hge] at hb; simp at hb; omega);rw [List.nil_append] at hG1;obtain ⟨RS, hRS⟩ : ∃ RS, RS = xF s.value := ⟨_, rfl⟩;rw [<- hRS] at hG1;have HRS := qQ hRS; clear hRS;obtain ⟨A5, c5, bs5, rfl, r5, _, hb5⟩ := hG1.rep;have hrn : RS.length <= 1000000 := by rw [HRS.out]; exact HST.out.n
 have P1 : Box9 w1 w.heap.size (.string s.write.arr) (.slice A2' s.write.subs.length c2') (.int .i64 s.value.kind) (.int .i64 s.value.num) (.slice A5' s.value.index.coefs.length c5') (.int .i64 s.value.index.const) (.string s.value.read.arr) (.slice A8' s.value.read.subs.length c8') (.slice A9' s.value.kids.length c9') := by
  refine ⟨?_, ?_, ?_, ?_, ?_, ?_, ?_, ?_, ?_⟩ <;> (rw [B1.cell (by simp; try omega)]; go_simp)
 have S1 : Below w.heap.size w w1 := Below.trans bel (B1.mono (by omega));have U1 : Grow w1 (w.heap.size + 1) 3 1 (.slice (some ⟨w.heap.size + 1, 0, none⟩) 0 0) [] := by
  exact qRY B1
 have R5 := qQ (show Rep w1 (sls Acc.d RS) [.slice A5 (RS.map Acc.d).length c5] bs5 from r5);have HB5 := qQ (show ∀ y ∈ bs5, y < w1.heap.size /\ w.heap.size + 2 <= y from fun y hy => ⟨Rep.lt _ r5 y hy, hb5 y hy⟩);rw [List.length_map] at R5 ⊢;clear r5 hb5 hG1 hg1 B1 hge;obtain ⟨U0, hU0⟩ : ∃ U0, U0 = Value.slice (some ⟨w.heap.size + 1, 0, none⟩) 0 0 := ⟨_, rfl⟩;have HU := qQ (show ∀ y, U0.ownBlock = some y -> y = w.heap.size + 1 from fun y hy => by rw [hU0] at hy; simp [Value.ownBlock] at hy; omega);rw [<- hU0] at U1;have HU1 := qQ U1; clear U1;have HU0 := qQ hU0; clear hU0;have H1 := qQ (H.out.below S1);have HQ1 := qQ (HQ.out.below S1);have GW1 := qQ (Gwrite'.out.below S1);have HAP := qQ (show ∀ y ∈ bs5, U0.ownBlock ≠ some y from fun y hy e => by have := HU.out y e; have := (HB5.out y hy).2; omega);go_wp2;go_loopw [9, 11] (fun u i wr => ∃ j : Nat, j <= RS.length /\ i = .int .i64 j /\ Grow wr (w.heap.size + 1) 3 1 u (((RS.take j).map (fun a => cellF xs a q)).map D.int) /\ RS.any (vW xs q) = (RS.drop j).any (vW xs q) /\ Grew w1 wr U0 u) (fun _ i _ => RS.length - (intOf i).toNat)
 case atStart => exact ⟨0, Nat.zero_le _, rfl, by rw [<- HU0.out]; simpa using HU1.out, rfl, by rw [<- HU0.out]; exact Grew.refl _ _⟩
 case round =>
  obtain ⟨j, hj, rfl, hG, hany, hgr⟩ := hrel;have Sr : Below w.heap.size w wr := S1.trans (hgr.below S1.size fun b hb => by have := HU.out b hb; omega);have Pr := P1.touch hgr.touch (fun hm => by have := HU.out _ (qU.1 hm); omega);have HG := qQ hG; clear hG;have Hgr := qQ hgr; clear hgr;have HY := qQ hany; clear hany;obtain ⟨Au, cu, hfu, _, _⟩ := HG.out.form;simp only [List.length_map, List.length_take] at hfu;rw [show min j RS.length = j by omega] at hfu;by_cases hlt : j < RS.length
  ·have HYS := qQ (HY.out.trans (qVY _ _ _ hlt))
   have HT := qQ (show (RS.take (j + 1)).map (fun a => cellF xs a q) = (RS.take j).map (fun a => cellF xs a q) ++ [cellF xs RS[j] q] by rw [List.take_succ_eq_append_getElem hlt, List.map_append]; rfl);have hmem : RS[j] ∈ xF s.value := by rw [<- HRS.out]; exact List.getElem_mem hlt
   have HM := qQ (HST.out.r _ hmem); clear hmem;have hcr := qQS (a := RS[j]) (pt := q) HOK.out;have RR := qQ (R5.out.grew Hgr.out HAP.out);obtain ⟨be, oe, cse, le, rfl, hble, hre, _, _, hce⟩ := RR.out.sls_at Acc.d_size (k := j) hlt;have Ge := qQ hre;obtain ⟨A2e, c2e, d2e, rfl, rfl, g1e, g2e⟩ := Rep.acc_iff.1 hre;have k0e := (hce 0 _ rfl).1; rw [Nat.add_zero] at k0e;have k1e := (hce 1 _ rfl).1;have Q1e := qQ g1e;have Q2e := qQ g2e;clear hce hre g1e g2e;subst hfu;go_wp2_with fail;refine (qDH (H.out.below (qY Sr bel)) Ge.out (HQ.out.below (qY Sr bel)) HOK.out HM.out.2 HM.out.1).mono ?_;rintro e w2 ⟨rfl, b2⟩;obtain ⟨v, hv⟩ : ∃ v, v = cellF xs RS[j] q := ⟨_, rfl⟩;rw [<- hv] at HT hcr ⊢;have HV := qQ hv; clear hv;have T2 : Below wr.heap.size wr w2 := bel;have S2 : Below w.heap.size w w2 := qY Sr T2;clear b2;by_cases hc : v < 0
   ·have HX := qQ (qTH (xs := xs) (q := q) (s := s) (by rw [<- HRS.out, HYS.out, vW, <- HV.out, decide_eq_true hc]; rfl))
    go_wp2;go_ret3;rw [HX.out];exact jL.of_grow (r := ([], 0, false)) (Grow.made w2 3 1 S2.size) (qJ _) (S2.alloc S2.size _)
   ·have HX := qQ (show RS.any (vW xs q) = (RS.drop (j + 1)).any (vW xs q) by rw [HYS.out, vW, <- HV.out, decide_eq_false hc]; rfl)
    have hwz := T2.size;have hG2 := qQ (HG.out.below T2);have hS1 := S1.size;have hI := qQ (show I64 v by unfold I64; omega);have hbz : w.heap.size + 1 <= w2.heap.size := by have h1 := qW P1.1; have h2 := Hgr.out.touch.size; omega
    go_wp2_with (
     at_builtin;refine qT (w0 := w2) (B := w.heap.size + 1) (xs := ((RS.take j).map (fun a => cellF xs a q)).map D.int) (ys := [D.int v]) rfl (.tmp 35) (.tmp 37) _ rfl _ Tryz.underlying39 Tryz.infoInt rfl (by decide) rfl hG2.out ?hbw rfl (qVR _ hI.out _) ?hys ?hn ?hf ?hlen ?hba ?_
     case hbw => exact bel
     case hys => intro y hy; simp only [List.mem_singleton] at hy; rw [hy]; rfl
     case hn => simp
     case hf => simp
     case hlen => simp; omega
     case hba => exact hbz
     intro v4 w4 hG4 hg4)
    rw [show ((RS.take j).map (fun a => cellF xs a q)).map D.int ++ [D.int v] = ((RS.take (j + 1)).map (fun a => cellF xs a q)).map D.int by rw [HT.out, List.map_append]; rfl] at hG4;have HG4 := qQ hG4;have g4 := qQ ((Hgr.out.trans (Grew.of_below (show Below wr.heap.size wr (w2.alloc (.cells #[.int .i64 v] 3)) from T2.alloc T2.size _) _)).trans hg4);clear hG4 hg4;go_wp2;go_roundw
    case rel => exact ⟨j + 1, by omega, by go_num, HG4.out, HX.out, g4.out⟩
    case measure => simp [intOf]; omega
  ·have hjj : j = RS.length := by omega
   subst hjj;have HN := qQ (show (xF s.value).any (vW xs q) = false by rw [<- HRS.out, HY.out, List.drop_length]; rfl);rw [List.take_length] at HG;subst hfu;go_wp2_with fail;refine (qDH (H.out.below (qY Sr bel)) (Gwrite'.out.below (qY Sr bel)) (HQ.out.below (qY Sr bel)) HOK.out HST.out.w HST.out.w1).mono ?_;rintro e w2 ⟨rfl, b2⟩;obtain ⟨v, hv⟩ : ∃ v, v = cellF xs s.write q := ⟨_, rfl⟩;rw [<- hv] at hcw ⊢;have HV := qQ hv; clear hv;have T2 : Below wr.heap.size wr w2 := bel;have S2 : Below w.heap.size w w2 := qY Sr T2;clear b2;by_cases hc : v < 0
   ·have HX := qQ (qTK (xs := xs) (q := q) (s := s) (by rw [<- HV.out]; exact hc))
    go_wp2;go_ret3;rw [HX.out];exact jL.of_grow (r := ([], 0, false)) (Grow.made w2 3 1 S2.size) (qJ _) (S2.alloc S2.size _)
   ·have HX := qQ (qMS HN.out (by rw [<- HV.out]; exact hc))
    have hG2 := qQ (HG.out.below T2);go_wp2;go_ret3;rw [HX.out];have := jL.of_grow (w := w) (r := (rdF xs q s, v, true)) (show Grow w2 (w.heap.size + 1) 3 1 _ ((rdF xs q s).map D.int) by rw [rdF, <- HRS.out]; exact hG2.out) (by omega) S2;rw [wrF, <- HV.out];exact this
end Go.Proofs.YtgogjbnneoadkaaGreat
