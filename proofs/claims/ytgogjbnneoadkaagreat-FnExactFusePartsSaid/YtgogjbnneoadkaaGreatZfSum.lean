/- Sums of affine expressions: ownAffine, sum, checked of the program; l1Combine, l1Checked of the reference. -/
import Derived.Test.YtgogjbnneoadkaaGreatZfPointIn
import Derived.Test.YtgogjbnneoadkaaGreatZfCopy
import Derived.Test.YtgogjbnneoadkaaGreatZfActs
import Derived.Test.YtgogjbnneoadkaaGreatZfCore
import Derived.Test.YtgogjbnneoadkaaGreatZfBasic
set_option linter.all false
set_option maxHeartbeats 8000000
set_option maxRecDepth 100000
namespace Go.Proofs.YtgogjbnneoadkaaGreat
open Go.ChangeShapes Go.WideShapes Go.ChangeAt Go.RowKit Go.Deep
def qZP (w : World) (g : FuncId) (cap : Array Value) (F : Aff -> Aff) (a : Aff) : Prop :=
 ∀ cs bs W, Below w.heap.size w W -> Rep W a.d cs bs -> Calls Tryz.prog g (#[.agg cs.toArray] ++ cap) W (qHV W (F a))
theorem qZP.below {w w' : World} {g : FuncId} {cap : Array Value} {F : Aff -> Aff} {a : Aff} (h : qZP w g cap F a) (hb : Below w.heap.size w w') : qZP w' g cap F a :=
 fun cs bs W hW => h cs bs W (qY hb hW)
theorem qWP {w : World} {x : Acc} {cs : List Value} {bs : List Nat} {g : FuncId} {cap : Array Value} {F : Aff -> Aff} (h : Rep w x.d cs bs) (hl : x.subs.length <= 1000000) (hg : xD Tryz.prog g) (hc : ∀ t ∈ x.subs, qZP w g cap F t) :
  Calls Tryz.prog 163 #[.agg cs.toArray, .func (.func g) #[] cap] w (qMV w (uW F x)) := by
 obtain ⟨A2, c2, d2, rfl, rfl, g1, g2⟩ := Rep.acc_iff.1 h;have Garr := qQ g1;have Gsubs := qQ g2;clear h g1 g2;have hn : x.subs.length <= 9223372036854775807 := by omega
 have HC := qQ hc; clear hc;unfold xD at hg;go_enter Tryz.func163, Tryz.ntmps163;go_wp2;go_loopw [14] (fun i wr => ∃ (j : Nat) (u : Value), j <= x.subs.length /\ i = .int .i64 j /\ BoxW wr (w.heap.size + 2) (.string x.arr) u /\ Grow wr (w.heap.size + 3) 61 2 u ((x.subs.take j).map fun t => (F t).d) /\ BoxW wr (w.heap.size + 1) (.string ⟨#[]⟩) (.slice none 0 0) /\ w.heap.size + 3 <= wr.heap.size /\ Below w.heap.size w wr) (fun i _ => x.subs.length - (intOf i).toNat)
 case atStart => exact ⟨0, .slice none 0 0, Nat.zero_le _, rfl, ⟨⟨by go_simp, by go_simp⟩, by go_simp, by go_simp⟩, by simpa using Grow.nil _ _ _ _, ⟨⟨by go_simp, by go_simp⟩, by go_simp, by go_simp⟩, by simp, bel⟩
 case round =>
  obtain ⟨j, u, hj, rfl, ⟨⟨k2a, k2b⟩, f2a, f2b⟩, hG, hR, hz, hb⟩ := hrel;have HR := qQ hR; clear hR;obtain ⟨Au, cu, hfu, _, _⟩ := hG.form;rw [List.length_map, List.length_take] at hfu;have HG := qQ hG; clear hG;by_cases hlt : j < x.subs.length
  ·have HT := qQ (show ((x.subs.take (j + 1)).map fun t => (F t).d) = ((x.subs.take j).map fun t => (F t).d) ++ [(F x.subs[j]).d] by rw [List.take_succ_eq_append_getElem hlt, List.map_append]; rfl)
   have HCJ := qQ (HC.out _ (List.getElem_mem hlt));obtain ⟨be, oe, cse, le, rfl, hble, hre, _, _, hce⟩ := (Gsubs.out.below hb).sls_at Aff.d_size (k := j) hlt;have Ge := qQ hre;obtain ⟨A1e, c1e, d1e, rfl, rfl, g1e, g2e⟩ := Rep.aff_iff2.1 hre;have k0e := (hce 0 _ rfl).1; rw [Nat.add_zero] at k0e;have k1e := (hce 1 _ rfl).1;have Q1e := qQ g1e;have Q2e := qQ g2e;clear hce hre g1e g2e;have lt2 := qW k2a;have hmin : min j x.subs.length = j := by omega
   rw [hmin] at hfu;subst hfu;have HOW := qQ HG.out.own_ge;obtain ⟨a, ha⟩ : ∃ a, a = x.subs[j] := ⟨_, rfl⟩;rw [<- ha] at k0e k1e Ge HT HCJ;clear hmin ha;go_wp2_with fail;refine wp_region_noPanic ?_;refine zM (S := fun w' => Box2 w' (w.heap.size + 2) (.string x.arr) (.slice Au j cu) /\ Box2 w' wr.heap.size (.slice A1e a.coefs.length c1e) (.int .i64 a.const)) 8 (by kernel_rfl) (⟨⟨by go_simp, by go_simp⟩, by go_simp, by go_simp⟩) (fun hHeld => ?_);refine goU 0 (fun _ => hHeld) ?_;refine goT 1 hHeld ?_;refine goU 2 (fun _ => hHeld) ?_;refine goT 3 hHeld ?_;refine qS (rs := [4]) (by kernel_rfl) (by simp) (all1 ?_);refine opT (i := 4) rfl (qK rfl) (fun K hK => ?_);go_simp
   (refine (HCJ.out _ _ _ (qY hb bel) (Ge.out.below bel)).mono ?_; rintro e w1 ⟨A1, n1, c1, k1, bs1, rfl, r1, nd1, hb1, b1⟩; have B1 : Below wr.heap.size wr w1 := bel; have O1 := qQ (xV (N := w1.heap.size) r1 61 rfl); have N1 := qQ (qV nd1 (show ∀ y ∈ bs1, wr.heap.size <= y from fun y hy => by have := hb1 y hy; simp at this; omega)); clear r1 nd1 hb1)
   go_wp2_with fail;refine hK.out _ _ (⟨hHeld.1.to b1, hHeld.2.to b1⟩) (fun hHeld => ?_);clear hK K
   try simp only [Act.put, aq0, aq1, aq2]
   refine qS (rs := [5]) (by kernel_rfl) (by simp) (all1 ?_);refine opT (i := 5) rfl (qK rfl) (fun K hK => ?_)
   (unfold Oper.wp; go_simp)
   refine hK.out _ _ (⟨hHeld.1.to ((Below.refl _ _).alloc (qJ _) _), hHeld.2.to ((Below.refl _ _).alloc (qJ _) _)⟩) (fun hHeld => ?_);clear hK K
   try simp only [Act.put, aq0, aq1, aq2]
   refine qS (rs := [6]) (by kernel_rfl) (by simp) (all1 ?_);refine opT (i := 6) rfl (qK rfl) (fun K hK => ?_)
   (refine zX (w0 := wr) (B := w.heap.size + 3) (xs := (x.subs.take j).map fun t => (F t).d) (ys := [(F a).d]) (.tmp 19) (.tmp 23) _ rfl _ Tryz.underlying57 Tryz.infoAff rfl (by decide) rfl HG.out ?hbw rfl O1.out ?hys ?hn ?hf ?hlen hz ?_; (case hbw => exact bel); (case hys => (intro y hy; simp only [List.mem_singleton] at hy; rw [hy]; rfl)); (case hn => exact N1.out.1); (case hf => exact N1.out.2); (case hlen => (simp; omega)); intro v2 w4 hG4 hg4; have B4 : Below (w.heap.size + 3) wr w4 := ((B1.alloc B1.size _).mono hz).trans (hg4.below (qX hz (qX B1.size (by simp))) (fun b hb => (HOW.out b hb).1)); have X2 : BoxW w4 (w.heap.size + 2) (.string x.arr) (.slice Au j cu) := BoxW.toB ⟨⟨k2a, k2b⟩, f2a, f2b⟩ (by omega) B4; have XR := qQ (BoxW.toB HR.out (by omega) B4); have XZ := B4.size; obtain ⟨⟨k2d, k2e⟩, f2d, f2e⟩ := X2; obtain ⟨A4, c4, hf4, _, _⟩ := hG4.form; simp only [List.length_append, List.length_map, List.length_take, List.length_singleton] at hf4; rw [show min j x.subs.length + 1 = j + 1 by omega] at hf4; subst hf4; rw [<- HT.out] at hG4; have HG4 := qQ hG4; have HB4 := qQ (hb.trans (B4.mono (by omega))))
   refine hK.out _ _ (⟨hg4.touch.box2 hHeld.1 (fun hm => by have := (HOW.out _ (qU.1 hm)).1; omega), hg4.touch.box2 hHeld.2 (fun hm => by have := (HOW.out _ (qU.1 hm)).2; omega)⟩) (fun hHeld => ?_);clear hK K
   try simp only [Act.put, aq0, aq1, aq2]
   refine goU 7 (fun _ => hHeld) ?_;refine qS (rs := [8]) (by kernel_rfl) (by simp) (all1 ?_);refine opTT (i := 8) rfl (qK rfl) (by kernel_rfl) (fun K hK => ?_)
   (unfold Oper.wp; go_simp)
   refine hK.out _ _ ?_;clear hK K
   try simp only [Act.put, aq0, aq1, aq2]
   refine qI (by kernel_rfl) ?_ _;refine NoPanic.normal ?_
   (go_wp2; go_roundw; (case rel => exact ⟨j + 1, _, by omega, by go_num, ⟨⟨by go_simp, by go_simp⟩, by go_simp, by go_simp⟩, HG4.out.set_low (p := ⟨w.heap.size + 2, 1, none⟩) (by simp) _, ⟨Box2.set XR.out.1 (by first | (simp; done) | (simp; omega)) _, by rw [World.frozen?_setCell]; exact XR.out.2.1, by rw [World.frozen?_setCell]; exact XR.out.2.2⟩, by (simp [World.setCell]; omega), HB4.out.setCell (by (simp; omega)) _⟩); (case measure => (simp [intOf]; omega)))
  ·have hjj : j = x.subs.length := by omega
   subst hjj;have hmin : min x.subs.length x.subs.length = x.subs.length := by omega
   rw [hmin] at hfu;subst hfu;have hG := HG.out;obtain ⟨A5, c5, bs5, he5, r5, nd5, hb5⟩ := hG.rep;rw [List.length_map, List.length_take, Nat.min_self] at he5 r5;simp only [Value.slice.injEq, true_and] at he5;obtain ⟨rfl, rfl⟩ := he5;rw [List.take_length] at r5;have H5 := qQ (qV r5 (qV nd5 hb5));clear hG r5 nd5 hb5;obtain ⟨⟨m1, m2⟩, m3, m4⟩ := HR.out;have lt1 := qW m1;have lt2 := qW k2a;go_wp2;have hnb : w.heap.size + 1 ∉ bs5 := fun hm => by have := H5.out.2.2 _ hm; omega
   have hll : (x.subs.map F).length = x.subs.length := List.length_map _;refine bodyPost_ret (v := .agg #[.string x.arr, .slice Au x.subs.length cu]) (by simp [results, Tryz.results163, go_sem, m1, m2]) rfl ⟨Au, cu, bs5, ?_, Rep.acc_iff.2 ⟨_, _, _, rfl, rfl, Garr.out, ?_⟩, H5.out.2.1, fun y hy => by have := H5.out.2.2 y hy; omega, (hb.setCell (by simp) _).setCell (by simp) _⟩
   ·show _ = Ending.returned (.agg #[.string x.arr, .slice Au (x.subs.map F).length cu])
    rw [hll]
   ·show Rep _ (sls Aff.d (x.subs.map F)) [.slice Au (x.subs.map F).length cu] bs5
    rw [hll];refine Rep.keep _ (w := wr) ?_ (((qD.refl _ _).setCell hnb _).setCell hnb _);have := H5.out.1;unfold sls;rw [List.map_map];exact this
section
variable {w : World} {a : Aff} {A : Option Addr} {n c : Nat} {k : Int} {bs : List Nat}
theorem qVM (h : Rep w a.d [.slice A n c, .int .i64 k] bs) (hn : n <= 10000000) :
  Calls Tryz.prog 126 #[.agg #[.slice A n c, .int .i64 k]] w (qHV w a) := by
 obtain ⟨hk, h1, h2⟩ := h.aff;have HK := qQ hk; clear hk h;have HN := qQ hn; clear hn;have H1 := qQ (qV h1 h2); clear h1 h2;have P : Box2 ((w.alloc (.cells #[.slice A n c, .int .i64 k] 61)).alloc (.cells #[.slice none 0 0, .int .i64 0] 61)) w.heap.size (.slice A n c) (.int .i64 k) := (Box2.new w _ _ _).to ((Below.refl _ _).alloc (qJ _) _);go_enter Tryz.func126, Tryz.ntmps126;go_wp2_with fail;go_region_held3 (fun w' => Box2 w' w.heap.size (.slice A n c) (.int .i64 k)) (first | exact P | exact P.to (qL b1) | exact ((P.to (qL b1)).set (by simp) _).set (by simp) _ | skip)
  (first | (go_at_call 121; refine (qWN (H1.out.1.below bel) HN.out).mono ?_; rintro e w1 ⟨A1, n1, c1, bs1, rfl, r1, nd, hbs, b1⟩; have hc1 := (qKI b1).1; have hf1 := (qKI b1).2))
 go_wp2;have hbs' : ∀ b ∈ bs1, w.heap.size + 2 <= b := fun b hb => by have := hbs b hb; simp at this; omega
 have hn1 : w.heap.size ∉ bs1 := fun h => by have := hbs' _ h; omega
 have hn2 : w.heap.size + 1 ∉ bs1 := fun h => by have := hbs' _ h; omega
 exact bodyPost_ret (v := .agg #[.slice A1 n1 c1, .int .i64 k]) (by simp [results, Tryz.results126, go_sem, hc1]) rfl ⟨_, _, _, _, bs1, rfl, Rep.aff_iff.2 ⟨_, _, _, by rw [HK.out], Rep.keep _ r1 (by repeat (first | with_reducible exact qD.refl _ _ | refine qD.setCell ?_ (by simp; try omega) _ | refine qD.alloc ?_ (by simp [World.setCell]; try omega) _)), by rw [<- HK.out]; exact H1.out.2⟩, nd, fun b hb => by have := hbs' b hb; omega, bel⟩
end
end Go.Proofs.YtgogjbnneoadkaaGreat
