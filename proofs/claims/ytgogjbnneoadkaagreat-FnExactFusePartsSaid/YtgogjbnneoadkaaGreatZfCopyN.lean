/- Copies of the reference: a nest. -/
import Derived.Test.YtgogjbnneoadkaaGreatZfOwnS
import Derived.Test.YtgogjbnneoadkaaGreatZfBoxNest
import Derived.Test.YtgogjbnneoadkaaGreatZfSum
set_option linter.all false
set_option maxHeartbeats 16000000
set_option maxRecDepth 100000
namespace Go.Proofs.YtgogjbnneoadkaaGreat
open Go.ChangeShapes Go.WideShapes Go.ChangeAt Go.RowKit Go.Deep
def LpSm (x : Lp) : Prop := x.lo.length <= 1000000 /\ x.hi.length <= 1000000 /\ (∀ a ∈ x.lo, a.coefs.length <= 10000000) /\ ∀ a ∈ x.hi, a.coefs.length <= 10000000
theorem qJY {xs : List Aff} {w : World} {A : Option Addr} {n c : Nat} {bs : List Nat} (h : Rep w (sls Aff.d xs) [.slice A n c] bs) (hl : xs.length <= 1000000) (hs : ∀ a ∈ xs, a.coefs.length <= 10000000) :
  Calls Tryz.prog 102 #[.slice A n c] w (yQ w (sls Aff.d xs)) := by
 obtain ⟨rfl, h2, h3⟩ := h.sls_len;have hn : xs.length <= 9223372036854775807 := qX h2 h3;have H := qQ h; clear h h2 h3;have HS := qQ hs; clear hs;go_enter Tryz.func102, Tryz.ntmps102;go_wp2;go_loopw [3, 8] (fun u i wr => ∃ j : Nat, j <= xs.length /\ i = .int .i64 j /\ Grow wr w.heap.size 61 2 u ((xs.take j).map Aff.d) /\ Below w.heap.size w wr) (fun _ i _ => xs.length - (intOf i).toNat)
 case atStart => exact ⟨0, Nat.zero_le _, rfl, Grow.nil _ _ _ _, Below.refl _ _⟩
 case round =>
  obtain ⟨j, hj, rfl, hG, hb⟩ := hrel;have HG := qQ hG; clear hG;by_cases hlt : j < xs.length
  ·have HT := qQ (show (xs.take (j + 1)).map Aff.d = (xs.take j).map Aff.d ++ [Aff.d xs[j]] by rw [List.take_succ_eq_append_getElem hlt, List.map_append]; rfl)
   have HX := qQ (HS.out _ (List.getElem_mem hlt));obtain ⟨b, o, cs, l, rfl, hbl, hr, _, _, hc⟩ := (H.out.below hb).sls_at Aff.d_size (k := j) hlt;have G := qQ hr;obtain ⟨A1, c1, d1, rfl, rfl, g1, g2⟩ := Rep.aff_iff2.1 hr;have k0 := (hc 0 _ rfl).1; rw [Nat.add_zero] at k0;have k1 := (hc 1 _ rfl).1;clear hc hr g1 g2;go_wp2_with fail;refine (qVM (G.out.below bel) HX.out).mono ?_;rintro e w1 ⟨A1r, n1r, c1r, k1r, bs1, rfl, r1', nd1, hb1, b1⟩;have R1 := qQ r1'; clear r1';have HB1 := qQ (show ∀ y ∈ bs1, wr.heap.size <= y from fun y hy => by have := hb1 y hy; (try simp at this); omega);have N1 := qQ nd1; clear nd1 hb1;have S1 : Below wr.heap.size wr w1 := bel;clear b1;go_wp2_with (
    at_builtin;refine zL (w0 := wr) rfl (.tmp 12) (.tmp 15) _ rfl _ Tryz.underlying57 Tryz.infoAff rfl (by decide) rfl HG.out ?hbw (d := Aff.d xs[j]) (news := [.slice A1r n1r c1r, .int .i64 k1r]) rfl ?hrep N1.out HB1.out (vN _ [_, _] _ (by simp)) rfl ?hone ?hlen hb.size ?_
    case hbw => exact bel
    case hrep => exact R1.out.below ((Below.refl _ _).alloc (qJ _) _)
    case hone => intro u hu; simp only [List.mem_cons, List.not_mem_nil, or_false] at hu; rcases hu with rfl | rfl <;> rfl
    case hlen => simp only [List.length_map, List.length_take]; omega
    intro v' w4 hG4 hB4)
   rw [<- HT.out] at hG4;have S4 : Below w.heap.size w w4 := Below.trans (qY hb (show Below wr.heap.size wr _ from bel)) hB4;clear HG;go_wp2;go_roundw
   case rel => exact ⟨j + 1, by omega, by go_num, hG4, S4⟩
   case measure => simp [intOf]; omega
  ·have hjj : j = xs.length := by omega
   subst hjj;have hg := HG.out; clear HG;rw [List.take_length] at hg;obtain ⟨Au, cu, hfu, _, _⟩ := hg.form;subst hfu;have HG := qQ hg; clear hg;go_wp2;go_ret;exact yQ.of_grow HG.out hb
theorem qPG {xs : List Lp} {w : World} {A : Option Addr} {n c : Nat} {bs : List Nat} (h : Rep w (sls Lp.d xs) [.slice A n c] bs) (hl : xs.length <= 1000000) (hs : ∀ x ∈ xs, LpSm x) :
  Calls Tryz.prog 53 #[.slice A n c] w (yQ w (sls Lp.d xs)) := by
 obtain ⟨rfl, h2, h3⟩ := h.sls_len;have hn : xs.length <= 9223372036854775807 := qX h2 h3;have H := qQ h; clear h h2 h3;have HS := qQ hs; clear hs;go_enter Tryz.func53, Tryz.ntmps53;go_wp2;go_loopw [3, 8] (fun u i wr => ∃ j : Nat, j <= xs.length /\ i = .int .i64 j /\ Grow wr w.heap.size 59 2 u ((xs.take j).map Lp.d) /\ Below w.heap.size w wr) (fun _ i _ => xs.length - (intOf i).toNat)
 case atStart => exact ⟨0, Nat.zero_le _, rfl, Grow.nil _ _ _ _, Below.refl _ _⟩
 case round =>
  obtain ⟨j, hj, rfl, hG, hb⟩ := hrel;have HG := qQ hG; clear hG;by_cases hlt : j < xs.length
  ·have HT := qQ (show (xs.take (j + 1)).map Lp.d = (xs.take j).map Lp.d ++ [Lp.d xs[j]] by rw [List.take_succ_eq_append_getElem hlt, List.map_append]; rfl)
   have HX := qQ (HS.out _ (List.getElem_mem hlt));obtain ⟨b, o, cs, l, rfl, hbl, hr, _, _, hc⟩ := (H.out.below hb).sls_at Lp.d_size (k := j) hlt;obtain ⟨x, hx⟩ : ∃ x, x = xs[j] := ⟨_, rfl⟩;rw [<- hx] at HT HX hr;clear hx;obtain ⟨A1, c1, A2, c2, d1, d2, rfl, rfl, g1, g2⟩ := Rep.lp_iff.1 hr;have HLo := qQ g1;have HHi := qQ g2;have k0 := (hc 0 _ rfl).1; rw [Nat.add_zero] at k0;have k1 := (hc 1 _ rfl).1;clear hc hr g1 g2;have hbz := hb.size;have HOW := qQ HG.out.own_ge;go_wp2_with fail;refine wp_region_noPanic ?_;refine wp_region_held_drew (S := fun w' => Box2 w' wr.heap.size (.slice A1 x.lo.length c1) (.slice A2 x.hi.length c2)) (by kernel_rfl) (⟨by go_simp, by go_simp⟩) (fun hHeld => ?_);refine goR 0 hHeld ?_;refine goR 1 hHeld ?_;refine goR 2 hHeld ?_;refine goR 4 hHeld ?_;refine goR 5 hHeld ?_;refine zF (i := 3) rfl (by kernel_rfl) (qK rfl) (fun K hK => ?_);go_simp
   (refine (qJY (HLo.out.below bel) HX.out.1 HX.out.2.2.1).mono ?_; rintro e w1 ⟨A1q, n1, c1q, bs1, rfl, r1, nd1, hb1, b1⟩; obtain ⟨hn1, _, _⟩ := r1.sls_len; subst hn1; have B1 : Below wr.heap.size wr w1 := bel; have L1 := qQ (Rep.lt _ r1); have R1 := qQ r1; have N1 := qQ (qV nd1 (show ∀ y ∈ bs1, wr.heap.size <= y from fun y hy => by have := hb1 y hy; simp at this; omega)); clear r1 nd1 hb1)
   go_wp2_with fail;refine hK.out _ _ (hHeld.to b1) (fun hHeld => ?_);clear hK K
   try simp only [Act.put, aq0, aq1, aq2]
   refine zF (i := 6) rfl (by kernel_rfl) (qK rfl) (fun K hK => ?_);go_simp
   (refine (qJY (HHi.out.below bel) HX.out.2.1 HX.out.2.2.2).mono ?_; rintro e w2 ⟨A2q, n2, c2q, bs2, rfl, r2, nd2, hb2, b2⟩; obtain ⟨hn2, _, _⟩ := r2.sls_len; subst hn2; have B2 : Below wr.heap.size wr w2 := qY B1 b2; have O1 := qQ (xV (N := w2.heap.size) (Rep.lp_iff (x := x).2 ⟨_, _, _, _, _, _, rfl, rfl, R1.out.below b2, r2⟩) 59 rfl); have N2 := qQ (show (bs1 ++ bs2).Nodup /\ ∀ y ∈ bs1 ++ bs2, wr.heap.size <= y from ⟨List.nodup_append.2 ⟨N1.out.1, nd2, fun y h1 z h2 e => by subst e; have q1 := L1.out y h1; have q2 := hb2 y h2; omega⟩, fun y hy => by have q3 := B1.size; rcases List.mem_append.1 hy with h1 | h1; exact N1.out.2 y h1; have q2 := hb2 y h1; omega⟩); clear r2 nd2 hb2)
   go_wp2_with fail;refine hK.out _ _ (hHeld.to b2) (fun hHeld => ?_);clear hK K
   try simp only [Act.put, aq0, aq1, aq2]
   refine goR 7 hHeld ?_;refine zF (i := 8) rfl (by kernel_rfl) (qK rfl) (fun K hK => ?_)
   (unfold Oper.wp; go_simp)
   refine hK.out _ _ (hHeld.to ((Below.refl _ _).alloc (qJ _) _)) (fun hHeld => ?_);clear hK K
   try simp only [Act.put, aq0, aq1, aq2]
   refine zF (i := 9) rfl (by kernel_rfl) (qK rfl) (fun K hK => ?_)
   (refine zX (w0 := wr) (B := w.heap.size) (xs := (xs.take j).map Lp.d) (ys := [Lp.d x]) (.tmp 12) (.tmp 20) _ rfl _ Tryz.underlying51 Tryz.infoLoop rfl (by decide) rfl HG.out ?hbw rfl O1.out ?hys ?hn ?hf ?hlen hbz ?_; (case hbw => exact bel); (case hys => (intro y hy; simp only [List.mem_singleton] at hy; rw [hy]; rfl)); (case hn => exact N2.out.1); (case hf => exact N2.out.2); (case hlen => (simp; omega)); intro v2 w4 hG4 hg4; have B4 : Below w.heap.size wr w4 := ((B2.alloc B2.size _).mono hbz).trans (hg4.below (qX hbz (qX B2.size (by simp))) (fun b hb => (HOW.out b hb).1)); rw [<- HT.out] at hG4; have HG4 := qQ hG4; have HB4 := qQ (hb.trans B4))
   refine hK.out _ _ (hg4.touch.box2 hHeld (fun hm => by have := (HOW.out _ (qU.1 hm)).2; omega)) (fun hHeld => ?_);clear hK K
   try simp only [Act.put, aq0, aq1, aq2]
   refine goR 10 hHeld ?_;refine wpAnyH_done (by kernel_rfl) ?_ _;refine NoPanic.normal ?_;go_wp2;go_roundw
   case rel => exact ⟨j + 1, by omega, by go_num, HG4.out, HB4.out⟩
   case measure => simp [intOf]; omega
  ·have hjj : j = xs.length := by omega
   subst hjj;have hg := HG.out; clear HG;rw [List.take_length] at hg;obtain ⟨Au, cu, hfu, _, _⟩ := hg.form;subst hfu;have HG := qQ hg; clear hg;go_wp2;go_ret;exact yQ.of_grow HG.out hb
theorem qRQ {xs : List Lp} {w : World} {A : Option Addr} {n c : Nat} {bs : List Nat} (h : Rep w (sls Lp.d xs) [.slice A n c] bs) (hl : xs.length <= 1000000) (hs : ∀ x ∈ xs, LpSm x) :
  Calls Tryz.prog 117 #[.slice A n c] w (yQ w (sls Lp.d xs)) := by
 obtain ⟨rfl, h2, h3⟩ := h.sls_len;have hn : xs.length <= 9223372036854775807 := qX h2 h3;have H := qQ h; clear h h2 h3;have HS := qQ hs; clear hs;go_enter Tryz.func117, Tryz.ntmps117;go_wp2;go_loopw [3, 4] (fun u i wr => ∃ j : Nat, j <= xs.length /\ i = .int .i64 j /\ Grow wr w.heap.size 59 2 u ((xs.take j).map Lp.d) /\ Below w.heap.size w wr) (fun _ i _ => xs.length - (intOf i).toNat)
 case atStart => exact ⟨0, Nat.zero_le _, rfl, Grow.made w _ _ (qJ _), bel⟩
 case round =>
  obtain ⟨j, hj, rfl, hG, hb⟩ := hrel;obtain ⟨Ao, co, hfo, _, _⟩ := hG.form;rw [List.length_map, List.length_take] at hfo;have HG := qQ hG; clear hG;have hbz := hb.size;by_cases hlt : j < xs.length
  ·have HT := qQ (show (xs.take (j + 1)).map Lp.d = (xs.take j).map Lp.d ++ [Lp.d xs[j]] by rw [List.take_succ_eq_append_getElem hlt, List.map_append]; rfl)
   have HX := qQ (HS.out _ (List.getElem_mem hlt));obtain ⟨be, oe, cse, le, rfl, hble, hre, _, _, hce⟩ := (H.out.below hb).sls_at Lp.d_size (k := j) hlt;have Ge := qQ hre;obtain ⟨A1e, c1e, A2e, c2e, d1e, d2e, rfl, rfl, g1e, g2e⟩ := Rep.lp_iff.1 hre;have k0e := (hce 0 _ rfl).1; rw [Nat.add_zero] at k0e;have k1e := (hce 1 _ rfl).1;have Q1e := qQ g1e;have Q2e := qQ g2e;clear hce hre g1e g2e;have hmin : min j xs.length = j := by omega
   rw [hmin] at hfo;subst hfo;obtain ⟨x, hx⟩ : ∃ x, x = xs[j] := ⟨_, rfl⟩;rw [<- hx] at k0e k1e Q1e Q2e HT HX;clear hmin hx Ge;have hlo := HX.out.1;have hhi := HX.out.2.1;have hn1 : x.lo.length <= 9223372036854775807 := by omega
   have hn2 : x.hi.length <= 9223372036854775807 := by omega
   go_wp2;obtain ⟨wo, rfl⟩ : ∃ wo, wo = wr := ⟨_, rfl⟩;go_loopw [6] (fun i wv => ∃ (k : Nat) (u : Value), k <= x.lo.length /\ i = .int .i64 k /\ BoxW wv wo.heap.size u (.slice none 0 0) /\ Grow wv (wo.heap.size + 1) 61 2 u ((x.lo.take k).map Aff.d) /\ wo.heap.size + 1 <= wv.heap.size /\ Below wo.heap.size wo wv) (fun i _ => x.lo.length - (intOf i).toNat)
   case atStart => exact ⟨0, .slice none 0 0, Nat.zero_le _, rfl, ⟨⟨by go_simp, by go_simp⟩, by go_simp, by go_simp⟩, by simpa using Grow.nil _ _ _ _, by simp, bel⟩
   case round =>
    obtain ⟨wv, rfl⟩ : ∃ wv, wv = wr := ⟨_, rfl⟩;obtain ⟨k, u, hk, rfl, ⟨⟨m0, m1⟩, f0, f1⟩, hP, hz, hbo⟩ := hrel;obtain ⟨Au, cu, hfu, _, _⟩ := hP.form;rw [List.length_map, List.length_take] at hfu;have HP := qQ hP; clear hP;have hcw := (qKI hbo).1;have k0v := (hcw _ _ hble).trans k0e;have k1v := (hcw _ _ hble).trans k1e;have ltv := qW k0v;have ltw := qW m0;clear hcw;by_cases hkt : k < x.lo.length
    ·have HTk := qQ (show (x.lo.take (k + 1)).map Aff.d = (x.lo.take k).map Aff.d ++ [x.lo[k].d] by rw [List.take_succ_eq_append_getElem hkt, List.map_append]; rfl)
     have HXk := qQ (HX.out.2.2.1 _ (List.getElem_mem hkt));obtain ⟨bf, of, csf, lf, rfl, hblf, hrf, _, _, hcf⟩ := (Q1e.out.below hbo).sls_at Aff.d_size (k := k) hkt;have Gf := qQ hrf;obtain ⟨A1f, c1f, d1f, rfl, rfl, g1f, g2f⟩ := Rep.aff_iff2.1 hrf;have k0f := (hcf 0 _ rfl).1; rw [Nat.add_zero] at k0f;have k1f := (hcf 1 _ rfl).1;have Q1f := qQ g1f;have Q2f := qQ g2f;clear hcf hrf g1f g2f;have hmk : min k x.lo.length = k := by omega
     rw [hmk] at hfu;subst hfu;have HOW := qQ HP.out.own_ge;obtain ⟨a, ha⟩ : ∃ a, a = x.lo[k] := ⟨_, rfl⟩;rw [<- ha] at k0f k1f HTk HXk Q1f Q2f;clear hmk ha k0e k1e;go_wp2_with fail;refine wp_region_noPanic ?_;refine zM (S := fun w' => Box2 w' wo.heap.size (.slice Au k cu) (.slice none 0 0) /\ Box2 w' wv.heap.size (.slice A1f a.coefs.length c1f) (.int .i64 a.const)) 12 (by kernel_rfl) (⟨⟨by go_simp, by go_simp⟩, by go_simp, by go_simp⟩) (fun hHeld => ?_);refine goU 0 (fun _ => hHeld) ?_;refine goT 1 hHeld ?_;refine goU 3 (fun _ => hHeld) ?_;refine goT 4 hHeld ?_;refine goU 6 (fun _ => hHeld) ?_;refine goT 7 hHeld ?_;refine qS (rs := [2]) (by kernel_rfl) (by simp) (all1 ?_);refine opT (i := 2) rfl (qK rfl) (fun K hK => ?_)
     (unfold Oper.wp; go_simp)
     refine hK.out _ _ (⟨hHeld.1.to ((Below.refl _ _).alloc (qJ _) _), hHeld.2.to ((Below.refl _ _).alloc (qJ _) _)⟩) (fun hHeld => ?_);clear hK K
     try simp only [Act.put, aq0, aq1, aq2]
     refine qS (rs := [5]) (by kernel_rfl) (by simp) (all1 ?_);refine opT (i := 5) rfl (qK rfl) (fun K hK => ?_)
     (refine uO (B := wv.heap.size + 1) (.tmp 38) (.tmp 40) rfl Tryz.underlying39 Tryz.infoInt rfl ?hG2 rfl (Q1f.out.below bel) HXk.out (by first | (simp; done) | (simp; omega) | omega) ?_; (case hG2 => (repeat (first | exact Grow.madeE _ _ (by simp) (by simp) | refine Grow.drewG ?_ | refine Grow.allocG ?_ _))); intro v4 w4 hG4 hg4; obtain ⟨A4, c4, bs4, rfl, r4, nd4, hb4, ho4⟩ := hG4.ints; have b4 : Below (wv.heap.size + 1) _ w4 := hg4.below (by first | (simp; done) | (simp; omega) | omega) (fun y hy => by have h5 : some _ = some y := hy; have h6 := Option.some.inj h5; clear h5 hy; simp at h6; omega); have B4 : Below wv.heap.size wv w4 := Below.trans bel (b4.mono (Nat.le_succ _)); have O1 := qQ (xV (N := w4.heap.size) (Rep.aff_iff.2 ⟨_, _, _, rfl, r4, Q2f.out⟩) 61 rfl); have N1 := qQ (qV nd4 (show ∀ z ∈ bs4, wv.heap.size <= z from fun z hz => by have := hb4 z hz; omega)); clear r4 nd4 hb4 ho4 hG4)
     refine hK.out _ _ (⟨hg4.touch.box2 hHeld.1 (fun hm => by have h6 := vX hm; first | omega | (simp at h6; done) | (simp at h6; omega)), hg4.touch.box2 hHeld.2 (fun hm => by have h6 := vX hm; first | omega | (simp at h6; done) | (simp at h6; omega))⟩) (fun hHeld => ?_);clear hK K
     try simp only [Act.put, aq0, aq1, aq2]
     refine goU 8 (fun _ => hHeld) ?_;refine qS (rs := [9]) (by kernel_rfl) (by simp) (all1 ?_);refine opT (i := 9) rfl (qK rfl) (fun K hK => ?_)
     (unfold Oper.wp; go_simp)
     refine hK.out _ _ (⟨hHeld.1.to ((Below.refl _ _).alloc (qJ _) _), hHeld.2.to ((Below.refl _ _).alloc (qJ _) _)⟩) (fun hHeld => ?_);clear hK K
     try simp only [Act.put, aq0, aq1, aq2]
     refine qS (rs := [10]) (by kernel_rfl) (by simp) (all1 ?_);refine opT (i := 10) rfl (qK rfl) (fun K hK => ?_)
     (refine zX (w0 := wv) (B := wo.heap.size + 1) (xs := (x.lo.take k).map Aff.d) (ys := [a.d]) (.tmp 37) (.tmp 45) _ rfl _ Tryz.underlying57 Tryz.infoAff rfl (by decide) rfl HP.out ?hbw4 rfl O1.out ?hys4 ?hn4 ?hf4 ?hlen4 hz ?_; (case hbw4 => exact zZ B4 _); (case hys4 => (intro y hy; simp only [List.mem_singleton] at hy; rw [hy]; rfl)); (case hn4 => exact N1.out.1); (case hf4 => exact N1.out.2); (case hlen4 => (simp; omega)); intro v5 w5 hG5 hg5; have B5 : Below (wo.heap.size + 1) wv w5 := ((B4.alloc B4.size _).mono hz).trans (hg5.below (qX hz (qX B4.size (by simp))) (fun b hb => (HOW.out b hb).1)); have X5 : BoxW w5 wo.heap.size (.slice Au k cu) (.slice none 0 0) := BoxW.toB ⟨⟨m0, m1⟩, f0, f1⟩ (by omega) B5; have XZ := B5.size; obtain ⟨⟨m0', m1'⟩, f0', f1'⟩ := X5; have ltx := qW m0'; obtain ⟨A6, c6, hf6, _, _⟩ := hG5.form; simp only [List.length_append, List.length_map, List.length_take, List.length_singleton] at hf6; rw [show min k x.lo.length + 1 = k + 1 by omega] at hf6; subst hf6; rw [<- HTk.out] at hG5; have HG5 := qQ hG5; have HB5 := qQ (hbo.trans (B5.mono (by omega))); have H5B := qQ B5)
     refine hK.out _ _ (⟨hg5.touch.box2 hHeld.1 (fun hm => by have := (HOW.out _ (qU.1 hm)).1; omega), hg5.touch.box2 hHeld.2 (fun hm => by have := (HOW.out _ (qU.1 hm)).2; omega)⟩) (fun hHeld => ?_);clear hK K
     try simp only [Act.put, aq0, aq1, aq2]
     refine goU 11 (fun _ => hHeld) ?_;refine qS (rs := [12]) (by kernel_rfl) (by simp) (all1 ?_);refine opTT (i := 12) rfl (qK rfl) (by kernel_rfl) (fun K hK => ?_)
     (unfold Oper.wp; go_simp)
     refine hK.out _ _ ?_;clear hK K
     try simp only [Act.put, aq0, aq1, aq2]
     refine qI (by kernel_rfl) ?_ _;refine NoPanic.normal ?_
     (go_wp2; go_roundw; (case rel => exact ⟨k + 1, _, by omega, by go_num, ⟨⟨by go_simp, by go_simp⟩, by go_simp, by go_simp⟩, HG5.out.set_low (p := ⟨wo.heap.size, 0, none⟩) (by first | (simp; done) | (simp; omega)) _, by (simp [World.setCell]; omega), HB5.out.setCell (by first | (simp; done) | (simp; omega)) _⟩); (case measure => (simp [intOf]; omega)))
    ·have hkk : k = x.lo.length := by omega
     subst hkk;rw [Nat.min_self] at hfu;subst hfu;have hP := HP.out;rw [List.take_length] at hP;obtain ⟨A5, c5, bs5, he5, r5, nd5, hb5⟩ := hP.rep;rw [List.length_map] at he5 r5;simp only [Value.slice.injEq, true_and] at he5;obtain ⟨rfl, rfl⟩ := he5;obtain ⟨AL, rfl⟩ : ∃ AL, AL = Au := ⟨_, rfl⟩;obtain ⟨cL, rfl⟩ : ∃ cL, cL = cu := ⟨_, rfl⟩;have R5 := qQ (show Rep wv (sls Aff.d x.lo) [.slice AL x.lo.length cL] bs5 from r5);have N5 := qQ (qV nd5 (qV hb5 (Rep.lt _ r5)));obtain ⟨wi, rfl⟩ : ∃ wi, wi = wv := ⟨_, rfl⟩;clear hP r5 nd5 hb5 HP;go_wp2;go_loopw [8] (fun i wv => ∃ (k : Nat) (u : Value), k <= x.hi.length /\ i = .int .i64 k /\ BoxW wv wo.heap.size (.slice AL x.lo.length cL) u /\ Grow wv (wi.heap.size) 61 2 u ((x.hi.take k).map Aff.d) /\ Rep wv (sls Aff.d x.lo) [.slice AL x.lo.length cL] bs5 /\ wi.heap.size <= wv.heap.size /\ Below wo.heap.size wo wv) (fun i _ => x.hi.length - (intOf i).toNat)
     case atStart => exact ⟨0, .slice none 0 0, Nat.zero_le _, rfl, ⟨⟨m0, m1⟩, f0, f1⟩, by simpa using Grow.nil _ _ _ _, R5.out, by exact qJ _, hbo⟩
     case round =>
      obtain ⟨wv, rfl⟩ : ∃ wv, wv = wr := ⟨_, rfl⟩;obtain ⟨k, u, hk, rfl, ⟨⟨m0, m1⟩, f0, f1⟩, hP, hR5, hz, hbo⟩ := hrel;obtain ⟨Au, cu, hfu, _, _⟩ := hP.form;rw [List.length_map, List.length_take] at hfu;have HP := qQ hP; clear hP;have HR5 := qQ hR5; clear hR5;have hcw := (qKI hbo).1;have k0v := (hcw _ _ hble).trans k0e;have k1v := (hcw _ _ hble).trans k1e;have ltv := qW k0v;have ltw := qW m0;clear hcw;by_cases hkt : k < x.hi.length
      ·have HTk := qQ (show (x.hi.take (k + 1)).map Aff.d = (x.hi.take k).map Aff.d ++ [x.hi[k].d] by rw [List.take_succ_eq_append_getElem hkt, List.map_append]; rfl)
       have HXk := qQ (HX.out.2.2.2 _ (List.getElem_mem hkt));obtain ⟨bf, of, csf, lf, rfl, hblf, hrf, _, _, hcf⟩ := (Q2e.out.below hbo).sls_at Aff.d_size (k := k) hkt;have Gf := qQ hrf;obtain ⟨A1f, c1f, d1f, rfl, rfl, g1f, g2f⟩ := Rep.aff_iff2.1 hrf;have k0f := (hcf 0 _ rfl).1; rw [Nat.add_zero] at k0f;have k1f := (hcf 1 _ rfl).1;have Q1f := qQ g1f;have Q2f := qQ g2f;clear hcf hrf g1f g2f;have hmk : min k x.hi.length = k := by omega
       rw [hmk] at hfu;subst hfu;have HOW := qQ HP.out.own_ge;obtain ⟨a, ha⟩ : ∃ a, a = x.hi[k] := ⟨_, rfl⟩;rw [<- ha] at k0f k1f HTk HXk Q1f Q2f;clear hmk ha k0e k1e;go_wp2_with fail;refine wp_region_noPanic ?_;refine zM (S := fun w' => Box2 w' wo.heap.size (.slice AL x.lo.length cL) (.slice Au k cu) /\ Box2 w' wv.heap.size (.slice A1f a.coefs.length c1f) (.int .i64 a.const)) 12 (by kernel_rfl) (⟨⟨by go_simp, by go_simp⟩, by go_simp, by go_simp⟩) (fun hHeld => ?_);refine goU 0 (fun _ => hHeld) ?_;refine goT 1 hHeld ?_;refine goU 3 (fun _ => hHeld) ?_;refine goT 4 hHeld ?_;refine goU 6 (fun _ => hHeld) ?_;refine goT 7 hHeld ?_;refine qS (rs := [2]) (by kernel_rfl) (by simp) (all1 ?_);refine opT (i := 2) rfl (qK rfl) (fun K hK => ?_)
       (unfold Oper.wp; go_simp)
       refine hK.out _ _ (⟨hHeld.1.to ((Below.refl _ _).alloc (qJ _) _), hHeld.2.to ((Below.refl _ _).alloc (qJ _) _)⟩) (fun hHeld => ?_);clear hK K
       try simp only [Act.put, aq0, aq1, aq2]
       refine qS (rs := [5]) (by kernel_rfl) (by simp) (all1 ?_);refine opT (i := 5) rfl (qK rfl) (fun K hK => ?_)
       (refine uO (B := wv.heap.size + 1) (.tmp 68) (.tmp 70) rfl Tryz.underlying39 Tryz.infoInt rfl ?hG2 rfl (Q1f.out.below bel) HXk.out (by first | (simp; done) | (simp; omega) | omega) ?_; (case hG2 => (repeat (first | exact Grow.madeE _ _ (by simp) (by simp) | refine Grow.drewG ?_ | refine Grow.allocG ?_ _))); intro v4 w4 hG4 hg4; obtain ⟨A4, c4, bs4, rfl, r4, nd4, hb4, ho4⟩ := hG4.ints; have b4 : Below (wv.heap.size + 1) _ w4 := hg4.below (by first | (simp; done) | (simp; omega) | omega) (fun y hy => by have h5 : some _ = some y := hy; have h6 := Option.some.inj h5; clear h5 hy; simp at h6; omega); have B4 : Below wv.heap.size wv w4 := Below.trans bel (b4.mono (Nat.le_succ _)); have O1 := qQ (xV (N := w4.heap.size) (Rep.aff_iff.2 ⟨_, _, _, rfl, r4, Q2f.out⟩) 61 rfl); have N1 := qQ (qV nd4 (show ∀ z ∈ bs4, wv.heap.size <= z from fun z hz => by have := hb4 z hz; omega)); clear r4 nd4 hb4 ho4 hG4)
       refine hK.out _ _ (⟨hg4.touch.box2 hHeld.1 (fun hm => by have h6 := vX hm; first | omega | (simp at h6; done) | (simp at h6; omega)), hg4.touch.box2 hHeld.2 (fun hm => by have h6 := vX hm; first | omega | (simp at h6; done) | (simp at h6; omega))⟩) (fun hHeld => ?_);clear hK K
       try simp only [Act.put, aq0, aq1, aq2]
       refine goU 8 (fun _ => hHeld) ?_;refine qS (rs := [9]) (by kernel_rfl) (by simp) (all1 ?_);refine opT (i := 9) rfl (qK rfl) (fun K hK => ?_)
       (unfold Oper.wp; go_simp)
       refine hK.out _ _ (⟨hHeld.1.to ((Below.refl _ _).alloc (qJ _) _), hHeld.2.to ((Below.refl _ _).alloc (qJ _) _)⟩) (fun hHeld => ?_);clear hK K
       try simp only [Act.put, aq0, aq1, aq2]
       refine qS (rs := [10]) (by kernel_rfl) (by simp) (all1 ?_);refine opT (i := 10) rfl (qK rfl) (fun K hK => ?_)
       (refine zX (w0 := wv) (B := wi.heap.size) (xs := (x.hi.take k).map Aff.d) (ys := [a.d]) (.tmp 67) (.tmp 75) _ rfl _ Tryz.underlying57 Tryz.infoAff rfl (by decide) rfl HP.out ?hbw4 rfl O1.out ?hys4 ?hn4 ?hf4 ?hlen4 hz ?_; (case hbw4 => exact zZ B4 _); (case hys4 => (intro y hy; simp only [List.mem_singleton] at hy; rw [hy]; rfl)); (case hn4 => exact N1.out.1); (case hf4 => exact N1.out.2); (case hlen4 => (simp; omega)); intro v5 w5 hG5 hg5; have B5 : Below (wi.heap.size) wv w5 := ((B4.alloc B4.size _).mono hz).trans (hg5.below (qX hz (qX B4.size (by simp))) (fun b hb => (HOW.out b hb).1)); have X5 : BoxW w5 wo.heap.size (.slice AL x.lo.length cL) (.slice Au k cu) := BoxW.toB ⟨⟨m0, m1⟩, f0, f1⟩ (by omega) B5; have XZ := B5.size; obtain ⟨⟨m0', m1'⟩, f0', f1'⟩ := X5; have ltx := qW m0'; obtain ⟨A6, c6, hf6, _, _⟩ := hG5.form; simp only [List.length_append, List.length_map, List.length_take, List.length_singleton] at hf6; rw [show min k x.hi.length + 1 = k + 1 by omega] at hf6; subst hf6; rw [<- HTk.out] at hG5; have HG5 := qQ hG5; have HB5 := qQ (hbo.trans (B5.mono (by omega))); have H5B := qQ B5)
       refine hK.out _ _ (⟨hg5.touch.box2 hHeld.1 (fun hm => by have := (HOW.out _ (qU.1 hm)).1; omega), hg5.touch.box2 hHeld.2 (fun hm => by have := (HOW.out _ (qU.1 hm)).2; omega)⟩) (fun hHeld => ?_);clear hK K
       try simp only [Act.put, aq0, aq1, aq2]
       refine goU 11 (fun _ => hHeld) ?_;refine qS (rs := [12]) (by kernel_rfl) (by simp) (all1 ?_);refine opTT (i := 12) rfl (qK rfl) (by kernel_rfl) (fun K hK => ?_)
       (unfold Oper.wp; go_simp)
       refine hK.out _ _ ?_;clear hK K
       try simp only [Act.put, aq0, aq1, aq2]
       refine qI (by kernel_rfl) ?_ _;refine NoPanic.normal ?_
       (go_wp2; go_roundw; (case rel => exact ⟨k + 1, _, by omega, by go_num, ⟨⟨by go_simp, by go_simp⟩, by go_simp, by go_simp⟩, HG5.out.set_low (p := ⟨wo.heap.size, 1, none⟩) (by first | (simp; done) | (simp; omega)) _, (Rep.keep _ (Rep.keep _ HR5.out (qD.of_below H5B.out N5.out.2.2)) ((qD.refl _ _).setCell (fun hm => by have := N5.out.2.1 _ hm; simp at this; omega) _)), by (simp [World.setCell]; omega), HB5.out.setCell (by first | (simp; done) | (simp; omega)) _⟩); (case measure => (simp [intOf]; omega)))
      ·have hkk : k = x.hi.length := by omega
       subst hkk;rw [Nat.min_self] at hfu;subst hfu;have hP := HP.out;rw [List.take_length] at hP;obtain ⟨A6, c6, bs6, he6, r6, nd6, hb6⟩ := hP.rep;rw [List.length_map] at he6 r6;simp only [Value.slice.injEq, true_and] at he6;obtain ⟨rfl, rfl⟩ := he6;have O1 := qQ (xV (N := wv.heap.size) (Rep.lp_iff (x := x).2 ⟨_, _, _, _, _, _, rfl, rfl, HR5.out, (show Rep wv (sls Aff.d x.hi) [.slice Au x.hi.length cu] bs6 from r6)⟩) 59 rfl);have N2 := qQ (show (bs5 ++ bs6).Nodup /\ ∀ y ∈ bs5 ++ bs6, wo.heap.size <= y from ⟨List.nodup_append.2 ⟨N5.out.1, nd6, fun y h1 z h2 e => by subst e; have q1 := N5.out.2.2 y h1; have q2 := hb6 y h2; omega⟩, fun y hy => by rcases List.mem_append.1 hy with h1 | h1; (have := N5.out.2.1 y h1; omega); (have q2 := hb6 y h1; have q3 := hz; have q4 := qW m0; omega)⟩);have hzo : wo.heap.size <= wv.heap.size := hbo.size;clear hP r6 nd6 hb6 HP;have HOW := qQ HG.out.own_ge;go_wp2_with (
        at_builtin;refine qT (w0 := wo) (B := w.heap.size) (xs := (xs.take j).map Lp.d) (ys := [x.d]) rfl (.tmp 78) (.tmp 80) _ rfl _ Tryz.underlying51 Tryz.infoLoop rfl (by decide) rfl HG.out ?hbw rfl O1.out ?hys ?hn ?hf ?hlen hbz ?_
        case hbw => exact zZ hbo _
        case hys => intro y hy; simp only [List.mem_singleton] at hy; rw [hy]; rfl
        case hn => exact N2.out.1
        case hf => exact N2.out.2
        case hlen => simp; omega
        intro v7 w7 hG7 hg7)
       have B7 : Below w.heap.size wo w7 := ((zZ hbo _).mono hbz).trans (hg7.below (qX hbz (qX hzo (by simp))) (fun b hb => (HOW.out b hb).1));rw [<- HT.out] at hG7;have HG7 := qQ hG7;have HB7 := qQ (hb.trans B7);clear hG7 hg7;go_wp2;go_roundw
       case rel => exact ⟨j + 1, by omega, by go_num, HG7.out, HB7.out⟩
       case measure => simp [intOf]; omega
  ·have hjj : j = xs.length := by omega
   subst hjj;rw [Nat.min_self] at hfo;subst hfo;have hg := HG.out;rw [List.take_length] at hg;have HGF := qQ hg;clear hg HG;go_wp2;go_ret;exact yQ.of_grow HGF.out hb
end Go.Proofs.YtgogjbnneoadkaaGreat
