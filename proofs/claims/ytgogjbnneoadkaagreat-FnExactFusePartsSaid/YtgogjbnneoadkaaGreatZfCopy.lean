/- Copies of the reference: affine expressions, accesses; the accesses that an expression reads. -/
import Derived.Test.YtgogjbnneoadkaaGreatZfPoints
import Derived.Deep.RegionLaw
import Derived.Test.YtgogjbnneoadkaaGreatZfReads
import Derived.Test.YtgogjbnneoadkaaGreatZfBasic
import Derived.Test.YtgogjbnneoadkaaGreatZfScanI
import Derived.Deep.RegionHeld3
set_option linter.all false
set_option maxHeartbeats 8000000
set_option maxRecDepth 100000
namespace Go.Proofs.YtgogjbnneoadkaaGreat
open Go.ChangeShapes Go.WideShapes Go.ChangeAt Go.RowKit Go.Deep
theorem qXD {xs : List Lp} (h : qB xs = false) : qN xs = ([], false) := by simp [qN, h]
theorem qXF {xs : List Lp} (h : ¬ cntF xs [] <= 1200) : qN xs = ([], false) := by simp [qN, h]
theorem qXU {xs : List Lp} (h : ¬ (ptsF xs []).length <= 120) : qN xs = ([], false) := by simp [qN, h]
theorem qXG {xs : List Lp} (h : qB xs = true) (h1 : cntF xs [] <= 1200) (h2 : (ptsF xs []).length <= 120) : qN xs = (ptsF xs [], true) := by simp [qN, h, h1, h2]
def vP (w : World) (r : List (List Int) × Bool) (e : Ending) (w' : World) : Prop :=
 ∃ A n c bs, e = .returned (.tuple #[.slice A n c, .bool r.2]) /\ Rep w' (sls ints r.1) [.slice A n c] bs /\ bs.Nodup /\ (∀ b ∈ bs, w.heap.size <= b) /\ Below w.heap.size w w'
theorem vP.of_grow {w w' : World} {e : TypeId} {v : Value} {r : List (List Int) × Bool} (h : Grow w' w.heap.size e 1 v (lls r.1)) (hb : Below w.heap.size w w') : vP w r (.returned (.tuple #[v, .bool r.2])) w' := by
 obtain ⟨A, c, bs, rfl, h1, h2, h3⟩ := h.rep;exact ⟨A, _, c, bs, rfl, h1, h2, h3, hb⟩
theorem qJU {w : World} {xs : List Lp} {A : Option Addr} {n c : Nat} {bs : List Nat} (h : Rep w (sls Lp.d xs) [.slice A n c] bs) :
  Calls Tryz.prog 134 #[.slice A n c] w (vP w (qN xs)) := by
 have hlt := Rep.lt _ h;have HLT := qQ hlt; clear hlt;have H := qQ h; clear h
 cases hv : qB xs with
 | false =>
  rw [qXD hv];have HV := qQ hv; clear hv;go_enter Tryz.func134, Tryz.ntmps134;go_wp2_with fail;refine (vG H.out).mono ?_;rintro e w1 ⟨rfl, b1⟩;rw [HV.out];go_wp2;go_ret2;exact vP.of_grow (r := ([], false)) (Grow.made w1 39 1 b1.size) (b1.alloc b1.size _)
 | true =>
 have hok := qKH hv;have HV := qQ hv; clear hv;have HOK := qQ hok.2;have h4 := hok.1; clear hok;by_cases hc : cntF xs [] <= 1200
 case neg =>
  rw [qXF hc];go_enter Tryz.func134, Tryz.ntmps134;go_wp2_with fail;refine (vG H.out).mono ?_;rintro e w1 ⟨rfl, b1⟩;rw [HV.out];go_wp2_with fail;refine (qVX xs xs [] [] _ _ _ _ _ _ _ _ _ _ rfl rfl h4 HOK.out PtB.nil (by omega) (by omega) (H.out.below b1) (Rep.ints_nil (Nat.zero_le _))).mono ?_;rintro e w2 ⟨rfl, b2⟩;obtain ⟨r, hr⟩ : ∃ r : Int, r = min (cntF xs [] : Int) (1200 + 1) := ⟨_, rfl⟩;rw [<- hr];have hr2 : 1200 < r := by omega
  clear hr;go_wp2;go_ret2;exact vP.of_grow (r := ([], false)) (Grow.made w2 39 1 (qX b1.size b2.size)) ((qY b1 b2).alloc (qX b1.size b2.size) _)
 by_cases hp : (ptsF xs []).length <= 120
 case neg =>
  rw [qXU hp];have HR := qQ (show ([] ++ ptsF xs []).take 121 = (ptsF xs []).take 121 from rfl);go_enter Tryz.func134, Tryz.ntmps134;go_wp2_with fail;refine (vG H.out).mono ?_;rintro e w1 ⟨rfl, b1⟩;rw [HV.out];go_wp2_with fail;refine (qVX xs xs [] [] _ _ _ _ _ _ _ _ _ _ rfl rfl h4 HOK.out PtB.nil (by omega) (by omega) (H.out.below b1) (Rep.ints_nil (Nat.zero_le _))).mono ?_;rintro e w2 ⟨rfl, b2⟩;obtain ⟨r, hr⟩ : ∃ r : Int, r = min (cntF xs [] : Int) (1200 + 1) := ⟨_, rfl⟩;rw [<- hr];have hr2 : r <= 1200 := by omega
  clear hr;have S2 := qY b1 b2;go_wp2_with fail;refine (qQU xs xs [] [] _ _ _ _ _ _ _ _ _ w.heap.size _ [] rfl rfl h4 HOK.out PtB.nil (by simp) (H.out.below (S2.alloc S2.size _)) (Rep.ints_nil (Nat.zero_le _)) (Grow.made w2 39 1 S2.size) (by have := S2.size; simp; omega) (fun y hy e => by have := HLT.out y hy; have := S2.size; simp [Value.ownBlock] at e; omega) (by simp)).mono ?_;rintro e w3 ⟨v3, rfl, hG3, hg3⟩;have S3 : Below w.heap.size w w3 := (S2.alloc S2.size _).trans (hg3.belowG (by have := S2.size; simp; omega) (Grow.made w2 39 1 S2.size));obtain ⟨A3, c3, hf3, _, _⟩ := hG3.form;have hl3 : ((ptsF xs []).take 121).length = 121 := by rw [List.length_take]; omega
  simp only [lls, List.length_map, List.nil_append, hl3] at hf3;subst hf3;go_wp2;go_ret2;exact vP.of_grow (r := ([], false)) (Grow.made w3 39 1 S3.size) (S3.alloc S3.size _)
 rw [qXG HV.out hc hp];go_enter Tryz.func134, Tryz.ntmps134;go_wp2_with fail;refine (vG H.out).mono ?_;rintro e w1 ⟨rfl, b1⟩;rw [HV.out];go_wp2_with fail;refine (qVX xs xs [] [] _ _ _ _ _ _ _ _ _ _ rfl rfl h4 HOK.out PtB.nil (by omega) (by omega) (H.out.below b1) (Rep.ints_nil (Nat.zero_le _))).mono ?_;rintro e w2 ⟨rfl, b2⟩;obtain ⟨r, hr⟩ : ∃ r : Int, r = min (cntF xs [] : Int) (1200 + 1) := ⟨_, rfl⟩;rw [<- hr];have hr2 : r <= 1200 := by omega
 clear hr;have S2 := qY b1 b2;go_wp2_with fail;refine (qQU xs xs [] [] _ _ _ _ _ _ _ _ _ w.heap.size _ [] rfl rfl h4 HOK.out PtB.nil (by simp) (H.out.below (S2.alloc S2.size _)) (Rep.ints_nil (Nat.zero_le _)) (Grow.made w2 39 1 S2.size) (by have := S2.size; simp; omega) (fun y hy e => by have := HLT.out y hy; have := S2.size; simp [Value.ownBlock] at e; omega) (by simp)).mono ?_;rintro e w3 ⟨v3, rfl, hG3, hg3⟩;have S3 : Below w.heap.size w w3 := (S2.alloc S2.size _).trans (hg3.belowG (by have := S2.size; simp; omega) (Grow.made w2 39 1 S2.size));obtain ⟨A3, c3, hf3, _, _⟩ := hG3.form;have he : ([] ++ ptsF xs []).take 121 = ptsF xs [] := by rw [List.nil_append, List.take_of_length_le (by omega)]
 rw [he] at hG3 hf3;simp only [lls, List.length_map] at hf3;have HG3 := qQ hG3;clear hG3 hg3;subst hf3;go_wp2;go_ret2;exact vP.of_grow (r := (ptsF xs [], true)) HG3.out S3
structure Walk (w : World) (g : Nat) (N : Value) (s : Int) (v : Value) (Bg : Nat) (o : List (List Int)) : Prop where
 box : Box3 w g N (.int .i64 s) v
 fr1 : w.frozen? ⟨g, 1, none⟩ = false
 fr2 : w.frozen? ⟨g, 2, none⟩ = false
 grow : Grow w Bg 39 1 v (lls o)
 lt : g < Bg
 le : Bg <= w.heap.size
structure Walked (w w' : World) (g : Nat) (v v' : Value) : Prop where
 touch : Touch (g :: ownL v) w w'
 own : ∀ b, v'.ownBlock = some b -> v.ownBlock = some b ∨ w.heap.size <= b
theorem Walked.trans {a b c : World} {g : Nat} {u v x : Value} (h : Walked a b g u v) (k : Walked b c g v x) : Walked a c g u x := by
 refine ⟨⟨k.touch.os.trans h.touch.os, k.touch.tape.trans h.touch.tape, k.touch.output.trans h.touch.output, qX h.touch.size k.touch.size, fun y hy hn => ?_⟩, fun y hy => ?_⟩
 ·rw [k.touch.block y (qZ hy h.touch.size) (fun hm => ?_)]
  ·exact h.touch.block y hy hn
  ·rcases List.mem_cons.1 hm with e | hm
   ·exact hn (by rw [e]; exact List.mem_cons_self)
   ·rcases h.own y (qU.1 hm) with e | e
    ·exact hn (List.mem_cons_of_mem _ (qU.2 e))
    ·omega
 ·rcases k.own y hy with e | e
  ·exact h.own y e
  ·exact .inr (qX h.touch.size e)
theorem Walked.of_grew {w w' : World} {g : Nat} {v v' : Value} (h : Grew w w' v v') : Walked w w' g v v' := ⟨h.touch.mono fun y hy => List.mem_cons_of_mem _ hy, h.own⟩
theorem Walked.set {w w' : World} {g : Nat} {v v' : Value} (h : Walked w w' g v v') (i : Nat) (u : Value) : Walked w (w'.setCell ⟨g, i, none⟩ u) g v v' := ⟨h.touch.setCell (by simp) u, h.own⟩
theorem Rep.walked {w w' : World} {g : Nat} {v v' : Value} {d : D} {cs : List Value} {bs : List Nat} (h : Rep w d cs bs) (k : Walked w w' g v v') (hv : ∀ y ∈ bs, y ≠ g /\ v.ownBlock ≠ some y) : Rep w' d cs bs :=
 Rep.keep d h (k.touch.keeps fun y hy => ⟨Rep.lt d h y hy, fun hm => by
  rcases List.mem_cons.1 hm with e | hm
  ·exact (hv y hy).1 e
  ·exact (hv y hy).2 (qU.1 hm)⟩)
theorem Walked.apart {w w' : World} {g : Nat} {v v' : Value} {bs : List Nat} (k : Walked w w' g v v') (hv : ∀ y ∈ bs, y ≠ g /\ v.ownBlock ≠ some y) (hl : ∀ y ∈ bs, y < w.heap.size) : ∀ y ∈ bs, y ≠ g /\ v'.ownBlock ≠ some y := fun y hy => ⟨(hv y hy).1, fun e => by
 rcases k.own y e with h | h
 ·exact (hv y hy).2 h
 ·have := hl y hy; omega⟩
theorem qZD {w w' : World} {g o : Nat} {u : Value} (h : w.cell? ⟨g, o, none⟩ = some u) (hb : Below w.heap.size w w') : w'.cell? ⟨g, o, none⟩ = some u := by rw [hb.cell (qW h)]; exact h
theorem Walk.below {w w' : World} {g : Nat} {N : Value} {s : Int} {v : Value} {Bg : Nat} {o : List (List Int)} (h : Walk w g N s v Bg o) (b : Below w.heap.size w w') : Walk w' g N s v Bg o := by
 have hgl := qW h.box.1;exact ⟨h.box.to b, (b.frozen (p := ⟨g, 1, none⟩) hgl).trans h.fr1, (b.frozen (p := ⟨g, 2, none⟩) hgl).trans h.fr2, h.grow.below b, h.lt, qX h.le b.size⟩
theorem Walk.step {w : World} {g : Nat} {N : Value} {s : Int} {v : Value} {Bg : Nat} {o : List (List Int)} (h : Walk w g N s v Bg o) (s' : Int) : Walk (w.setCell ⟨g, 1, none⟩ (.int .i64 s')) g N s' v Bg o := by
 obtain ⟨⟨k0, k1, k2⟩, f1, f2, hG, hgB, hBw⟩ := h;exact ⟨⟨by go_simp, by go_simp, by go_simp⟩, by rw [World.frozen?_setCell]; exact f1, by rw [World.frozen?_setCell]; exact f2, hG.set_low (p := ⟨g, 1, none⟩) hgB _, hgB, by simpa [World.setCell] using hBw⟩
theorem qRT (ls : List Lp) (p : List Int) : 1 <= cntF ls p := by
 cases ls with
 | nil => exact qJ _
 | cons l ls => rw [cntF]; omega
def qCO (ls : List Lp) : Prop := ∀ (xs pre : List Lp) (p : List Int) (w : World) (A B : Option Addr) (n c m d : Nat) (bs bs' : List Nat) (Bg g : Nat) (s : Int) (v : Value) (o : List (List Int)), xs = pre ++ ls -> p.length = pre.length -> xs.length <= 4 -> (∀ l ∈ xs, LpOk l) -> PtB p -> 0 <= s -> s + 1 <= 1200 -> o.length <= 120 ->
  Rep w (sls Lp.d xs) [.slice A n c] bs -> Rep w (ints p) [.slice B m d] bs' -> Walk w g (.slice A n c) s v Bg o -> (∀ y ∈ bs, y ≠ g /\ v.ownBlock ≠ some y) -> (∀ y ∈ bs', y ≠ g /\ v.ownBlock ≠ some y) ->
  Calls Tryz.prog 181 #[.pointer (some ⟨g, 0, none⟩), .slice B m d] w fun e w' => ∃ v', e = .returned (.bool (decide (s + (cntF ls p : Int) <= 1200 /\ o.length + (ptsF ls p).length <= 120))) /\ Walked w w' g v v' /\
   (s + (cntF ls p : Int) <= 1200 /\ o.length + (ptsF ls p).length <= 120 -> Walk w' g (.slice A n c) (s + (cntF ls p : Int) - 1) v' Bg (o ++ ptsF ls p))
theorem qRA : (ls : List Lp) -> qCO ls
 | [] => by
  intro xs pre p w A B n c m d bs bs' Bg g s v o hx hp hl4 hok hpb hs0 hs1 ho h h' hW hv1 hv2;obtain ⟨rfl, _, _⟩ := h.sls_len;obtain ⟨rfl, _, _⟩ := h'.ints_len;have hq : ((p.length : Int) == (xs.length : Int)) = true := vV (by rw [hx, List.append_nil]; omega);have hpl : p.length <= 4 := by rw [hp]; rw [hx, List.append_nil] at hl4; exact hl4
  have HP := qQ h'; clear h';clear hx hp h hv1 hok;obtain ⟨⟨k0, k1, k2⟩, f1, f2, hG, hgB, hBw⟩ := hW;have HG := qQ hG;obtain ⟨Av, cv, hfv, _, _⟩ := hG.form;simp only [lls, List.length_map] at hfv;clear hG;subst hfv;have hgl := qW k0;go_enter Tryz.func181, Tryz.ntmps181;go_wp2_with fail;go_region_law (first
    | (rw [if_pos (qK rfl)]; go_simp; go_at_call 121; refine (qZT (HP.out.drewN 1) (by omega)).mono ?_; rintro e w1 ⟨v1, rfl, hG1, b1⟩; replace b1 := qL b1; obtain ⟨A1, c1, bs1, rfl, r1, nd1, hb1, _⟩ := hG1.ints; have k2a := qZD k2 b1; have gl1 := qZ hgl b1.size; have O1 := qQ (qVN w1 r1 39); have N1 := qQ (qV nd1 hb1); have B1 := b1.alloc b1.size (.cells #[.slice A1 p.length c1] 39); clear hG1 r1 nd1 hb1; go_wp2_with fail)
    |(rw [if_pos (qK rfl)]
      refine zX (w0 := w) (B := Bg) (xs := lls o) (ys := [ints p]) (.tmp 20) (.tmp 23) _ rfl _ Tryz.underlying91 Tryz.infoInts rfl (by decide) rfl HG.out B1 rfl O1.out ?hys ?hn ?hf ?hlen hBw ?_
      case hys => intro y hy; simp only [List.mem_singleton] at hy; rw [hy]; rfl
      case hn => exact N1.out.1
      case hf => exact N1.out.2
      case hlen => simp [lls]; omega
      intro v2 w4 hG4 hg4;have hno : g ∉ ownL (.slice Av o.length cv) := fun hm => by have := (HG.out.own_ge g (qU.1 hm)).1; omega
      have hgl4 : g < (w1.alloc (.cells #[.slice A1 p.length c1] 39)).heap.size := qZ hgl B1.size;have gl5 : g < w4.heap.size := qZ hgl4 hg4.touch.size;have k0b := (hg4.touch.cell hgl4 hno).trans (qZD k0 B1);have k1b := (hg4.touch.cell hgl4 hno).trans (qZD k1 B1);have k2b := (hg4.touch.cell hgl4 hno).trans (qZD k2 B1);have f1b := (hg4.touch.frozen (o := 1) hgl4 hno).trans ((B1.frozen (p := ⟨g, 1, none⟩) hgl).trans f1);have f2b := (hg4.touch.frozen (o := 2) hgl4 hno).trans ((B1.frozen (p := ⟨g, 2, none⟩) hgl).trans f2);have hW4 := qQ (Walked.of_grew (g := g) ((Grew.of_below B1 (.slice Av o.length cv)).trans hg4));rw [show lls o ++ [ints p] = lls (o ++ [p]) by simp [lls]] at hG4;obtain ⟨A4, c4, hf4, _, _⟩ := hG4.form;simp only [lls, List.length_map, List.length_append, List.length_singleton] at hf4;have HG4 := qQ hG4;subst hf4;clear hG4 hg4 k2a b1 B1 O1 N1))
  all_goals (
   go_wp2;go_ret;have hs : s + (cntF [] p : Int) - 1 = s := by simp only [cntF]; omega
   refine ⟨_, qH ?_, hW4.out.set 2 _, fun _ => ?_⟩
   ·rw [decide_eq_decide]
    simp only [cntF, ptsF, List.length_singleton]; omega
   ·rw [hs]
    exact ⟨⟨by go_simp, by go_simp, by go_simp⟩, by rw [World.frozen?_setCell]; exact f1b, by rw [World.frozen?_setCell]; exact f2b, HG4.out.set_low (p := ⟨g, 2, none⟩) hgB _, hgB, by simp [World.setCell]; exact qX hBw hW4.out.touch.size⟩)
 | l :: ls => by
  intro xs pre p w A B n c m d bs bs' Bg g s v o hx hp hl4 hok hpb hs0 hs1 ho h h' hW hv1 hv2;have ih := qRA ls;obtain ⟨rfl, hn1, hn2⟩ := h.sls_len;obtain ⟨rfl, hm1, hm2⟩ := h'.ints_len;have hxl : xs.length = p.length + 1 + ls.length := by rw [hx, List.length_append, List.length_cons, hp]; omega
  have hlt : p.length < xs.length := by omega
  have hget : xs[p.length] = l := by
   simp only [hx, hp]; simp
  have hLO := hok l (by rw [hx]; simp);have hsm := hLO.small hpb (by omega);have hq : ((p.length : Int) == (xs.length : Int)) = false := uF (by omega);have IH := qQ ih; clear ih;have hl3 : p.length <= 3 := by omega
  have HX := qQ (qV hx (qV hp hxl)); clear hx hp hxl;have HOK := qQ (qV hok (qV hpb (qV hLO hget)));have HBD := qQ (show LpBd xs[p.length] p by rw [hget]; exact hLO.bd hpb (by omega));have HRL := qQ (show loF xs[p.length] p = loF l p by rw [hget]);have HRH := qQ (show hiF xs[p.length] p = hiF l p by rw [hget]);have HA := qQ (qV hv1 (qV (Rep.lt _ h) (qV hv2 (Rep.lt _ h')))); clear hv1 hv2;have H := qQ h; clear h;have HP := qQ h'; clear h';obtain ⟨lo, hlo⟩ : ∃ lo, lo = loF l p := ⟨_, rfl⟩;obtain ⟨hi, hhi⟩ : ∃ hi, hi = hiF l p := ⟨_, rfl⟩;rw [<- hlo, <- hhi] at hsm;have hw : widN l p = (hi - lo).toNat := by rw [widN, hlo, hhi]
  have HLO := qQ (qV hlo (qV hhi hw));obtain ⟨f, hf⟩ : ∃ f : Nat -> List (List Int), f = fun k : Nat => ptsF ls (p ++ [lo + (k : Int)]) := ⟨_, rfl⟩;obtain ⟨q, hqf⟩ : ∃ q : Nat -> Nat, q = fun k : Nat => cntF ls (p ++ [lo + (k : Int)]) := ⟨_, rfl⟩;have HC := qQ (show ptsF (l :: ls) p = catN f (hi - lo).toNat by rw [ptsF, hw, hlo, hf, hlo]);have HD := qQ (show cntF (l :: ls) p = 1 + sumN q (hi - lo).toNat by rw [cntF, hw, hlo, hqf, hlo]);clear hlo hhi hw hok hpb hLO hget hn1 hn2 hm1 hm2;have HF := qQ (qV hf hqf); clear hf hqf;rw [HC.out, HD.out];have HW := qQ hW;have hgl := qW hW.box.1;have k0 := hW.box.1;have hgB := hW.lt;clear hW;obtain ⟨be, oe, cse, le, rfl, hble, hre, _, _, hce⟩ := H.out.sls_at Lp.d_size (k := p.length) hlt;have Ge := qQ hre;obtain ⟨A1e, c1e, A2e, c2e, d1e, d2e, rfl, rfl, g1e, g2e⟩ := Rep.lp_iff.1 hre;have k0e := (hce 0 _ rfl).1; rw [Nat.add_zero] at k0e;have k1e := (hce 1 _ rfl).1;have Q1e := qQ g1e;have Q2e := qQ g2e;clear hce hre g1e g2e;go_enter Tryz.func181, Tryz.ntmps181;go_wp2_with fail;refine (qCT (Ge.out.below bel) (HP.out.below bel) HBD.out).mono ?_;rintro e w1 ⟨rfl, b1⟩;have S1 : Below w.heap.size w w1 := bel;rw [HRL.out, HRH.out, <- HLO.out.1, <- HLO.out.2.1];have hgw : Walked w w1 g v v := Walked.of_grew (Grew.of_below S1 v);have hW1 : Walk w1 g (.slice (some ⟨be, oe, none⟩) xs.length c) s v Bg o := ⟨HW.out.box.to S1, (S1.frozen (p := ⟨g, 1, none⟩) hgl).trans HW.out.fr1, (S1.frozen (p := ⟨g, 2, none⟩) hgl).trans HW.out.fr2, HW.out.grow.below S1, HW.out.lt, qX HW.out.le S1.size⟩;clear b1 k0e k1e hq k0;go_wp2;go_loopw [7] (fun i wr => ∃ (k : Nat) (u : Value), k <= (hi - lo).toNat /\ i = .int .i64 (lo + (k : Int)) /\ s + 1 + (sumN q k : Int) <= 1200 /\ (o ++ catN f k).length <= 120 /\ Walk wr g (.slice (some ⟨be, oe, none⟩) xs.length c) (s + (sumN q k : Int)) u Bg (o ++ catN f k) /\ Walked w wr g v u) (fun i _ => (hi - intOf i).toNat)
  case atStart => exact ⟨0, v, Nat.zero_le _, zQ (by simp), by simp only [sumN]; omega, by simp only [catN, List.append_nil]; exact ho, by simpa [sumN, catN] using hW1, hgw⟩
  case round =>
   clear S1 hgw hW1;obtain ⟨k, u, hk, rfl, hs12, ho12, hWr, hgr⟩ := hrel;obtain ⟨S, hS⟩ : ∃ S : Int, S = s + (sumN q k : Int) := ⟨_, rfl⟩;rw [<- hS] at hWr;have HWr := qQ hWr;have Hgr := qQ hgr; clear hgr;have hS0 : 0 <= S /\ S + 1 <= 1200 := by omega
   obtain ⟨⟨k0, k1, k2⟩, f1, f2, hGr, _, hBr⟩ := hWr;obtain ⟨Au, cu, hfu, _, _⟩ := hGr.form;simp only [lls, List.length_map] at hfu;clear hGr;by_cases hlk : k < (hi - lo).toNat
   case neg =>
    have he : k = (hi - lo).toNat := by omega
    subst he;go_wp2;go_ret;refine ⟨u, qH ?_, Hgr.out, fun _ => ?_⟩
    ·refine (decide_eq_true ?_).symm
     rw [List.length_append] at ho12;exact ⟨by omega, ho12⟩
    ·have := HWr.out
     rw [show s + ((1 + sumN q (hi - lo).toNat : Nat) : Int) - 1 = S by omega];exact this
   have hkv : lo + (k : Int) < hi := by omega
   have hq1 : sumN q (k + 1) <= sumN q (hi - lo).toNat := qTN q (by omega);have hqk : 1 <= q k := by rw [HF.out.2]; exact qRT _ _
   have hsk : sumN q (k + 1) = sumN q k + q k := rfl;have hpre := qDB f (show k + 1 <= (hi - lo).toNat by omega);by_cases h12 : 1200 < S + 1 + 1
   ·have HN := qQ (show ¬ (s + ((1 + sumN q (hi - lo).toNat : Nat) : Int) <= 1200 /\ o.length + (catN f (hi - lo).toNat).length <= 120) by omega)
    clear hS;go_wp2;go_ret;exact ⟨u, qH (decide_eq_false HN.out).symm, Hgr.out.set 1 _, fun h => absurd h HN.out⟩
   have hNO := qQ (show ∀ t : Nat, t = q k -> ¬ (S + 1 + (t : Int) <= 1200 /\ (o ++ catN f k).length + (f k).length <= 120) -> ¬ (s + ((1 + sumN q (hi - lo).toNat : Nat) : Int) <= 1200 /\ o.length + (catN f (hi - lo).toNat).length <= 120) by
    rintro t rfl hn hy;obtain ⟨r, hr⟩ := hpre;refine hn ⟨by omega, ?_⟩;have := hy.2;rw [hr, catN] at this;simp only [List.length_append] at this ⊢;omega)
   have hyes := qQ (show S + 1 + (q k : Int) - 1 = s + (sumN q (k + 1) : Int) by rw [hsk]; omega);have HS := qQ hS;clear hS hsk hq1 hpre hqk;have HPB := qQ (HOK.out.2.2.1.next HOK.out.2.1 (k := k) (by rw [HLO.out.2.2]; exact hlk));rw [<- HLO.out.1] at HPB;obtain ⟨x, hv⟩ : ∃ x, x = lo + (k : Int) := ⟨_, rfl⟩;rw [<- hv] at HPB hkv ⊢;have hvb : -99000 <= x /\ x <= 99000 := by omega
   have HV := qQ hv; clear hv;obtain ⟨W1, hW1⟩ : ∃ W1, W1 = wr.setCell ⟨g, 1, none⟩ (.int .i64 (S + 1)) := ⟨_, rfl⟩;have HW1 := qQ hW1; clear hW1;have HK := qQ (show Walk W1 g _ (S + 1) u Bg (o ++ catN f k) by rw [HW1.out]; exact HWr.out.step (S + 1));have Hg1 := qQ (show Walked w W1 g v u by rw [HW1.out]; exact Hgr.out.set 1 _);have HPr := qQ (HP.out.walked Hg1.out HA.out.2.2.1);have HNr := qQ (H.out.walked Hg1.out HA.out.1);have HFU := qQ hfu; clear hfu;go_wp2_with fail;rw [<- HW1.out];clear k0 k1 k2 f1 f2;refine (qZT HPr.out (by omega)).mono ?_;rintro e w2 ⟨v2, rfl, hG2, b2⟩;obtain ⟨A2', c2', hf2, _, _⟩ := hG2.form;simp only [List.length_map] at hf2;have HG2 := qQ hG2; clear hG2;have O2 := qQ (qVR w2 (show I64 x by unfold I64; omega) 3);subst hf2;go_wp2_with (
    at_builtin;refine qQL (w0 := w2) (B := W1.heap.size) (xs := p.map D.int) (ys := [D.int x]) (by kernel_rfl) (.tmp 68) (.tmp 70) _ rfl _ Tryz.underlying39 Tryz.infoInt rfl (by decide) rfl HG2.out ?hb0 rfl O2.out ?hys ?hn ?hf ?hlen ?hbase ?_
    case hb0 => exact (Below.refl _ _).alloc (qJ _) _
    case hys => intro y hy; simp only [List.mem_singleton] at hy; rw [hy]; rfl
    case hn => simp
    case hf => simp
    case hlen => simp; omega
    case hbase => exact b2.size
    intro v3 w4 hG4 hg4)
   rw [show p.map D.int ++ [D.int x] = (p ++ [x]).map D.int by simp] at hG4;have B4 : Below W1.heap.size W1 w4 := (b2.alloc b2.size _).trans (hg4.below (qX b2.size (by simp)) (fun b hb => (HG2.out.own_ge b hb).1));obtain ⟨A4, c4, bs4, rfl, r4, _, hb4, _⟩ := hG4.ints;have R4 := qQ r4; clear r4 hG4 hg4;have hgW : g < W1.heap.size := qZ hgB HK.out.le;have hown : ∀ y ∈ bs4, y ≠ g /\ u.ownBlock ≠ some y := fun y hy => ⟨fun e => by have := hb4 y hy; omega, fun e => by
    have := (HK.out.grow.own_ge y e).2;have := hb4 y hy;omega⟩
   go_wp2_with fail;refine (IH.out xs _ (p ++ [x]) _ _ _ _ _ _ _ _ _ Bg g (S + 1) u (o ++ catN f k) (show xs = (pre ++ [l]) ++ ls by rw [HX.out.1]; simp) (by simp [HX.out.2.1]) hl4 HOK.out.1 HPB.out (by omega) (by omega) ho12 (HNr.out.below B4) R4.out (HK.out.below B4) (Hg1.out.apart HA.out.1 HA.out.2.1) hown).mono ?_;rintro e w5 ⟨u5, rfl, hg5, hK5⟩;have g5 := qQ ((Hg1.out.trans (Walked.of_grew (Grew.of_below B4 u))).trans hg5); clear hg5;have ef : ptsF ls (p ++ [x]) = f k := by rw [HF.out.1, HV.out]
   have eq : cntF ls (p ++ [x]) = q k := by rw [HF.out.2, HV.out]
   rw [ef, eq] at hK5 ⊢;by_cases hok5 : S + 1 + (q k : Int) <= 1200 /\ (o ++ catN f k).length + (f k).length <= 120
   ·have HK5 := qQ (hK5 hok5); clear hK5
    have hq5 := hok5.1;have hl5 : (o ++ catN f (k + 1)).length <= 120 := by
     have := hok5.2;rw [catN]; simp only [List.length_append] at this ⊢; omega
    rw [decide_eq_true hok5];clear hok5;go_wp2;go_roundw
    case rel =>
     refine ⟨k + 1, u5, by omega, zQ (by rw [HV.out]; omega), by have := hyes.out; omega, hl5, ?_, g5.out⟩;have := HK5.out;rw [hyes.out, List.append_assoc] at this;exact this
    case measure => simp [intOf]; omega
   ·have HN := qQ (hNO.out _ rfl hok5)
    rw [decide_eq_false hok5];clear hK5 hok5;go_wp2;go_ret;exact ⟨u5, qH (decide_eq_false HN.out).symm, g5.out, fun h => absurd h HN.out⟩
theorem Tryz.infoAff : (Tryz.prog.info? 61).map (fun i => (i.zero, i.size, decide (i.bytes <= 1024))) = some (some (.agg #[.slice none 0 0, .int .i64 0]), 2, true) := by kernel_rfl
theorem vX {g o : Nat} {n c : Nat} {y : Nat} (h : y ∈ ownL (.slice (some ⟨g, o, none⟩) n c)) : y = g := by
 have h5 : some g = some y := qU.1 h;exact (Option.some.inj h5).symm
theorem qG {w w' : World} {g o : Nat} {u : Value} (h : w.cell? ⟨g, o, none⟩ = some u) (hb : Below w.heap.size w w') : w'.cell? ⟨g, o, none⟩ = some u := by rw [hb.cell (qW h)]; exact h
theorem jY {w : World} {a : Aff} {cs : List Value} {bs : List Nat} (h : Rep w a.d cs bs) (hl : a.coefs.length <= 10000000) :
  Calls Tryz.prog 197 #[.agg cs.toArray] w (qHV w a) := by
 obtain ⟨A, c, d1, rfl, rfl, hra, hI⟩ := Rep.aff_iff2.1 h;have hn : a.coefs.length <= 9223372036854775807 := by omega
 have HA := qQ hra; clear hra h;have HI := qQ hI; clear hI;by_cases h0 : a.coefs.length = 0
 ·have q1 : ((a.coefs.length : Int) == 0) = true := vV (by omega)
  have H0 := qQ (List.eq_nil_of_length_eq_zero h0); clear h0;go_enter Tryz.func197, Tryz.ntmps197;go_wp2;exact bodyPost_ret (v := .agg #[.slice none 0 0, .int .i64 a.const]) (by simp [results, Tryz.results197, go_sem]) rfl ⟨_, _, _, _, [], rfl, Rep.aff_iff.2 ⟨none, 0, 0, rfl, by rw [H0.out]; exact Rep.ints_nil (Nat.zero_le _), HI.out⟩, by simp, by simp, bel⟩
 have q1 : ((a.coefs.length : Int) == 0) = false := uF (by omega);clear h0;go_enter Tryz.func197, Tryz.ntmps197;go_wp2_with fail;go_region_held3 (fun w' => Box2 w' w.heap.size (.slice A a.coefs.length c) (.int .i64 a.const)) (first | (refine ⟨?_, ?_⟩ <;> (go_simp; done)) | exact Q4 | (refine Q4.to ?_; (repeat (first | with_reducible exact Below.refl _ _ | refine Below.setCell ?_ (by simp; try omega) _ | refine zZ ?_ _ | refine Below.alloc ?_ (by simp [World.setCell]; try omega) _ | refine qE ?_ _ | refine Below.drew ?_ | refine qY ?_ ‹Below _ _ _›)); done) | skip)
  (first
   |(refine uO (B := w.heap.size + 2) (.tmp 10) (.tmp 12) rfl Tryz.underlying39 Tryz.infoInt rfl ?hG rfl (HA.out.below bel) hl (by first | (simp; done) | (simp; omega) | omega) ?_
     case hG => (repeat (first | exact Grow.madeE _ _ (by simp) (by simp) | refine Grow.drewG ?_ | refine Grow.allocG ?_ _))
     intro v4 w4 hG4 hg4;obtain ⟨A4, c4, bs4, rfl, r4, nd4, hb4, ho4⟩ := hG4.ints;have Q4 : Box2 w4 w.heap.size (.slice A a.coefs.length c) (.int .i64 a.const) := hg4.touch.box2 ⟨by go_simp, by go_simp⟩ (fun hm => by have h6 := vX hm; first | omega | (simp at h6; done) | (simp at h6; omega));have b4 : Below (w.heap.size + 2) _ w4 := hg4.below (by first | (simp; done) | (simp; omega) | omega) (fun y hy => by have h5 : some _ = some y := hy; have h6 := Option.some.inj h5; clear h5 hy; simp at h6; omega);have B4 := b4.mono (show w.heap.size <= w.heap.size + 2 by omega);clear hG4;refine qFJ (Q := BoxW w4 (w.heap.size + 1) (.slice none 0 0) (.int .i64 0)) ?hq ?_
     case hq => (refine hg4.touch.boxW ⟨⟨?_, ?_⟩, ?_, ?_⟩ ?_ <;> first | (go_simp; done) | (intro hm; have h6 := vX hm; first | omega | (simp at h6; done) | (simp at h6; omega)))
     rintro ⟨⟨Q5a, Q5b⟩, Q5c, Q5d⟩))
 go_wp2;have hnb : w.heap.size + 1 ∉ bs4 := fun hm => by have := hb4 _ hm; omega
 have S4 : Below w.heap.size w w4 := by
  refine Below.trans ?_ B4
  (repeat (first | with_reducible exact Below.refl _ _ | refine Below.setCell ?_ (by simp; try omega) _ | refine zZ ?_ _ | refine Below.alloc ?_ (by simp [World.setCell]; try omega) _ | refine qE ?_ _ | refine Below.drew ?_ | refine qY ?_ ‹Below _ _ _›))
 exact bodyPost_ret (v := .agg #[.slice A4 a.coefs.length c4, .int .i64 a.const]) (by simp [results, Tryz.results197, go_sem, Q5a, Q5b]) rfl ⟨_, _, _, _, bs4, rfl, Rep.aff_iff.2 ⟨_, _, _, rfl, Rep.keep _ r4 (((qD.refl _ _).setCell hnb _).setCell hnb _), HI.out⟩, nd4, fun x hx => by have := hb4 x hx; omega, (S4.setCell (by simp; try omega) _).setCell (by simp; try omega) _⟩
theorem vQ {w : World} {x : Acc} {cs : List Value} {bs : List Nat} (h : Rep w x.d cs bs) (hl : x.subs.length <= 1000000) (hs : ∀ t ∈ x.subs, t.coefs.length <= 10000000) :
  Calls Tryz.prog 158 #[.agg cs.toArray] w (qMV w x) := by
 obtain ⟨A2, c2, d2, rfl, rfl, g1, g2⟩ := Rep.acc_iff.1 h;have Garr := qQ g1;have Gsubs := qQ g2;clear h g1 g2;have hn : x.subs.length <= 9223372036854775807 := by omega
 have HS := qQ hs; clear hs;go_enter Tryz.func158, Tryz.ntmps158;go_wp2;go_loopw [4] (fun i wr => ∃ (j : Nat) (u : Value), j <= x.subs.length /\ i = .int .i64 j /\ BoxW wr (w.heap.size + 2) (.string x.arr) u /\ Grow wr (w.heap.size + 3) 61 2 u ((x.subs.take j).map Aff.d) /\ Box2 wr w.heap.size (.string x.arr) (.slice A2 x.subs.length c2) /\ BoxW wr (w.heap.size + 1) (.string ⟨#[]⟩) (.slice none 0 0) /\ w.heap.size + 3 <= wr.heap.size /\ Below w.heap.size w wr) (fun i _ => x.subs.length - (intOf i).toNat)
 case atStart => exact ⟨0, .slice none 0 0, Nat.zero_le _, rfl, ⟨⟨by go_simp, by go_simp⟩, by go_simp, by go_simp⟩, by simpa using Grow.nil _ _ _ _, ⟨by go_simp, by go_simp⟩, ⟨⟨by go_simp, by go_simp⟩, by go_simp, by go_simp⟩, by simp, bel⟩
 case round =>
  obtain ⟨j, u, hj, rfl, ⟨⟨k2a, k2b⟩, f2a, f2b⟩, hG, ⟨p0, p1⟩, hR, hz, hb⟩ := hrel;have HR := qQ hR; clear hR;obtain ⟨Au, cu, hfu, _, _⟩ := hG.form;rw [List.length_map, List.length_take] at hfu;have HG := qQ hG; clear hG;by_cases hlt : j < x.subs.length
  ·have HT := qQ (show (x.subs.take (j + 1)).map Aff.d = (x.subs.take j).map Aff.d ++ [x.subs[j].d] by rw [List.take_succ_eq_append_getElem hlt, List.map_append]; rfl)
   have hsl := HS.out _ (List.getElem_mem hlt);obtain ⟨be, oe, cse, le, rfl, hble, hre, _, _, hce⟩ := (Gsubs.out.below hb).sls_at Aff.d_size (k := j) hlt;have Ge := qQ hre;obtain ⟨A1e, c1e, d1e, rfl, rfl, g1e, g2e⟩ := Rep.aff_iff2.1 hre;have k0e := (hce 0 _ rfl).1; rw [Nat.add_zero] at k0e;have k1e := (hce 1 _ rfl).1;have Q1e := qQ g1e;have Q2e := qQ g2e;clear hce hre g1e g2e;have lt2 := qW k2a;have lt0 := qW p0;have hmin : min j x.subs.length = j := by omega
   rw [hmin] at hfu;subst hfu;have HOW := qQ HG.out.own_ge;clear hmin;go_wp2_with fail;go_region_law (first
    | (rw [if_pos (qK rfl)]; go_simp; go_at_call 197; refine (jY (Ge.out.drewN 1) hsl).mono ?_; rintro e w1 ⟨A1, n1, c1, k1, bs1, rfl, r1, nd1, hb1, b1⟩; replace b1 := qL b1; have k2c := qG k2b b1; have gl1 := qZ lt2 b1.size; have O1 := qQ (xV (N := w1.heap.size) r1 61 rfl); have N1 := qQ (qV nd1 hb1); have B1 := b1.alloc b1.size (.cells #[.slice A1 n1 c1, .int .i64 k1] 61); clear r1 nd1 hb1; go_wp2_with fail)
    |(rw [if_pos (qK rfl)]
      refine zX (w0 := wr) (B := w.heap.size + 3) (xs := (x.subs.take j).map Aff.d) (ys := [x.subs[j].d]) (.tmp 16) (.tmp 23) _ rfl _ Tryz.underlying57 Tryz.infoAff rfl (by decide) rfl HG.out B1 rfl O1.out ?hys ?hn ?hf ?hlen hz ?_
      case hys => intro y hy; simp only [List.mem_singleton] at hy; rw [hy]; rfl
      case hn => exact N1.out.1
      case hf => exact N1.out.2
      case hlen => simp; omega
      intro v2 w4 hG4 hg4;have B4 : Below (w.heap.size + 3) wr w4 := (B1.mono hz).trans (hg4.below (qX hz B1.size) (fun b hb => (HOW.out b hb).1));have X2 : BoxW w4 (w.heap.size + 2) (.string x.arr) (.slice Au j cu) := BoxW.toB ⟨⟨k2a, k2b⟩, f2a, f2b⟩ (by omega) B4;have X0 : Box2 w4 w.heap.size (.string x.arr) _ := Box2.toB ⟨p0, p1⟩ (by omega) B4;have XR := qQ (BoxW.toB HR.out (by omega) B4);have XZ := B4.size;obtain ⟨⟨k2d, k2e⟩, f2d, f2e⟩ := X2;obtain ⟨A4, c4, hf4, _, _⟩ := hG4.form;simp only [List.length_append, List.length_map, List.length_take, List.length_singleton] at hf4;rw [show min j x.subs.length + 1 = j + 1 by omega] at hf4;subst hf4;rw [<- HT.out] at hG4;have HG4 := qQ hG4;have HX0 := qQ X0;have HB4 := qQ (hb.trans (B4.mono (by omega)));clear hG4 hg4 k2c b1 B1 O1 N1 X0 B4))
   all_goals (
    go_wp2;go_roundw
    case rel => exact ⟨j + 1, _, by omega, by go_num, ⟨⟨by go_simp, by go_simp⟩, by go_simp, by go_simp⟩, HG4.out.set_low (p := ⟨w.heap.size + 2, 1, none⟩) (by simp) _, HX0.out.set (by first | (simp; done) | (simp; omega)) _, ⟨Box2.set XR.out.1 (by first | (simp; done) | (simp; omega)) _, by rw [World.frozen?_setCell]; exact XR.out.2.1, by rw [World.frozen?_setCell]; exact XR.out.2.2⟩, by (simp [World.setCell]; try omega), HB4.out.setCell (by first | (simp; done) | (simp; omega)) _⟩
    case measure => simp [intOf]; omega)
  ·have hjj : j = x.subs.length := by omega
   subst hjj;have hmin : min x.subs.length x.subs.length = x.subs.length := by omega
   rw [hmin] at hfu;subst hfu;have hG := HG.out;obtain ⟨A5, c5, bs5, he5, r5, nd5, hb5⟩ := hG.rep;rw [List.length_map, List.length_take, Nat.min_self] at he5 r5;simp only [Value.slice.injEq, true_and] at he5;obtain ⟨rfl, rfl⟩ := he5;rw [List.take_length] at r5;have H5 := qQ (qV r5 (qV nd5 hb5));clear hG r5 nd5 hb5;obtain ⟨⟨m1, m2⟩, m3, m4⟩ := HR.out;have lt1 := qW m1;go_wp2;have hnb : w.heap.size + 1 ∉ bs5 := fun hm => by have := H5.out.2.2 _ hm; omega
   refine bodyPost_ret (v := .agg #[.string x.arr, .slice Au x.subs.length cu]) (by simp [results, Tryz.results158, go_sem, m1, m2]) rfl ⟨Au, cu, bs5, rfl, Rep.acc_iff.2 ⟨_, _, _, rfl, rfl, Garr.out, Rep.keep _ H5.out.1 (((qD.refl _ _).setCell hnb _).setCell hnb _)⟩, H5.out.2.1, fun y hy => by have := H5.out.2.2 y hy; omega, (hb.setCell (by simp) _).setCell (by simp) _⟩
def RdEx (x : Ex) : Prop := ∀ (L : Nat) (dp : Int) (w : World) (cs : List Value) (bs : List Nat) (Bg : Nat) (v : Value) (o : List Acc), zS x dp L = true -> L <= 5 -> o.length + (xF x).length <= 1000000 -> Rep w x.d cs bs -> Grow w Bg 97 2 v (o.map Acc.d) -> Bg <= w.heap.size -> (∀ y ∈ bs, v.ownBlock ≠ some y) ->
  Calls Tryz.prog 173 #[v, .agg cs.toArray] w fun e w' => ∃ v', e = .returned v' /\ Grow w' Bg 97 2 v' ((o ++ xF x).map Acc.d) /\ Grew w w' v v'
end Go.Proofs.YtgogjbnneoadkaaGreat
