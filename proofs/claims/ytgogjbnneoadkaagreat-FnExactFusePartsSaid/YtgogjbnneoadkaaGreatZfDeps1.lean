/- Texts of this seat, joined: Trace, Uses, DepB, Deps. -/
import Derived.Test.YtgogjbnneoadkaaGreatZfActs
import Derived.Test.YtgogjbnneoadkaaGreatZfOrder
import Derived.Test.YtgogjbnneoadkaaGreatZfCellsS
set_option linter.all false
set_option maxHeartbeats 8000000
set_option maxRecDepth 100000
namespace Go.Proofs.YtgogjbnneoadkaaGreat
open Go.ChangeShapes Go.WideShapes Go.ChangeAt Go.RowKit Go.Deep
theorem jH {w : World} {p : Addr} {v : Value} {o : Obj} (h : w.cell? p = some v) : (w.alloc o).cell? p = some v := (World.cell?_alloc_some _ _ _ (by rw [h]; rfl)).trans h
theorem Grew.after {a b c : World} {v v' : Value} (g : Grew b c v v') (h : Below a.heap.size a b) : Grew a c v v' := (Grew.of_below h v).trans g
def rdD (u : Us) : D := ints u.reads
def wrD (u : Us) : D := .int u.write
def TrcN (w : World) (p : Pgm) (g N : Nat) : Prop := ∃ (A1 A2 A3 A4 A5 : Option Addr) (c1 c2 c3 c4 c5 : Nat) (bs bs3 bs4 bs5 : List Nat),
 Box5 w g (.slice A1 p.arrays.length c1) (.slice A2 p.parts.length c2) (.slice A3 (qM p).length c3) (.slice A4 (zJ p).length c4) (.slice A5 (zJ p).length c5) /\
 Rep w p.d [.slice A1 p.arrays.length c1, .slice A2 p.parts.length c2] bs /\ Rep w (sls In.d (qM p)) [.slice A3 (qM p).length c3] bs3 /\
 Rep w (sls rdD (zJ p)) [.slice A4 (zJ p).length c4] bs4 /\ Rep w (sls wrD (zJ p)) [.slice A5 (zJ p).length c5] bs5 /\ ∀ y ∈ bs3, N <= y
def Trc (w : World) (p : Pgm) (g : Nat) : Prop := ∃ (A1 A2 A3 A4 A5 : Option Addr) (c1 c2 c3 c4 c5 : Nat) (bs bs3 bs4 bs5 : List Nat),
 Box5 w g (.slice A1 p.arrays.length c1) (.slice A2 p.parts.length c2) (.slice A3 (qM p).length c3) (.slice A4 (zJ p).length c4) (.slice A5 (zJ p).length c5) /\
 Rep w p.d [.slice A1 p.arrays.length c1, .slice A2 p.parts.length c2] bs /\ Rep w (sls In.d (qM p)) [.slice A3 (qM p).length c3] bs3 /\
 Rep w (sls rdD (zJ p)) [.slice A4 (zJ p).length c4] bs4 /\ Rep w (sls wrD (zJ p)) [.slice A5 (zJ p).length c5] bs5
theorem TrcN.trc {w : World} {p : Pgm} {g N : Nat} (h : TrcN w p g N) : Trc w p g := by
 obtain ⟨A1, A2, A3, A4, A5, c1, c2, c3, c4, c5, bs, bs3, bs4, bs5, h1, h2, h3, h4, h5, _⟩ := h;exact ⟨A1, A2, A3, A4, A5, c1, c2, c3, c4, c5, bs, bs3, bs4, bs5, h1, h2, h3, h4, h5⟩
theorem Trc.below {w w' : World} {p : Pgm} {g : Nat} (h : Trc w p g) (hb : Below w.heap.size w w') : Trc w' p g := by
 obtain ⟨A1, A2, A3, A4, A5, c1, c2, c3, c4, c5, bs, bs3, bs4, bs5, h1, h2, h3, h4, h5⟩ := h;exact ⟨A1, A2, A3, A4, A5, c1, c2, c3, c4, c5, bs, bs3, bs4, bs5, h1.to hb, h2.below hb, h3.below hb, h4.below hb, h5.below hb⟩
theorem qDJ {α β : Type} {f : α -> β} {l : List α} {j : Nat} (h : j < l.length) : (l.take (j + 1)).map f = (l.take j).map f ++ [f l[j]] := by
 rw [List.take_succ_eq_append_getElem h, List.map_append]; rfl
theorem qTG {p : Pgm} {j : Nat} (h : j < (qM p).length) : (zJ p)[j]'(by rw [vE]; exact h) = useF p (qM p)[j] := by simp [zJ]
theorem qMT {p : Pgm} {x : In} (hv : zK p = true) : I64 (useF p x).write := by
 have hok := qQZ hv;have hcb := qXY hok;have := qQS (a := (stmF p x).write) (pt := x.point) hok;show I64 (cellF p.arrays (stmF p x).write x.point);unfold I64; omega
theorem trace_n {w : World} {p : Pgm} {cs : List Value} {bs : List Nat} (h : Rep w p.d cs bs) (hv : zK p = false) :
  Calls Tryz.prog 51 #[.agg cs.toArray] w fun e w' => e = .returned (.tuple #[.pointer none, .bool false]) /\ Below w.heap.size w w' := by
 have HP := qQ h;obtain ⟨A1, c1, A2, c2, d1, d2, rfl, rfl, g1, g2⟩ := Rep.pgm_iff.1 h;have Garrays := qQ g1;have Gparts := qQ g2;clear h g1 g2;have HY := qQ ((qHW p).trans hv);clear hv;go_enter Tryz.func51, Tryz.ntmps51;go_wp2_with fail;refine (qZH (HP.out.below bel)).mono ?_;rintro e w1 ⟨A3, n3, c3, bs3, rfl, _, _, _, b1⟩;have S1 : Below w.heap.size w w1 := bel;clear b1;rw [HY.out];go_wp2;go_ret2;exact ⟨rfl, S1⟩
theorem qML {w : World} {p : Pgm} {cs : List Value} {bs : List Nat} (h : Rep w p.d cs bs) (hv : zK p = true) :
  Calls Tryz.prog 51 #[.agg cs.toArray] w fun e w' => ∃ g, e = .returned (.tuple #[.pointer (some ⟨g, 0, none⟩), .bool true]) /\ TrcN w' p g w.heap.size /\ w.heap.size <= g /\ Below w.heap.size w w' := by
 have HP := qQ h;obtain ⟨A1, c1, A2, c2, d1, d2, rfl, rfl, g1, g2⟩ := Rep.pgm_iff.1 h;have Garrays := qQ g1;have Gparts := qQ g2;clear h g1 g2;have HY := qQ ((qHW p).trans hv);have HZ := qQ (qMW hv);have hln := (zN hv).2.2;have HV := qQ hv; clear hv;go_enter Tryz.func51, Tryz.ntmps51;go_wp2_with fail;refine (qZH (HP.out.below bel)).mono ?_;rintro e w1 ⟨A3, n3, c3, bs3, rfl, r1, _, fr1, b1⟩;have P1 : Box2 w1 w.heap.size (.slice A1 p.arrays.length c1) (.slice A2 p.parts.length c2) := by
  refine ⟨?_, ?_⟩ <;> (rw [b1.cell (by simp [World.setCell]; try omega)]; go_simp)
 have S1 : Below w.heap.size w w1 := bel;clear b1;have HFR := qQ (show ∀ y ∈ bs3, w.heap.size <= y from fun y hy => by have := fr1 y hy; simp at this; omega); clear fr1;rw [HY.out];rw [HZ.out] at r1;obtain ⟨rfl, _, _⟩ := r1.sls_len;have R1 := qQ r1; clear r1;have hz1 := S1.size;have ul := qQ (vE p);go_wp2;go_loopw [24] (fun i wr => ∃ (j : Nat) (vr vw : Value) (cb : List Nat), j <= (qM p).length /\ i = .int .i64 j /\ yZ wr (w1.heap.size + 1) 39 1 vr (((zJ p).take j).map rdD) cb /\ yZ wr (w1.heap.size + 1) 3 1 vw (((zJ p).take j).map wrD) [] /\ Apart vr vw cb /\ Box5 wr w1.heap.size (.slice A1 p.arrays.length c1) (.slice A2 p.parts.length c2) (.slice A3 (qM p).length c3) vr vw /\ wr.frozen? ⟨w1.heap.size, 3, none⟩ = false /\ wr.frozen? ⟨w1.heap.size, 4, none⟩ = false /\ Below w1.heap.size w1 wr) (fun i _ => (qM p).length - (intOf i).toNat)
 case atStart => exact ⟨0, _, _, [], Nat.zero_le _, rfl, yZ.nil _ _ _ _, yZ.nil _ _ _ _, Apart.nil, ⟨by go_simp, by go_simp, by go_simp, by go_simp, by go_simp⟩, by go_simp, by go_simp, bel⟩
 case round =>
  obtain ⟨j, vr, vw, cb, hj, rfl, hGr, hGw, hap, hX, hf3, hf4, hb⟩ := hrel;have Pr := P1.to hb;have Sr := qY S1 hb;have lp := qW Pr.1;have lg := qW hX.1;have HGR := qQ hGr; clear hGr;have HGW := qQ hGw; clear hGw;have HAP := qQ hap; clear hap;by_cases hlt : j < (qM p).length
  ·have HTr := qQ (qDJ (f := rdD) (l := zJ p) (j := j) (by rw [ul.out]; exact hlt))
   have HTw := qQ (qDJ (f := wrD) (l := zJ p) (j := j) (by rw [ul.out]; exact hlt));have HUJ := qQ (qTG hlt);have HIN := qQ (InOk.of_mem (List.getElem_mem hlt));have hww := qMT (x := (qM p)[j]) HV.out;obtain ⟨be, oe, cse, le, rfl, hble, hre, _, _, hce⟩ := (R1.out.below hb).sls_at In.d_size (k := j) hlt;have Ge := qQ hre;obtain ⟨A3e, c3e, d3e, rfl, rfl, g1e, g2e, g3e⟩ := Rep.in_iff.1 hre;have k0e := (hce 0 _ rfl).1; rw [Nat.add_zero] at k0e;have k1e := (hce 1 _ rfl).1;have k2e := (hce 2 _ rfl).1;have Q1e := qQ g1e;have Q2e := qQ g2e;have Q3e := qQ g3e;clear hce hre g1e g2e g3e;have HPr := qQ (HP.out.below Sr);go_wp2_with fail;refine (qTU (HPr.out.below bel) (Ge.out.below bel) HIN.out HV.out).mono ?_;rintro e w2 ⟨A6, c6, bs6, rfl, r6, nd6, hb6, b2⟩;have T2 : Below wr.heap.size wr w2 := bel;rw [<- HUJ.out] at r6 hww ⊢;obtain ⟨u, hu⟩ : ∃ u, u = (zJ p)[j]'(by rw [ul.out]; exact hlt) := ⟨_, rfl⟩;rw [<- hu] at r6 hww HTr HTw ⊢;clear hu;have R6 := qQ r6; clear r6;have HB6 := qQ (show ∀ y ∈ bs6, wr.heap.size <= y /\ y < w2.heap.size from fun y hy => ⟨qX (by simp) (hb6 y hy), Rep.lt _ R6.out y hy⟩);have X2 := hX.to T2;have f3 := (T2.frozen (p := ⟨w1.heap.size, 3, none⟩) lg).trans hf3;have f4 := (T2.frozen (p := ⟨w1.heap.size, 4, none⟩) lg).trans hf4;have lg2 := qW X2.1;have hz2 := T2.size;have hzr := Sr.size;have HGR2 := qQ (HGR.out.below T2);have HGW2 := qQ (HGW.out.below T2);have HF6 := qQ (show ∀ y ∈ bs6, y ∉ cb /\ vr.ownBlock ≠ some y /\ w1.heap.size + 1 <= y from fun y hy => by
    have h1 := (HB6.out y hy).1;exact ⟨fun hm => by have := (HGR.out.lt y hm).2; omega, fun hm => by have := (HGR.out.own y hm).2.1; omega, by omega⟩)
   have NOr : w1.heap.size ∉ ownL vr := fun hm => by have := (HGR.out.own _ (qU.1 hm)).1; omega
   have NOw : w1.heap.size ∉ ownL vw := fun hm => by have := (HGW.out.own _ (qU.1 hm)).1; omega
   have NO2 := qQ (show ∀ y, w2.heap.size <= y -> y ∉ ownL vr from fun y hy hm => by have := (HGR.out.own _ (qU.1 hm)).2.1; omega);have NOv := qQ (show ∀ v4 w4, Grew w2 w4 vr v4 -> ∀ y, v4.ownBlock = some y -> y ∉ ownL vw from fun v4 w4 hh y hy hm => by
    have h1 := (HGW.out.own _ (qU.1 hm)).2.1;rcases hh.own y hy with h2 | h2
    ·exact HAP.out.o y h2 (qU.1 hm)
    ·omega)
   have NOc := qQ (show ∀ y ∈ cb ++ bs6, y ∉ ownL vw from fun y hy hm => by
    rcases List.mem_append.1 hy with hy | hy
    ·exact HAP.out.c y (qU.1 hm) hy
    ·have h1 := (HGW.out.own _ (qU.1 hm)).2.1
     have := (HB6.out y hy).1; omega)
   have APS := qQ (show ∀ (v4 v6 : Value) (w4 w6 : World), Grew w2 w4 vr v4 -> (∀ y, v4.ownBlock = some y -> y < w4.heap.size) -> Grew w4 w6 vw v6 -> Apart v4 v6 (cb ++ bs6) from fun v4 v6 w4 w6 hh4 hl hh6 =>
    HAP.out.step (N0 := wr.heap.size) (N1 := w2.heap.size) (fun y hy => (HGW.out.own y hy).2.1) (fun y hy => (HGR.out.lt y hy).2) hh4.own hz2 hl (fun y hy => ⟨(HB6.out y hy).1, qZ (HB6.out y hy).2 hh4.touch.size⟩) (qX hz2 hh4.touch.size) hh6.own (qJ _))
   have ZS := qQ (show ∀ (v4 v6 : Value) (w4 w6 : World), Grew w2 w4 vr v4 -> Grew w4 w6 vw v6 -> Below w1.heap.size w1 w6 from fun v4 v6 w4 w6 hh4 hh6 =>
    ((qY hb T2).trans (hh4.below (by omega) (fun y hy => by have := (HGR.out.own y hy).1; omega))).trans (hh6.below (by have := hh4.touch.size; omega) (fun y hy => by have := (HGW.out.own y hy).1; omega)))
   clear hX hf3 hf4 hb6 b2;go_wp2_with fail;refine wp_region_noPanic ?_;refine zM (S := fun w' => w'.cell? ⟨w1.heap.size, 3, none⟩ = some vr /\ w'.cell? ⟨w1.heap.size, 4, none⟩ = some vw) 18 (by kernel_rfl) (⟨by have := X2.2.2.2.1; go_simp, by have := X2.2.2.2.2; go_simp⟩) (fun hHeld => ?_);refine goU 0 (fun _ => hHeld) ?_;refine goU 1 (fun _ => hHeld) ?_;refine goU 2 (fun _ => hHeld) ?_;refine goU 3 (fun _ => hHeld) ?_;refine goU 4 (fun _ => hHeld) ?_;refine goT 5 hHeld ?_;refine goU 6 (fun _ => hHeld) ?_;refine goU 9 (fun _ => hHeld) ?_;refine goU 10 (fun _ => hHeld) ?_;refine goU 11 (fun _ => hHeld) ?_;refine goT 12 hHeld ?_;refine goU 13 (fun _ => hHeld) ?_;refine qS (rs := [7, 14]) (by kernel_rfl) (by simp) (all2 ?_ ?_)
   ·refine opT (i := 7) rfl (qK rfl) (fun K hK => ?_)
    (unfold Oper.wp; go_simp)
    refine hK.out _ _ (⟨jH hHeld.1, jH hHeld.2⟩) (fun hHeld => ?_);clear hK K
    try simp only [Act.put, aq0, aq1, aq2]
    refine qS (rs := [8, 14]) (by kernel_rfl) (by simp) (all2 ?_ ?_)
    ·refine opT (i := 8) rfl (qK rfl) (fun K hK => ?_)
     (refine xN (.tmp 39) (.tmp 41) _ rfl _ Tryz.underlying91 Tryz.infoInts rfl (by decide) rfl (HGR2.out.below ?hbw) rfl (R6.out.below ?hbv) nd6 HF6.out ?hc rfl ?h1 ?hlen ?hba ?_; (case hbw => exact bel); (case hbv => exact bel); (case hc => (intro jj vv hv; rcases jj with _ | jj <;> simp at hv; (subst hv; go_simp))); (case h1 => simp [Value.oneCell']); (case hlen => (simp only [List.length_map, List.length_take]; have := ul.out; omega)); (case hba => (simp; omega)); intro v4 w4 hG4 hg4; obtain ⟨A4, c4, hf4, _, _⟩ := hG4.grow.form; subst hf4; have HGg := qQ hg4; have hh4 : Grew w2 w4 vr _ := hg4.after bel; have X4 := hh4.touch.box5 X2 NOr; have f43 := (hh4.touch.frozen (o := 3) lg2 NOr).trans f3; have f44 := (hh4.touch.frozen (o := 4) lg2 NOr).trans f4; have HG4 := qQ hG4; have HW4 := qQ (HGW2.out.touch hh4.touch (fun y hy hm => HAP.out.o y (qU.1 hm) hy) (by simp)); have hz4 := hh4.touch.size; have lg4 := qW X4.1; have HH4 := qQ hh4; clear hG4 hg4 hh4)
     refine hK.out _ _ (⟨X4.2.2.2.1, X4.2.2.2.2⟩) (fun hHeld => ?_);clear hK K
     try simp only [Act.put, aq0, aq1, aq2]
     refine qS (rs := [14]) (by kernel_rfl) (by simp) (all1 ?_);refine opT (i := 14) rfl (qK rfl) (fun K hK => ?_)
     (unfold Oper.wp; go_simp)
     refine hK.out _ _ (⟨jH hHeld.1, jH hHeld.2⟩) (fun hHeld => ?_);clear hK K
     try simp only [Act.put, aq0, aq1, aq2]
     refine qS (rs := [15]) (by kernel_rfl) (by simp) (all1 ?_);refine opT (i := 15) rfl (qK rfl) (fun K hK => ?_)
     (refine xN (.tmp 46) (.tmp 48) _ rfl _ Tryz.underlying39 Tryz.infoInt rfl (by decide) rfl (HW4.out.below ?hbw) rfl (show Rep _ (wrD u) [.int .i64 u.write] [] from ⟨rfl, rfl, hww⟩) (by simp) (by simp) ?hc rfl ?h1 ?hlen ?hba ?_; (case hbw => exact bel); (case hc => (intro jj vv hv; rcases jj with _ | jj <;> simp at hv; (subst hv; first | (go_simp; done) | (rw [HGg.out.touch.cell (by (simp <;> omega)) (NO2.out _ (by omega))]; go_simp; done)))); (case h1 => simp [Value.oneCell']); (case hlen => (simp only [List.length_map, List.length_take]; have := ul.out; omega)); (case hba => first | omega | (simp; omega)); intro v6 w6 hG6 hg6; obtain ⟨A7, c7, hf6, _, _⟩ := hG6.grow.form; subst hf6; have hh6 : Grew w4 w6 vw _ := hg6.after bel; have X6 := hh6.touch.box5 X4 NOw; have f63 := (hh6.touch.frozen (o := 3) lg4 NOw).trans f43; have f64 := (hh6.touch.frozen (o := 4) lg4 NOw).trans f44; have HG6 := qQ hG6; have HR6 := qQ (HG4.out.touch hh6.touch (NOv.out _ _ HH4.out) NOc.out); have lg6 := qW X6.1; have HAP6 := qQ (APS.out _ _ _ _ HH4.out (fun y hy => (HG4.out.own y hy).2.1) hh6); have Z6 := qQ (ZS.out _ _ _ _ HH4.out hh6); obtain ⟨y0, y1, y2, y3, y4⟩ := X6; clear hG6 hg6 hh6 X4)
     refine hK.out _ _ (⟨y3, y4⟩) (fun hHeld => ?_);clear hK K
     try simp only [Act.put, aq0, aq1, aq2]
     refine goU 16 (fun _ => hHeld) ?_;refine goU 17 (fun _ => hHeld) ?_;refine qS (rs := [18]) (by kernel_rfl) (by simp) (all1 ?_);refine opTT (i := 18) rfl (qK rfl) (by kernel_rfl) (fun K hK => ?_)
     (unfold Oper.wp; go_simp)
     refine hK.out _ _ ?_;clear hK K
     try simp only [Act.put, aq0, aq1, aq2]
     refine goU 19 (fun h => absurd h (by decide)) ?_;refine goU 20 (fun h => absurd h (by decide)) ?_;refine qS (rs := [21]) (by kernel_rfl) (by simp) (all1 ?_);refine opTT (i := 21) rfl (qK rfl) (by kernel_rfl) (fun K hK => ?_)
     (unfold Oper.wp; go_simp)
     refine hK.out _ _ ?_;clear hK K
     try simp only [Act.put, aq0, aq1, aq2]
     refine qI (by kernel_rfl) ?_ _;refine NoPanic.normal ?_
     (go_wp2; go_roundw; (case rel => (refine ⟨j + 1, _, _, cb ++ bs6, by omega, by go_num, ?_, ?_, HAP6.out, ⟨by go_simp, by go_simp, by go_simp, by go_simp, by go_simp⟩, by go_simp, by go_simp, (Z6.out.setCell (by simp) _).setCell (by simp) _⟩; (rw [HTr.out]; exact (HR6.out.set_low (by simp) _).set_low (by simp) _); (rw [HTw.out]; exact (HG6.out.set_low (by simp) _).set_low (by simp) _))); (case measure => (simp [intOf]; omega)))
    ·refine opT (i := 14) rfl (qK rfl) (fun K hK => ?_)
     (unfold Oper.wp; go_simp)
     refine hK.out _ _ (⟨jH hHeld.1, jH hHeld.2⟩) (fun hHeld => ?_);clear hK K
     try simp only [Act.put, aq0, aq1, aq2]
     refine qS (rs := [8]) (by kernel_rfl) (by simp) (all1 ?_);refine opT (i := 8) rfl (qK rfl) (fun K hK => ?_)
     (refine xN (.tmp 39) (.tmp 41) _ rfl _ Tryz.underlying91 Tryz.infoInts rfl (by decide) rfl (HGR2.out.below ?hbw) rfl (R6.out.below ?hbv) nd6 HF6.out ?hc rfl ?h1 ?hlen ?hba ?_; (case hbw => exact bel); (case hbv => exact bel); (case hc => (intro jj vv hv; rcases jj with _ | jj <;> simp at hv; (subst hv; go_simp))); (case h1 => simp [Value.oneCell']); (case hlen => (simp only [List.length_map, List.length_take]; have := ul.out; omega)); (case hba => (simp; omega)); intro v4 w4 hG4 hg4; obtain ⟨A4, c4, hf4, _, _⟩ := hG4.grow.form; subst hf4; have HGg := qQ hg4; have hh4 : Grew w2 w4 vr _ := hg4.after bel; have X4 := hh4.touch.box5 X2 NOr; have f43 := (hh4.touch.frozen (o := 3) lg2 NOr).trans f3; have f44 := (hh4.touch.frozen (o := 4) lg2 NOr).trans f4; have HG4 := qQ hG4; have HW4 := qQ (HGW2.out.touch hh4.touch (fun y hy hm => HAP.out.o y (qU.1 hm) hy) (by simp)); have hz4 := hh4.touch.size; have lg4 := qW X4.1; have HH4 := qQ hh4; clear hG4 hg4 hh4)
     refine hK.out _ _ (⟨X4.2.2.2.1, X4.2.2.2.2⟩) (fun hHeld => ?_);clear hK K
     try simp only [Act.put, aq0, aq1, aq2]
     refine qS (rs := [15]) (by kernel_rfl) (by simp) (all1 ?_);refine opT (i := 15) rfl (qK rfl) (fun K hK => ?_)
     (refine xN (.tmp 46) (.tmp 48) _ rfl _ Tryz.underlying39 Tryz.infoInt rfl (by decide) rfl (HW4.out.below ?hbw) rfl (show Rep _ (wrD u) [.int .i64 u.write] [] from ⟨rfl, rfl, hww⟩) (by simp) (by simp) ?hc rfl ?h1 ?hlen ?hba ?_; (case hbw => exact bel); (case hc => (intro jj vv hv; rcases jj with _ | jj <;> simp at hv; (subst hv; first | (go_simp; done) | (rw [HGg.out.touch.cell (by (simp <;> omega)) (NO2.out _ (by omega))]; go_simp; done)))); (case h1 => simp [Value.oneCell']); (case hlen => (simp only [List.length_map, List.length_take]; have := ul.out; omega)); (case hba => first | omega | (simp; omega)); intro v6 w6 hG6 hg6; obtain ⟨A7, c7, hf6, _, _⟩ := hG6.grow.form; subst hf6; have hh6 : Grew w4 w6 vw _ := hg6.after bel; have X6 := hh6.touch.box5 X4 NOw; have f63 := (hh6.touch.frozen (o := 3) lg4 NOw).trans f43; have f64 := (hh6.touch.frozen (o := 4) lg4 NOw).trans f44; have HG6 := qQ hG6; have HR6 := qQ (HG4.out.touch hh6.touch (NOv.out _ _ HH4.out) NOc.out); have lg6 := qW X6.1; have HAP6 := qQ (APS.out _ _ _ _ HH4.out (fun y hy => (HG4.out.own y hy).2.1) hh6); have Z6 := qQ (ZS.out _ _ _ _ HH4.out hh6); obtain ⟨y0, y1, y2, y3, y4⟩ := X6; clear hG6 hg6 hh6 X4)
     refine hK.out _ _ (⟨y3, y4⟩) (fun hHeld => ?_);clear hK K
     try simp only [Act.put, aq0, aq1, aq2]
     refine goU 16 (fun _ => hHeld) ?_;refine goU 17 (fun _ => hHeld) ?_;refine qS (rs := [18]) (by kernel_rfl) (by simp) (all1 ?_);refine opTT (i := 18) rfl (qK rfl) (by kernel_rfl) (fun K hK => ?_)
     (unfold Oper.wp; go_simp)
     refine hK.out _ _ ?_;clear hK K
     try simp only [Act.put, aq0, aq1, aq2]
     refine goU 19 (fun h => absurd h (by decide)) ?_;refine goU 20 (fun h => absurd h (by decide)) ?_;refine qS (rs := [21]) (by kernel_rfl) (by simp) (all1 ?_);refine opTT (i := 21) rfl (qK rfl) (by kernel_rfl) (fun K hK => ?_)
     (unfold Oper.wp; go_simp)
     refine hK.out _ _ ?_;clear hK K
     try simp only [Act.put, aq0, aq1, aq2]
     refine qI (by kernel_rfl) ?_ _;refine NoPanic.normal ?_
     (go_wp2; go_roundw; (case rel => (refine ⟨j + 1, _, _, cb ++ bs6, by omega, by go_num, ?_, ?_, HAP6.out, ⟨by go_simp, by go_simp, by go_simp, by go_simp, by go_simp⟩, by go_simp, by go_simp, (Z6.out.setCell (by simp) _).setCell (by simp) _⟩; (rw [HTr.out]; exact (HR6.out.set_low (by simp) _).set_low (by simp) _); (rw [HTw.out]; exact (HG6.out.set_low (by simp) _).set_low (by simp) _))); (case measure => (simp [intOf]; omega)))
   ·refine opT (i := 14) rfl (qK rfl) (fun K hK => ?_)
    (unfold Oper.wp; go_simp)
    refine hK.out _ _ (⟨jH hHeld.1, jH hHeld.2⟩) (fun hHeld => ?_);clear hK K
    try simp only [Act.put, aq0, aq1, aq2]
    refine qS (rs := [7]) (by kernel_rfl) (by simp) (all1 ?_);refine opT (i := 7) rfl (qK rfl) (fun K hK => ?_)
    (unfold Oper.wp; go_simp)
    refine hK.out _ _ (⟨jH hHeld.1, jH hHeld.2⟩) (fun hHeld => ?_);clear hK K
    try simp only [Act.put, aq0, aq1, aq2]
    refine qS (rs := [8]) (by kernel_rfl) (by simp) (all1 ?_);refine opT (i := 8) rfl (qK rfl) (fun K hK => ?_)
    (refine xN (.tmp 39) (.tmp 41) _ rfl _ Tryz.underlying91 Tryz.infoInts rfl (by decide) rfl (HGR2.out.below ?hbw) rfl (R6.out.below ?hbv) nd6 HF6.out ?hc rfl ?h1 ?hlen ?hba ?_; (case hbw => exact bel); (case hbv => exact bel); (case hc => (intro jj vv hv; rcases jj with _ | jj <;> simp at hv; (subst hv; go_simp))); (case h1 => simp [Value.oneCell']); (case hlen => (simp only [List.length_map, List.length_take]; have := ul.out; omega)); (case hba => (simp; omega)); intro v4 w4 hG4 hg4; obtain ⟨A4, c4, hf4, _, _⟩ := hG4.grow.form; subst hf4; have HGg := qQ hg4; have hh4 : Grew w2 w4 vr _ := hg4.after bel; have X4 := hh4.touch.box5 X2 NOr; have f43 := (hh4.touch.frozen (o := 3) lg2 NOr).trans f3; have f44 := (hh4.touch.frozen (o := 4) lg2 NOr).trans f4; have HG4 := qQ hG4; have HW4 := qQ (HGW2.out.touch hh4.touch (fun y hy hm => HAP.out.o y (qU.1 hm) hy) (by simp)); have hz4 := hh4.touch.size; have lg4 := qW X4.1; have HH4 := qQ hh4; clear hG4 hg4 hh4)
    refine hK.out _ _ (⟨X4.2.2.2.1, X4.2.2.2.2⟩) (fun hHeld => ?_);clear hK K
    try simp only [Act.put, aq0, aq1, aq2]
    refine qS (rs := [15]) (by kernel_rfl) (by simp) (all1 ?_);refine opT (i := 15) rfl (qK rfl) (fun K hK => ?_)
    (refine xN (.tmp 46) (.tmp 48) _ rfl _ Tryz.underlying39 Tryz.infoInt rfl (by decide) rfl (HW4.out.below ?hbw) rfl (show Rep _ (wrD u) [.int .i64 u.write] [] from ⟨rfl, rfl, hww⟩) (by simp) (by simp) ?hc rfl ?h1 ?hlen ?hba ?_; (case hbw => exact bel); (case hc => (intro jj vv hv; rcases jj with _ | jj <;> simp at hv; (subst hv; first | (go_simp; done) | (rw [HGg.out.touch.cell (by (simp <;> omega)) (NO2.out _ (by omega))]; go_simp; done)))); (case h1 => simp [Value.oneCell']); (case hlen => (simp only [List.length_map, List.length_take]; have := ul.out; omega)); (case hba => first | omega | (simp; omega)); intro v6 w6 hG6 hg6; obtain ⟨A7, c7, hf6, _, _⟩ := hG6.grow.form; subst hf6; have hh6 : Grew w4 w6 vw _ := hg6.after bel; have X6 := hh6.touch.box5 X4 NOw; have f63 := (hh6.touch.frozen (o := 3) lg4 NOw).trans f43; have f64 := (hh6.touch.frozen (o := 4) lg4 NOw).trans f44; have HG6 := qQ hG6; have HR6 := qQ (HG4.out.touch hh6.touch (NOv.out _ _ HH4.out) NOc.out); have lg6 := qW X6.1; have HAP6 := qQ (APS.out _ _ _ _ HH4.out (fun y hy => (HG4.out.own y hy).2.1) hh6); have Z6 := qQ (ZS.out _ _ _ _ HH4.out hh6); obtain ⟨y0, y1, y2, y3, y4⟩ := X6; clear hG6 hg6 hh6 X4)
    refine hK.out _ _ (⟨y3, y4⟩) (fun hHeld => ?_);clear hK K
    try simp only [Act.put, aq0, aq1, aq2]
    refine goU 16 (fun _ => hHeld) ?_;refine goU 17 (fun _ => hHeld) ?_;refine qS (rs := [18]) (by kernel_rfl) (by simp) (all1 ?_);refine opTT (i := 18) rfl (qK rfl) (by kernel_rfl) (fun K hK => ?_)
    (unfold Oper.wp; go_simp)
    refine hK.out _ _ ?_;clear hK K
    try simp only [Act.put, aq0, aq1, aq2]
    refine goU 19 (fun h => absurd h (by decide)) ?_;refine goU 20 (fun h => absurd h (by decide)) ?_;refine qS (rs := [21]) (by kernel_rfl) (by simp) (all1 ?_);refine opTT (i := 21) rfl (qK rfl) (by kernel_rfl) (fun K hK => ?_)
    (unfold Oper.wp; go_simp)
    refine hK.out _ _ ?_;clear hK K
    try simp only [Act.put, aq0, aq1, aq2]
    refine qI (by kernel_rfl) ?_ _;refine NoPanic.normal ?_
    (go_wp2; go_roundw; (case rel => (refine ⟨j + 1, _, _, cb ++ bs6, by omega, by go_num, ?_, ?_, HAP6.out, ⟨by go_simp, by go_simp, by go_simp, by go_simp, by go_simp⟩, by go_simp, by go_simp, (Z6.out.setCell (by simp) _).setCell (by simp) _⟩; (rw [HTr.out]; exact (HR6.out.set_low (by simp) _).set_low (by simp) _); (rw [HTw.out]; exact (HG6.out.set_low (by simp) _).set_low (by simp) _))); (case measure => (simp [intOf]; omega)))
  ·have hjj : j = (qM p).length := by omega
   subst hjj;obtain ⟨A4, c4, bs4, rfl, q4, _⟩ := HGR.out.grow.rep;obtain ⟨A5, c5, bs5, rfl, q5, _⟩ := HGW.out.grow.rep;rw [show (qM p).length = (zJ p).length from ul.out.symm, List.take_length] at q4 q5 hX;rw [show (qM p).length = (zJ p).length from ul.out.symm];simp only [List.length_map] at q4 q5 hX;have HX := qQ hX;have Q4 := qQ q4;have Q5 := qQ q5;clear q4 q5 hX;go_wp2;go_ret2;refine ⟨w1.heap.size, rfl, ⟨A1, A2, A3, A4, A5, c1, c2, c3, c4, c5, _, _, _, _, ?_, HP.out.below Sr, R1.out.below hb, Q4.out, Q5.out, HFR.out⟩, hz1, Sr⟩;rw [<- ul.out]; exact HX.out
theorem qBW {w : World} {p : Pgm} {cs : List Value} {bs : List Nat} (h : Rep w p.d cs bs) (hv : zK p = true) :
  Calls Tryz.prog 51 #[.agg cs.toArray] w fun e w' => ∃ g, e = .returned (.tuple #[.pointer (some ⟨g, 0, none⟩), .bool true]) /\ Trc w' p g /\ w.heap.size <= g /\ Below w.heap.size w w' :=
 (qML h hv).mono fun _ _ ⟨g, h1, h2, h3, h4⟩ => ⟨g, h1, h2.trc, h3, h4⟩
def qRN (w : World) (l : List Us) (e : Ending) (w' : World) : Prop :=
 ∃ A c bs, e = .returned (.slice A l.length c) /\ Rep w' (sls Us.d l) [.slice A l.length c] bs /\ (∀ b ∈ bs, w.heap.size <= b) /\ Below w.heap.size w w'
theorem qQQ {p : Pgm} {j : Nat} (h : j < (qM p).length) : j < (zJ p).length := by rw [vE]; exact h
theorem qSV {p : Pgm} {j : Nat} (h : j < (qM p).length) : (zJ p)[j]'(qQQ h) = useF p (qM p)[j] := by simp [zJ]
theorem qPL {α β : Type} {f : α -> β} {l : List α} {j : Nat} (h : j < l.length) : (l.take (j + 1)).map f = (l.take j).map f ++ [f l[j]] := by
 rw [List.take_succ_eq_append_getElem h, List.map_append]; rfl
theorem Tryz.infoUse : (Tryz.prog.info? 147).map (fun i => (i.zero, i.size, decide (i.bytes <= 1024))) = some (some (.agg #[.slice none 0 0, .int .i64 0]), 2, true) := by kernel_rfl
theorem qNA {w : World} {p : Pgm} {cs : List Value} {bs : List Nat} (h : Rep w p.d cs bs) (hv : zK p = true) :
  Calls Tryz.prog 97 #[.agg cs.toArray] w (qRN w (zJ p)) := by
 have HLT := qQ (Rep.lt _ h);have HP := qQ h;obtain ⟨A1, c1, A2, c2, d1, d2, rfl, rfl, g1, g2⟩ := Rep.pgm_iff.1 h;have Garrays := qQ g1;have Gparts := qQ g2;clear h g1 g2;have hln := (zN hv).2.2;have HV := qQ hv; clear hv;have ul := qQ (vE p);go_enter Tryz.func97, Tryz.ntmps97;have hge : (Value.slice (some ⟨w.heap.size + 1, 0, none⟩) 0 0).ownBlock = some (w.heap.size + 1) := rfl;go_wp2_with fail;refine (qZI (HP.out.below bel) HV.out).mono ?_;rintro e w1 ⟨A3, n3, c3, bs3, rfl, r1, _, hb13, b1⟩;have P1 : Box2 w1 w.heap.size (.slice A1 p.arrays.length c1) (.slice A2 p.parts.length c2) := by
  refine ⟨?_, ?_⟩ <;> (rw [b1.cell (by simp [World.setCell]; try omega)]; go_simp)
 have S1 : Below w.heap.size w w1 := bel;obtain ⟨rfl, _, _⟩ := r1.sls_len;have HB3 := qQ (show ∀ y ∈ bs3, w.heap.size + 2 <= y /\ y < w1.heap.size from fun y hy => ⟨by have := hb13 y hy; simp at this; omega, Rep.lt _ r1 y hy⟩);have R1 := qQ r1; clear r1 hb13;obtain ⟨U0, hU0⟩ : ∃ U0, U0 = Value.slice (some ⟨w.heap.size + 1, 0, none⟩) 0 0 := ⟨_, rfl⟩;have HU1 := qQ (show Grow w1 (w.heap.size + 1) 147 2 U0 [] by rw [hU0]; exact Grow.below (Grow.madeE _ _ (by simp) (by simp)) b1);have HU := qQ (show ∀ y, U0.ownBlock = some y -> y = w.heap.size + 1 from fun y hy => by rw [hU0] at hy; simp [Value.ownBlock] at hy; omega);have HAP := qQ (show ∀ y ∈ bs3, U0.ownBlock ≠ some y from fun y hy e => by have := HU.out y e; have := (HB3.out y hy).1; omega);have HU0 := qQ hU0; clear hU0 b1 hge;have lp1 := qW P1.1;go_wp2;go_loopw [3, 5] (fun u i wr => ∃ j : Nat, j <= (qM p).length /\ i = .int .i64 j /\ Grow wr (w.heap.size + 1) 147 2 u (((zJ p).take j).map Us.d) /\ Grew w1 wr U0 u) (fun _ i _ => (qM p).length - (intOf i).toNat)
 case atStart => exact ⟨0, Nat.zero_le _, rfl, by rw [<- HU0.out]; simpa using HU1.out, by rw [<- HU0.out]; exact Grew.refl _ _⟩
 case round =>
  obtain ⟨j, hj, rfl, hG, hgr⟩ := hrel;have Sr : Below w.heap.size w wr := S1.trans (hgr.below S1.size fun b hb => by have := HU.out b hb; omega);have Pr := hgr.touch.box2 P1 (fun hm => by have := HU.out _ (qU.1 hm); omega);have lp := qW Pr.1;have HG := qQ hG; clear hG;have Hgr := qQ hgr; clear hgr;obtain ⟨Au, cu, hfu, _, _⟩ := HG.out.form;rw [List.length_map, List.length_take, show min j (zJ p).length = j by have := ul.out; omega] at hfu;by_cases hlt : j < (qM p).length
  ·have HT := qQ (qPL (f := Us.d) (qQQ hlt))
   have HUJ := qQ (qSV hlt);have hin := InOk.of_mem (List.getElem_mem hlt);have hfi := hin.fine HV.out;have hok := qQZ HV.out;obtain ⟨k, s, hpk, hss, hk, hs, e1, e2⟩ := hin.get;have HCF := qQ (show jW p.arrays (qM p)[j].point p.parts[k].body[s] = (((zJ p)[j]'(qQQ hlt)).reads, ((zJ p)[j]'(qQQ hlt)).write, true) by
    rw [HUJ.out, <- e2, qFL hfi.fine]; rfl)
   have hw : I64 ((zJ p)[j]'(qQQ hlt)).write := by
    rw [HUJ.out];have hcb := qXY hok;have := qQS (a := (stmF p (qM p)[j]).write) (pt := (qM p)[j].point) hok;show I64 (cellF p.arrays (stmF p (qM p)[j]).write (qM p)[j].point);unfold I64; omega
   have HSV := qQ (show zV p.parts[k].body[s] ((prtF p (qM p)[j].part).nest.length : Int) = true by rw [<- e2]; exact hfi.stm);have HPT := qQ hfi.pt;have HOK := qQ hok;clear hin hfi hok e1 e2;have RR := qQ (R1.out.grew Hgr.out HAP.out);have GPr := qQ (Gparts.out.below Sr);have GAr := qQ (Garrays.out.below Sr);obtain ⟨be, oe, cse, le, rfl, hble, hre, _, _, hce⟩ := RR.out.sls_at In.d_size (k := j) hlt;have Ge := qQ hre;obtain ⟨A3e, c3e, d3e, rfl, rfl, g1e, g2e, g3e⟩ := Rep.in_iff.1 hre;have k0e := (hce 0 _ rfl).1; rw [Nat.add_zero] at k0e;have k1e := (hce 1 _ rfl).1;have k2e := (hce 2 _ rfl).1;have Q1e := qQ g1e;have Q2e := qQ g2e;have Q3e := qQ g3e;clear hce hre g1e g2e g3e;rw [hpk] at k0e;rw [hss] at k1e;obtain ⟨bf, of, csf, lf, rfl, hblf, hrf, _, _, hcf⟩ := GPr.out.sls_at Prt.d_size (k := k) hk;have Gf := qQ hrf;obtain ⟨A1f, c1f, A2f, c2f, d1f, d2f, rfl, rfl, g1f, g2f⟩ := Rep.prt_iff.1 hrf;have k0f := (hcf 0 _ rfl).1; rw [Nat.add_zero] at k0f;have k1f := (hcf 1 _ rfl).1;have Q1f := qQ g1f;have Q2f := qQ g2f;clear hcf hrf g1f g2f;obtain ⟨bg, og, csg, lg, rfl, hblg, hrg, _, _, hcg⟩ := Q2f.out.sls_at Stm.d_size (k := s) hs;have Gg := qQ hrg;obtain ⟨A2g, c2g, A5g, c5g, A8g, c8g, A9g, c9g, d2g, d5g, d8g, d9g, rfl, rfl, g1g, g2g, g3g, g4g, g5g, g6g, g7g, g8g, g9g⟩ := Rep.stm_iff.1 hrg;have k0g := (hcg 0 _ rfl).1; rw [Nat.add_zero] at k0g;have k1g := (hcg 1 _ rfl).1;have k2g := (hcg 2 _ rfl).1;have k3g := (hcg 3 _ rfl).1;have k4g := (hcg 4 _ rfl).1;have k5g := (hcg 5 _ rfl).1;have k6g := (hcg 6 _ rfl).1;have k7g := (hcg 7 _ rfl).1;have k8g := (hcg 8 _ rfl).1;have Q1g := qQ g1g;have Q2g := qQ g2g;have Q3g := qQ g3g;have Q4g := qQ g4g;have Q5g := qQ g5g;have Q6g := qQ g6g;have Q7g := qQ g7g;have Q8g := qQ g8g;have Q9g := qQ g9g;clear hcg hrg g1g g2g g3g g4g g5g g6g g7g g8g g9g;obtain ⟨u, hu⟩ : ∃ u, u = (zJ p)[j]'(qQQ hlt) := ⟨_, rfl⟩;rw [<- hu] at HT HCF hw;clear hu hpk hss;subst hfu;go_wp2_with fail;refine wp_region_noPanic ?_;refine wp_region_held_drew (S := fun w' => w'.cell? ⟨w.heap.size, 0, none⟩ = some (.slice A1 p.arrays.length c1) /\ w'.cell? ⟨w.heap.size, 1, none⟩ = some (.slice (some ⟨bf, of, none⟩) p.parts.length c2) /\ w'.cell? ⟨be, oe + j * 3, none⟩ = some (.int .i64 (k : Int)) /\ w'.cell? ⟨be, oe + j * 3 + 1, none⟩ = some (.int .i64 (s : Int)) /\ w'.cell? ⟨be, oe + j * 3 + 2, none⟩ = some (.slice A3e (qM p)[j].point.length c3e) /\ w'.cell? ⟨bf, of + k * 2 + 1, none⟩ = some (.slice (some ⟨bg, og, none⟩) p.parts[k].body.length c2f) /\ w'.cell? ⟨bg, og + s * 9, none⟩ = some (.string p.parts[k].body[s].write.arr) /\ w'.cell? ⟨bg, og + s * 9 + 1, none⟩ = some (.slice A2g p.parts[k].body[s].write.subs.length c2g) /\ w'.cell? ⟨bg, og + s * 9 + 2, none⟩ = some (.int .i64 p.parts[k].body[s].value.kind) /\ w'.cell? ⟨bg, og + s * 9 + 3, none⟩ = some (.int .i64 p.parts[k].body[s].value.num) /\ w'.cell? ⟨bg, og + s * 9 + 4, none⟩ = some (.slice A5g p.parts[k].body[s].value.index.coefs.length c5g) /\ w'.cell? ⟨bg, og + s * 9 + 5, none⟩ = some (.int .i64 p.parts[k].body[s].value.index.const) /\ w'.cell? ⟨bg, og + s * 9 + 6, none⟩ = some (.string p.parts[k].body[s].value.read.arr) /\ w'.cell? ⟨bg, og + s * 9 + 7, none⟩ = some (.slice A8g p.parts[k].body[s].value.read.subs.length c8g) /\ w'.cell? ⟨bg, og + s * 9 + 8, none⟩ = some (.slice A9g p.parts[k].body[s].value.kids.length c9g)) (by kernel_rfl) (⟨Pr.1, Pr.2, k0e, k1e, k2e, k1f, k0g, k1g, k2g, k3g, k4g, k5g, k6g, k7g, k8g⟩) (fun hHeld => ?_)
   refine goR 0 hHeld ?_;refine goR 1 hHeld ?_;refine goR 2 hHeld ?_;refine goR 3 hHeld ?_;refine goR 4 hHeld ?_;refine goR 5 hHeld ?_;refine goR 6 hHeld ?_;refine goR 7 hHeld ?_;refine goR 8 hHeld ?_;refine goR 9 hHeld ?_;refine goR 10 hHeld ?_;refine goR 11 hHeld ?_;refine goR 12 hHeld ?_;refine goR 13 hHeld ?_;refine goR 14 hHeld ?_;refine goR 15 hHeld ?_;refine goR 16 hHeld ?_;refine goR 17 hHeld ?_;refine goR 18 hHeld ?_;refine goR 19 hHeld ?_;refine goR 20 hHeld ?_;refine goR 21 hHeld ?_;refine goR 22 hHeld ?_;refine goR 23 hHeld ?_;refine zF (i := 24) rfl (by kernel_rfl) (qK rfl) (fun K hK => ?_);go_simp
   (refine (qVE (GAr.out.drewN 1) (Gg.out.drewN 1) (Q3e.out.drewN 1) HOK.out HSV.out HPT.out).mono ?_; rintro e w2 ⟨A6, n6, c6, bs6, rfl, r6, nd6, hb6, b2⟩; rw [HCF.out] at r6 ⊢)
   go_wp2_with fail;refine hK.out _ _ (by obtain ⟨q0_, q1_, q2_, q3_, q4_, q5_, q6_, q7_, q8_, q9_, q10_, q11_, q12_, q13_, q14_⟩ := hHeld; exact ⟨qG q0_ b2, qG q1_ b2, qG q2_ b2, qG q3_ b2, qG q4_ b2, qG q5_ b2, qG q6_ b2, qG q7_ b2, qG q8_ b2, qG q9_ b2, qG q10_ b2, qG q11_ b2, qG q12_ b2, qG q13_ b2, qG q14_ b2⟩) (fun hHeld => ?_);clear hK K
   try simp only [Act.put, aq0, aq1, aq2]
   refine goR 25 hHeld ?_;refine goR 26 hHeld ?_;refine goR 27 hHeld ?_;refine goR 28 hHeld ?_;refine goR 29 hHeld ?_;refine goR 30 hHeld ?_;refine goR 31 hHeld ?_;refine wpAnyH_done (by kernel_rfl) ?_ _;refine NoPanic.normal ?_;have T2 : Below wr.heap.size wr w2 := qL b2;obtain ⟨rfl, _, _⟩ := r6.ints_len;have O6 := qQ (xV (N := w2.heap.size) (Rep.us_iff.2 ⟨A6, c6, bs6, rfl, rfl, r6, hw⟩) 147 rfl);have HB6 := qQ (show ∀ y ∈ bs6, wr.heap.size <= y from fun y hy => hb6 y hy);have hz2 := T2.size;have hzr := Sr.size;clear r6 hb6 b2;go_wp2_with (
    at_builtin;refine qT (w0 := wr) (B := w.heap.size + 1) (xs := ((zJ p).take j).map Us.d) (ys := [u.d]) rfl (.tmp 47) (.tmp 51) _ rfl _ Tryz.underlying143 Tryz.infoUse rfl (by decide) rfl HG.out ?hbw rfl O6.out ?hys nd6 HB6.out ?hlen ?hba ?_
    case hbw => exact bel
    case hys => intro y hy; simp only [List.mem_singleton] at hy; rw [hy]; rfl
    case hlen => simp; omega
    case hba => omega
    intro v4 w4 hG4 hg4)
   rw [<- HT.out] at hG4;have HG4 := qQ hG4;have g4 := qQ (Hgr.out.trans ((Grew.of_below (show Below wr.heap.size wr (w2.alloc (.cells #[.slice A6 u.reads.length c6, .int .i64 u.write] 147)) from T2.alloc T2.size _) _).trans hg4));clear hG4 hg4;go_wp2;go_roundw
   case rel => exact ⟨j + 1, by omega, by go_num, HG4.out, g4.out⟩
   case measure => simp [intOf]; omega
  ·have hjj : j = (qM p).length := by omega
   subst hjj;obtain ⟨A4, c4, bs4, he, q4, _, qb4⟩ := HG.out.rep;rw [show (qM p).length = (zJ p).length from ul.out.symm, List.take_length, List.length_map] at he q4;subst he;go_wp2;go_ret;exact ⟨A4, c4, bs4, rfl, q4, fun b hb => by have := qb4 b hb; omega, Sr⟩
section
variable {w : World} {xs : List Int} {v : Int} {A : Option Addr} {n c : Nat} {bs : List Nat}
def eqv (v : Int) (x : Int) : Bool := v == x
theorem qLA (xs : List Int) (v : Int) : xs.any (eqv v) = xs.contains v := by
 induction xs with
 | nil => rfl
 | cons x xs ih => rw [List.any_cons, ih, List.contains_cons]; rfl
theorem qFP (h : Rep w (ints xs) [.slice A n c] bs) :
  Calls Tryz.prog 190 #[.slice A n c, .int .i64 v] w fun e w' => e = .returned (.int .i64 (idxI (eqv v) xs 0)) /\ w = w' := by
 obtain ⟨rfl, h2, h3⟩ := h.ints_len;have hn : xs.length <= 9223372036854775807 := qX h2 h3;clear h2 h3;go_enter Tryz.func190, Tryz.ntmps190;go_wp2;go_loop [8] (fun i => ∃ j : Nat, j <= xs.length /\ i = .int .i64 j /\ idxI (eqv v) xs 0 = idxI (eqv v) (xs.drop j) j) (fun i => xs.length - (intOf i).toNat)
 case atStart => exact ⟨0, Nat.zero_le _, rfl, by simp⟩
 case round =>
  obtain ⟨j, hj, rfl, hi⟩ := hrel;have HI := qQ hi; clear hi;by_cases hlt : j < xs.length
  ·obtain ⟨b, o, rfl, _, _, hc, _⟩ := h.ints_at hlt
   have hd := qQ (wN (eqv v) xs j hlt);rw [vB hlt] at hc;by_cases hpx : v = xs[j]
   ·have hd2 := qQ (hd.out.trans (if_pos (by simp [eqv, hpx])))
    have q1 : (v == xs[j]) = true := vV hpx;clear hpx;go_wp2;go_ret;exact ⟨qF (by rw [HI.out, hd2.out]), rfl⟩
   ·have hd2 := qQ (hd.out.trans (if_neg (by simp [eqv, hpx])))
    have q1 : (v == xs[j]) = false := uF hpx;clear hpx;go_wp2;go_round
    case rel => exact ⟨j + 1, by omega, by go_num, by rw [HI.out, hd2.out]⟩
    case measure => simp [intOf]; omega
  ·have hjj : j = xs.length := by omega
   subst hjj;go_wp2;go_ret;exact ⟨qF (by rw [HI.out]; simp [idxI]), rfl⟩
theorem qZQ (h : Rep w (ints xs) [.slice A n c] bs) :
  Calls Tryz.prog 150 #[.slice A n c, .int .i64 v] w fun e w' => e = .returned (.bool (xs.contains v)) /\ w = w' := by
 have HX := qQ (qLA xs v);have HI := qQ (qQF (eqv v) xs 0 (Int.le_refl _));go_enter Tryz.func150, Tryz.ntmps150;go_wp2_with fail;refine (qFP h).mono ?_;rintro e w' ⟨rfl, rfl⟩;go_wp2;go_ret;exact ⟨qH (HI.out.trans HX.out), rfl⟩
theorem qPR (h : Rep w (ints xs) [.slice A n c] bs) :
  Calls Tryz.prog 139 #[.slice A n c, .int .i64 v] w fun e w' => e = .returned (.bool (xs.contains v)) /\ w = w' := by
 obtain ⟨rfl, h2, h3⟩ := h.ints_len;have hn : xs.length <= 9223372036854775807 := qX h2 h3;clear h2 h3;have HX := qQ (qLA xs v);go_enter Tryz.func139, Tryz.ntmps139;go_wp2;go_loop [5] (fun i => ∃ j : Nat, j <= xs.length /\ i = .int .i64 j /\ xs.any (eqv v) = (xs.drop j).any (eqv v)) (fun i => xs.length - (intOf i).toNat)
 case atStart => exact ⟨0, Nat.zero_le _, rfl, by simp⟩
 case round =>
  obtain ⟨j, hj, rfl, hi⟩ := hrel;have HI := qQ hi; clear hi;by_cases hlt : j < xs.length
  ·obtain ⟨b, o, rfl, _, _, hc, _⟩ := h.ints_at hlt
   have hd := qQ (qVY (eqv v) xs j hlt);rw [vB hlt] at hc;by_cases hpx : v = xs[j]
   ·have hd2 := qQ (show xs.contains v = true by rw [<- HX.out, HI.out, hd.out, show eqv v xs[j] = true by simp [eqv, hpx], Bool.true_or])
    have q1 : (xs[j] == v) = true := vV hpx.symm;clear hpx;go_wp2;go_ret;exact ⟨qH (by have := hd2.out; simp at this; simp [this]), rfl⟩
   ·have hd2 := qQ (show xs.any (eqv v) = (xs.drop (j + 1)).any (eqv v) by rw [HI.out, hd.out, show eqv v xs[j] = false by simp [eqv, hpx], Bool.false_or])
    have q1 : (xs[j] == v) = false := uF (fun h => hpx h.symm);clear hpx;go_wp2;go_round
    case rel => exact ⟨j + 1, by omega, by go_num, hd2.out⟩
    case measure => simp [intOf]; omega
  ·have hjj : j = xs.length := by omega
   subst hjj;have hd2 := qQ (show xs.contains v = false by rw [<- HX.out, HI.out, List.drop_length]; rfl);go_wp2;go_ret;exact ⟨qH (by have := hd2.out; simp at this; simp [this]), rfl⟩
end
theorem Trc.open {w : World} {p : Pgm} {g : Nat} (h : Trc w p g) (hn : 0 < (zJ p).length) : ∃ (u0 u1 : Value) (A3 : Option Addr) (b4 o4 c3 c4 b5 o5 c5 : Nat), Box5 w g u0 u1 (.slice A3 (qM p).length c3) (.slice (some ⟨b4, o4, none⟩) (zJ p).length c4) (.slice (some ⟨b5, o5, none⟩) (zJ p).length c5) /\ b4 < w.heap.size /\ b5 < w.heap.size /\
  (∀ k, k < (zJ p).length -> ∃ A c bs, w.cell? ⟨b4, o4 + k, none⟩ = some (.slice A (nthU (zJ p) k).reads.length c) /\ Rep w (ints (nthU (zJ p) k).reads) [.slice A (nthU (zJ p) k).reads.length c] bs) /\
  ∀ k, k < (zJ p).length -> w.cell? ⟨b5, o5 + k, none⟩ = some (.int .i64 (nthU (zJ p) k).write) /\ I64 (nthU (zJ p) k).write := by
 obtain ⟨A1, A2, A3, A4, A5, c1, c2, c3, c4, c5, bs, bs3, bs4, bs5, h1, _, _, h4, h5⟩ := h;obtain ⟨b4, o4, _, _, rfl, hl4, _⟩ := h4.sls_at (s := 1) (fun _ => rfl) (k := 0) hn;obtain ⟨b5, o5, _, _, rfl, hl5, _⟩ := h5.sls_at (s := 1) (fun _ => rfl) (k := 0) hn;refine ⟨_, _, A3, b4, o4, c3, c4, b5, o5, c5, h1, hl4, hl5, fun k hk => ?_, fun k hk => ?_⟩
 ·obtain ⟨b, o, cs, l, he, hbl, hr, _, _, hc⟩ := h4.sls_at (s := 1) (fun _ => rfl) (k := k) hk
  obtain ⟨rfl, rfl⟩ : b4 = b /\ o4 = o := by simpa using he
  have hr' : Rep w (ints (zJ p)[k].reads) cs l := hr;obtain ⟨A, c, rfl⟩ := hr'.ints_form1;rw [qKK hk];have := (hc 0 _ rfl).1;rw [Nat.mul_one, Nat.add_zero] at this;exact ⟨A, c, l, this, hr'⟩
 ·obtain ⟨b, o, cs, l, he, hbl, hr, _, _, hc⟩ := h5.sls_at (s := 1) (fun _ => rfl) (k := k) hk
  obtain ⟨rfl, rfl⟩ : b5 = b /\ o5 = o := by simpa using he
  obtain ⟨rfl, rfl, hi⟩ : cs = [.int .i64 (zJ p)[k].write] /\ l = [] /\ I64 (zJ p)[k].write := hr;rw [qKK hk];have := (hc 0 _ rfl).1;rw [Nat.mul_one, Nat.add_zero] at this;exact ⟨this, hi⟩
theorem qUW {w : World} {p : Pgm} {g i j : Nat} (h : Trc w p g) (hi : i < (zJ p).length) (hj : j < (zJ p).length) :
  Calls Tryz.prog 101 #[.pointer (some ⟨g, 0, none⟩), .int .i64 (i : Int), .int .i64 (j : Int)] w fun e w' => e = .returned (.int .i64 (uS (nthU (zJ p) i) (nthU (zJ p) j))) /\ Below w.heap.size w w' := by
 obtain ⟨u0, u1, A3, b4, o4, c3, c4, b5, o5, c5, ⟨x0, x1, x2, x3, x4⟩, hl4, hl5, hR, hW⟩ := h.open (by omega);obtain ⟨Ai, ci, bsi, kri, ri⟩ := hR i hi;obtain ⟨Aj, cj, bsj, krj, rj⟩ := hR j hj;have kwi := (hW i hi).1;have kwj := (hW j hj).1;clear hR hW h;have RI := qQ ri; clear ri;have RJ := qQ rj; clear rj;obtain ⟨a, ha⟩ : ∃ a, a = nthU (zJ p) i := ⟨_, rfl⟩;obtain ⟨b, hb⟩ : ∃ b, b = nthU (zJ p) j := ⟨_, rfl⟩;rw [<- ha] at kri kwi RI ⊢;rw [<- hb] at krj kwj RJ ⊢;have HK := qQ (show uS a b = (if b.reads.contains a.write then 1 else 0) + (if a.reads.contains b.write then 2 else 0) + (if a.write = b.write then 4 else 0) from rfl);obtain ⟨m, hm⟩ : ∃ m, m = (zJ p).length := ⟨_, rfl⟩;rw [<- hm] at x3 x4 hi hj;clear ha hb hm x0 x1 x2
 cases h1 : b.reads.contains a.write <;> cases h2 : a.reads.contains b.write <;> by_cases h3 : a.write = b.write
 all_goals (
  have HX := HK.out;rw [h1, h2] at HX
  first | rw [if_pos h3] at HX | rw [if_neg h3] at HX
  have HH := qQ HX; clear HX HK;have H1 := qQ h1; clear h1;have H2 := qQ h2; clear h2;have q3 : (a.write == b.write) = decide (a.write = b.write) := by simp [h3]
  first | rw [decide_eq_true h3] at q3 | rw [decide_eq_false h3] at q3
  clear h3;go_enter Tryz.func101, Tryz.ntmps101;go_wp2_with fail;refine wp_region_noPanic ?_;refine wp_region_held_drew (S := fun w' => w'.cell? ⟨g, 3, none⟩ = some (.slice (some ⟨b4, o4, none⟩) m c4) /\ w'.cell? ⟨g, 4, none⟩ = some (.slice (some ⟨b5, o5, none⟩) m c5) /\ w'.cell? ⟨b4, o4 + j, none⟩ = some (.slice Aj b.reads.length cj) /\ w'.cell? ⟨b5, o5 + i, none⟩ = some (.int .i64 a.write)) (by kernel_rfl) (⟨x3, x4, krj, kwi⟩) (fun hHeld => ?_);refine goR 0 hHeld ?_;refine goR 1 hHeld ?_;refine goR 2 hHeld ?_;refine goR 3 hHeld ?_;refine goR 4 hHeld ?_;refine goR 5 hHeld ?_;refine goR 6 hHeld ?_;refine goR 7 hHeld ?_;refine goR 8 hHeld ?_;refine goR 9 hHeld ?_;refine goR 10 hHeld ?_;refine goR 11 hHeld ?_;refine goR 12 hHeld ?_;refine goR 13 hHeld ?_;refine zF (i := 14) rfl (by kernel_rfl) (qK rfl) (fun K hK => ?_);go_simp
  (refine (qZQ (RJ.out.drewN 1)).mono ?_; rintro e w' ⟨rfl, rfl⟩; rw [H1.out])
  go_wp2_with fail;refine hK.out _ _ (hHeld) (fun hHeld => ?_);clear hK K
  try simp only [Act.put, aq0, aq1, aq2]
  refine wpAnyH_done (by kernel_rfl) ?_ _;refine NoPanic.normal ?_;go_wp2_with fail;refine wp_region_noPanic ?_;refine wp_region_held_drew (S := fun w' => w'.cell? ⟨g, 3, none⟩ = some (.slice (some ⟨b4, o4, none⟩) m c4) /\ w'.cell? ⟨g, 4, none⟩ = some (.slice (some ⟨b5, o5, none⟩) m c5) /\ w'.cell? ⟨b4, o4 + i, none⟩ = some (.slice Ai a.reads.length ci) /\ w'.cell? ⟨b5, o5 + j, none⟩ = some (.int .i64 b.write)) (by kernel_rfl) (⟨x3, x4, kri, kwj⟩) (fun hHeld => ?_);refine goR 0 hHeld ?_;refine goR 1 hHeld ?_;refine goR 2 hHeld ?_;refine goR 3 hHeld ?_;refine goR 4 hHeld ?_;refine goR 5 hHeld ?_;refine goR 6 hHeld ?_;refine goR 7 hHeld ?_;refine goR 8 hHeld ?_;refine goR 9 hHeld ?_;refine goR 10 hHeld ?_;refine goR 11 hHeld ?_;refine goR 12 hHeld ?_;refine goR 13 hHeld ?_;refine zF (i := 14) rfl (by kernel_rfl) (qK rfl) (fun K hK => ?_);go_simp
  (refine (qZQ (RI.out.drewN 2)).mono ?_; rintro e w' ⟨rfl, rfl⟩; rw [H2.out])
  go_wp2_with fail;refine hK.out _ _ (hHeld) (fun hHeld => ?_);clear hK K
  try simp only [Act.put, aq0, aq1, aq2]
  refine wpAnyH_done (by kernel_rfl) ?_ _;refine NoPanic.normal ?_;go_wp2_with fail;go_quiet (fail);go_wp2;go_ret;refine ⟨qF (by rw [HH.out]; rfl), ?_⟩
  first | exact qE (qE (Below.refl _ _) _) _ | exact qE (Below.refl _ _) _)
theorem qGZ {w : World} {a b : Us} {cs cs' : List Value} {bs bs' : List Nat} (h : Rep w a.d cs bs) (h' : Rep w b.d cs' bs') :
  Calls Tryz.prog 98 #[.agg cs.toArray, .agg cs'.toArray] w fun e w' => e = .returned (.int .i64 (uS a b)) /\ Below w.heap.size w w' := by
 obtain ⟨A1, c1, d1, rfl, rfl, ha, hia⟩ := Rep.us_iff.1 h;obtain ⟨A2, c2, d2, rfl, rfl, hb, hib⟩ := Rep.us_iff.1 h';have RA := qQ ha; clear ha h hia;have RB := qQ hb; clear hb h' hib;have HK := qQ (show uS a b = (if b.reads.contains a.write then 1 else 0) + (if a.reads.contains b.write then 2 else 0) + (if a.write = b.write then 4 else 0) from rfl)
 cases h1 : b.reads.contains a.write <;> cases h2 : a.reads.contains b.write <;> by_cases h3 : a.write = b.write
 all_goals (
  have HX := HK.out;rw [h1, h2] at HX
  first | rw [if_pos h3] at HX | rw [if_neg h3] at HX
  have HH := qQ HX; clear HX HK;have H1 := qQ h1; clear h1;have H2 := qQ h2; clear h2;have q3 : (a.write == b.write) = decide (a.write = b.write) := by simp [h3]
  first | rw [decide_eq_true h3] at q3 | rw [decide_eq_false h3] at q3
  clear h3;go_enter Tryz.func98, Tryz.ntmps98;go_wp2_with fail;refine (qPR (RB.out.below bel)).mono ?_;rintro e w' ⟨rfl, rfl⟩;rw [H1.out];go_wp2_with fail;refine (qPR (RA.out.below bel)).mono ?_;rintro e w' ⟨rfl, rfl⟩;rw [H2.out];go_wp2;go_ret;exact ⟨qF (by rw [HH.out]; rfl), bel⟩)
def qQP (w : World) (l : List Dp) (e : Ending) (w' : World) : Prop :=
 ∃ A c bs, e = .returned (.slice A l.length c) /\ Rep w' (sls Dp.d l) [.slice A l.length c] bs /\ bs.Nodup /\ (∀ b ∈ bs, w.heap.size <= b) /\ Below w.heap.size w w'
theorem qQP.of_grow {w w' : World} {e : TypeId} {v : Value} {l : List Dp} {B : Nat} (h : Grow w' B e 3 v (l.map Dp.d)) (hB : w.heap.size <= B) (hb : Below w.heap.size w w') : qQP w l (.returned v) w' := by
 obtain ⟨A, c, bs, rfl, h1, h2, h3⟩ := h.rep;rw [List.length_map] at h1 ⊢;exact ⟨A, c, bs, rfl, h1, h2, fun b hb' => qX hB (h3 b hb'), hb⟩
theorem qTQ (us : List Us) (i : Nat) : yK us (i + 1) = yK us i ++ jT us i us.length := rfl
theorem qUJ (us : List Us) (i : Nat) : jT us i (i + 1) = [] := by unfold jT; rw [Nat.sub_self]; rfl
theorem qCC {us : List Us} {i k : Nat} (h : us.length <= 120) (hi : i <= us.length) (hk : k <= us.length) : (yK us i ++ jT us i k).length <= 20000 := by
 have h1 := qUQ (us := us) (n := i) hi;have h2 := qJZ us i (k - (i + 1)) (i + 1);have h3 := Nat.mul_le_mul (show i <= 120 by omega) h;rw [List.length_append];unfold jT;omega
theorem qBQ {w : World} {i k : Nat} {n : Int} (hi : i <= 120) (hk : k <= 120) (hn : 0 <= n /\ n <= 7) : Rep w (Dp.d ⟨(i : Int), (k : Int), n⟩) [.int .i64 (i : Int), .int .i64 (k : Int), .int .i64 n] [] :=
 Rep.dp_iff.2 ⟨rfl, rfl, by unfold I64; constructor <;> (simp only; omega), by unfold I64; constructor <;> (simp only; omega), by unfold I64; constructor <;> (simp only; omega)⟩
theorem qCB {w : World} {p : Pgm} {g : Nat} (h : Trc w p g) (hv : zK p = true) :
  Calls Tryz.prog 52 #[.pointer (some ⟨g, 0, none⟩)] w (qQP w (qKA (zJ p))) := by
 have hln := (zN hv).2.2;have ul := qQ (vE p);have HT := qQ h;obtain ⟨A1, A2, A3, A4, A5, c1, c2, c3, c4, c5, bs, bs3, bs4, bs5, ⟨_, _, x2, _, _⟩, _⟩ := h;have lg := qW x2;have hun : (zJ p).length <= 120 := by rw [ul.out]; exact hln
 go_enter Tryz.func52, Tryz.ntmps52;go_wp2;go_loopw [3, 12] (fun u i wr => ∃ a : Nat, a <= (qM p).length /\ i = .int .i64 a /\ Grow wr w.heap.size 86 3 u ((yK (zJ p) a).map Dp.d) /\ Below w.heap.size w wr) (fun _ i _ => (qM p).length - (intOf i).toNat)
 case atStart => exact ⟨0, Nat.zero_le _, rfl, Grow.nil _ _ _ _, bel⟩
 case round =>
  obtain ⟨a, ha, rfl, hG, hb⟩ := hrel;have HG := qQ hG; clear hG;by_cases hlt : a < (qM p).length
  case neg =>
   have hjj : a = (qM p).length := by omega
   subst hjj;have HG2 := qQ (show Grow wr w.heap.size 86 3 u3 ((qKA (zJ p)).map Dp.d) by rw [qKA, ul.out]; exact HG.out);obtain ⟨Au, cu, hfu, _, _⟩ := HG2.out.form;subst hfu;go_wp2;go_ret;exact qQP.of_grow HG2.out (qJ _) hb
  have x2r := qZD x2 hb;go_wp2;go_loopw [3, 5] (fun u i wv => ∃ k : Nat, a + 1 <= k /\ k <= (qM p).length /\ i = .int .i64 k /\ Grow wv w.heap.size 86 3 u ((yK (zJ p) a ++ jT (zJ p) a k).map Dp.d) /\ Below w.heap.size w wv) (fun _ i _ => (qM p).length - (intOf i).toNat)
  case atStart => exact ⟨a + 1, qJ _, hlt, by go_num, by rw [qUJ, List.append_nil]; exact HG.out, hb⟩
  case round =>
   obtain ⟨k, hak, hk, rfl, hG, hb2⟩ := hrel;clear HG x2r;have HG := qQ hG; clear hG;have x2r := qZD x2 hb2;have lgr := qW x2r;by_cases hkt : k < (qM p).length
   case neg =>
    have hkk : k = (qM p).length := by omega
    subst hkk;have HG2 := qQ (show Grow wr w.heap.size 86 3 u3 ((yK (zJ p) (a + 1)).map Dp.d) by rw [qTQ, ul.out]; exact HG.out);go_wp2;go_roundw
    case rel => exact ⟨a + 1, by omega, by go_num, HG2.out, bel⟩
    case measure => simp [intOf]; omega
   have hkd := qWQ (nthU (zJ p) a) (nthU (zJ p) k);have HN := qQ (qCC (i := a) (k := k) hun (by rw [ul.out]; omega) (by rw [ul.out]; omega));obtain ⟨DL, hDL⟩ : ∃ DL, DL = yK (zJ p) a ++ jT (zJ p) a k := ⟨_, rfl⟩;rw [<- hDL] at HG HN;have HDL := qQ hDL; clear hDL;obtain ⟨Au, cu, hfu, _, _⟩ := HG.out.form;rw [List.length_map] at hfu;by_cases hp : 0 < uS (nthU (zJ p) a) (nthU (zJ p) k)
   ·have HS := qQ (qUX (us := zJ p) (by omega) hp)
    have HD := qQ (fun (W : World) => qBQ (w := W) (i := a) (k := k) (by omega) (by omega) hkd);subst hfu;go_wp2_with fail;refine (qUW (HT.out.below (qY hb2 bel)) (by rw [ul.out]; exact hlt) (by rw [ul.out]; exact hkt)).mono ?_;rintro e w2 ⟨rfl, b2⟩;have T2 : Below wr.heap.size wr w2 := bel;clear b2;have O6 := qQ (xV (N := w2.heap.size) (HD.out w2) 86 rfl);have hbz : w.heap.size <= w2.heap.size := (qY hb2 T2).size;obtain ⟨v, hv⟩ : ∃ v, v = uS (nthU (zJ p) a) (nthU (zJ p) k) := ⟨_, rfl⟩;rw [<- hv] at hkd hp HS HD O6 ⊢;clear hv HD;go_wp2_with (
     at_builtin;refine qT (w0 := w2) (B := w.heap.size) (ys := [Dp.d ⟨(a : Int), (k : Int), v⟩]) rfl (.tmp 32) (.tmp 37) _ rfl _ Tryz.underlying81 Tryz.infoDep rfl (by decide) rfl (HG.out.below T2) ?hbw rfl O6.out ?hys (by simp) (by simp) ?hlen hbz ?_
     case hbw => exact bel
     case hys => intro y hy; simp only [List.mem_singleton] at hy; rw [hy]; rfl
     case hlen => have := HN.out; rw [List.length_map]; simp only [List.length_singleton]; omega
     intro v4 w4 hG4 hg4)
    have HG4 := qQ (show Grow w4 w.heap.size 86 3 v4 ((yK (zJ p) a ++ jT (zJ p) a (k + 1)).map Dp.d) by rw [HS.out, <- List.append_assoc, <- HDL.out, List.map_append]; exact hG4);have B4 : Below w.heap.size w w4 := ((qY hb2 T2).alloc hbz _).trans (hg4.below (by simp; omega) fun b hb => (HG.out.own_ge b hb).1);clear hG4 hg4;go_wp2;go_roundw
    case rel => exact ⟨k + 1, by omega, by omega, by go_num, HG4.out, B4⟩
    case measure => simp [intOf]; omega
   ·have HS := qQ (qDL (us := zJ p) (by omega) hp)
    go_wp2_with fail;refine (qUW (HT.out.below (qY hb2 bel)) (by rw [ul.out]; exact hlt) (by rw [ul.out]; exact hkt)).mono ?_;rintro e w2 ⟨rfl, b2⟩;have T2 : Below wr.heap.size wr w2 := bel;subst hfu;have HG4 := qQ (show Grow w2 w.heap.size 86 3 _ ((yK (zJ p) a ++ jT (zJ p) a (k + 1)).map Dp.d) by rw [HS.out, <- HDL.out]; exact HG.out.below T2);clear b2;go_wp2;go_roundw
    case rel => exact ⟨k + 1, by omega, by omega, by go_num, HG4.out, qY hb2 T2⟩
    case measure => simp [intOf]; omega
theorem qNE {w : World} {p : Pgm} {cs : List Value} {bs : List Nat} (h : Rep w p.d cs bs) (hv : zK p = true) :
  Calls Tryz.prog 50 #[.agg cs.toArray] w (qQP w (qKA (zJ p))) := by
 have hln := (zN hv).2.2;have hun : (zJ p).length <= 120 := by rw [vE p]; exact hln
 have HP := qQ h;obtain ⟨A1, c1, A2, c2, d1, d2, rfl, rfl, g1, g2⟩ := Rep.pgm_iff.1 h;have Garrays := qQ g1;have Gparts := qQ g2;clear h g1 g2;have HV := qQ hv; clear hv;go_enter Tryz.func50, Tryz.ntmps50;go_wp2_with fail;refine (qNA (HP.out.below bel) HV.out).mono ?_;rintro e w1 ⟨A3, c3, bs3, rfl, r1, hb13, b1⟩;have P1 : Box2 w1 w.heap.size (.slice A1 p.arrays.length c1) (.slice A2 p.parts.length c2) := by
  refine ⟨?_, ?_⟩ <;> (rw [b1.cell (by simp [World.setCell]; try omega)]; go_simp)
 have S1 : Below w.heap.size w w1 := bel;have HB3 := qQ (show ∀ y ∈ bs3, w.heap.size + 2 <= y /\ y < w1.heap.size from fun y hy => ⟨by have := hb13 y hy; simp at this; omega, Rep.lt _ r1 y hy⟩);have R1 := qQ r1; clear r1 hb13;obtain ⟨U0, hU0⟩ : ∃ U0, U0 = Value.slice (some ⟨w.heap.size + 1, 0, none⟩) 0 0 := ⟨_, rfl⟩;have HU1 := qQ (show Grow w1 (w.heap.size + 1) 86 3 U0 [] by rw [hU0]; exact Grow.below (Grow.madeE _ _ (by simp) (by simp)) b1);have HU := qQ (show ∀ y, U0.ownBlock = some y -> y = w.heap.size + 1 from fun y hy => by rw [hU0] at hy; simp [Value.ownBlock] at hy; omega);have HAP := qQ (show ∀ y ∈ bs3, U0.ownBlock ≠ some y from fun y hy e => by have := HU.out y e; have := (HB3.out y hy).1; omega);have hw1 : w.heap.size + 2 <= w1.heap.size := by have := b1.size; simp at this; omega
 have HU0 := qQ hU0; clear hU0 b1 P1;obtain ⟨us, hus⟩ : ∃ us, us = zJ p := ⟨_, rfl⟩;rw [<- hus] at R1 hun ⊢;have HUS := qQ hus;clear hus;have hs1 := S1.size;go_wp2;go_loopw [3, 5] (fun u i wr => ∃ a : Nat, a <= us.length /\ i = .int .i64 a /\ Grow wr (w.heap.size + 1) 86 3 u ((yK us a).map Dp.d) /\ Grew w1 wr U0 u) (fun _ i _ => us.length - (intOf i).toNat)
 case atStart => exact ⟨0, Nat.zero_le _, rfl, by rw [<- HU0.out]; exact HU1.out, by rw [<- HU0.out]; exact Grew.refl _ _⟩
 case round =>
  obtain ⟨a, ha, rfl, hG, hgr⟩ := hrel;have HG := qQ hG; clear hG;have Hgr := qQ hgr; clear hgr;by_cases hlt : a < us.length
  case neg =>
   have hjj : a = us.length := by omega
   subst hjj;have Sr : Below w.heap.size w wr := S1.trans (Hgr.out.below hs1 fun b hb => by have := HU.out b hb; omega);obtain ⟨Au, cu, hfu, _, _⟩ := HG.out.form;subst hfu;go_wp2;go_ret;exact qQP.of_grow (l := qKA (zJ p)) (B := w.heap.size + 1) (by rw [<- HUS.out]; exact HG.out) (Nat.le_succ _) Sr
  go_wp2;go_loopw [3, 6] (fun u i wv => ∃ k : Nat, a + 1 <= k /\ k <= us.length /\ i = .int .i64 k /\ Grow wv (w.heap.size + 1) 86 3 u ((yK us a ++ jT us a k).map Dp.d) /\ Grew w1 wv U0 u) (fun _ i _ => us.length - (intOf i).toNat)
  case atStart => exact ⟨a + 1, qJ _, hlt, by go_num, by rw [qUJ, List.append_nil]; exact HG.out, Hgr.out⟩
  case round =>
   obtain ⟨k, hak, hk, rfl, hG, hgr⟩ := hrel;clear HG Hgr;have HG := qQ hG; clear hG;have Hgr := qQ hgr; clear hgr;have Sr : Below w.heap.size w wr := S1.trans (Hgr.out.below hs1 fun b hb => by have := HU.out b hb; omega);by_cases hkt : k < us.length
   case neg =>
    have hkk : k = us.length := by omega
    subst hkk;go_wp2;go_roundw
    case rel => exact ⟨a + 1, by omega, by go_num, HG.out, Hgr.out⟩
    case measure => simp [intOf]; omega
   have hkd := qWQ (nthU us a) (nthU us k);have HN := qQ (qCC (i := a) (k := k) hun (by omega) (by omega));obtain ⟨DL, hDL⟩ : ∃ DL, DL = yK us a ++ jT us a k := ⟨_, rfl⟩;rw [<- hDL] at HG HN;have HDL := qQ hDL; clear hDL;obtain ⟨Au, cu, hfu, _, _⟩ := HG.out.form;rw [List.length_map] at hfu;have RR := R1.out.grew Hgr.out HAP.out;obtain ⟨b4, o4, cs4, l4, rfl, hl4, h4, _, _, hc4⟩ := RR.sls_at Us.d_size (k := a) hlt;obtain ⟨b5, o5, cs5, l5, he, hl5, h5, _, _, hc5⟩ := RR.sls_at Us.d_size (k := k) hkt;obtain ⟨rfl, rfl⟩ : b4 = b5 /\ o4 = o5 := by simpa using he
   rw [<- qKK hlt] at h4;rw [<- qKK hkt] at h5;have H4 := qQ h4;have H5 := qQ h5;obtain ⟨A6, c6, d6, rfl, rfl, _⟩ := Rep.us_iff.1 h4;obtain ⟨A7, c7, d7, rfl, rfl, _⟩ := Rep.us_iff.1 h5;have k0 := (hc4 0 _ rfl).1;have k1 := (hc4 1 _ rfl).1;have l0 := (hc5 0 _ rfl).1;have l1 := (hc5 1 _ rfl).1;rw [Nat.add_zero] at k0 l0;clear hc4 hc5 h4 h5 he RR;have HD := qQ (fun (W : World) => qBQ (w := W) (i := a) (k := k) (by omega) (by omega) hkd);by_cases hp : 0 < uS (nthU us a) (nthU us k)
   ·have HS := qQ (qUX (us := us) (by omega) hp)
    have hq : (uS (nthU us a) (nthU us k) != 0) = true := yU (by omega);subst hfu;go_wp2_with fail;refine yL 8 (by kernel_rfl) (by kernel_rfl) ?_;simp only [List.take_succ_cons, List.take_zero, List.drop_succ_cons, List.drop_zero]
    repeat still_step
    try refine wpStill_nil ?_
    go_wp2_with fail;refine (qGZ (H4.out.below bel) (H5.out.below bel)).mono ?_;rintro e w2 ⟨rfl, b2⟩;have T2 : Below wr.heap.size wr w2 := qL b2;clear b2;have O6 := qQ (xV (N := w2.heap.size) (HD.out w2) 86 rfl);have hbz : w.heap.size + 1 <= w2.heap.size := by have h1 := Hgr.out.touch.size; have h2 := T2.size; omega
    obtain ⟨v, hv⟩ : ∃ v, v = uS (nthU us a) (nthU us k) := ⟨_, rfl⟩;rw [<- hv] at hkd hp HS HD O6 hq ⊢;clear hv HD;go_wp2_with (
     at_builtin;refine qT (w0 := w2) (B := w.heap.size + 1) (ys := [Dp.d ⟨(a : Int), (k : Int), v⟩]) rfl (.tmp 36) (.tmp 41) _ rfl _ Tryz.underlying81 Tryz.infoDep rfl (by decide) rfl (HG.out.below T2) ?hbw rfl O6.out ?hys (by simp) (by simp) ?hlen hbz ?_
     case hbw => exact bel
     case hys => intro y hy; simp only [List.mem_singleton] at hy; rw [hy]; rfl
     case hlen => have := HN.out; rw [List.length_map]; simp only [List.length_singleton]; omega
     intro v4 w4 hG4 hg4)
    have HG4 := qQ (show Grow w4 (w.heap.size + 1) 86 3 v4 ((yK us a ++ jT us a (k + 1)).map Dp.d) by rw [HS.out, <- List.append_assoc, <- HDL.out, List.map_append]; exact hG4);have g4 := qQ (Hgr.out.trans (hg4.after (show Below wr.heap.size wr (w2.alloc (.cells #[.int .i64 (a : Int), .int .i64 (k : Int), .int .i64 v] 86)) from T2.alloc T2.size _)));clear hG4 hg4;go_wp2;go_roundw
    case rel => exact ⟨k + 1, by omega, by omega, by go_num, HG4.out, g4.out⟩
    case measure => simp [intOf]; omega
   ·have HS := qQ (qDL (us := us) (by omega) hp)
    have hq : (uS (nthU us a) (nthU us k) != 0) = false := wG (by omega);go_wp2_with fail;refine yL 8 (by kernel_rfl) (by kernel_rfl) ?_;simp only [List.take_succ_cons, List.take_zero, List.drop_succ_cons, List.drop_zero]
    repeat still_step
    try refine wpStill_nil ?_
    go_wp2_with fail;refine (qGZ (H4.out.below bel) (H5.out.below bel)).mono ?_;rintro e w2 ⟨rfl, b2⟩;have T2 : Below wr.heap.size wr w2 := qL b2;subst hfu;have HG4 := qQ (show Grow w2 (w.heap.size + 1) 86 3 _ ((yK us a ++ jT us a (k + 1)).map Dp.d) by rw [HS.out, <- HDL.out]; exact HG.out.below T2);have g4 := qQ (Hgr.out.trans (Grew.of_below T2 _));clear b2;go_wp2;go_roundw
    case rel => exact ⟨k + 1, by omega, by omega, by go_num, HG4.out, g4.out⟩
    case measure => simp [intOf]; omega
end Go.Proofs.YtgogjbnneoadkaaGreat
