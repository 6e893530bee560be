/- Copies of the reference: expressions, statements. -/
import Derived.Test.YtgogjbnneoadkaaGreatZfCopy
import Derived.Test.YtgogjbnneoadkaaGreatZfRowS
import Derived.Test.YtgogjbnneoadkaaGreatZfPointIn
import Derived.Deep.CutBlock
set_option linter.all false
set_option maxHeartbeats 8000000
set_option maxRecDepth 100000
namespace Go.Proofs.YtgogjbnneoadkaaGreat
open Go.ChangeShapes Go.WideShapes Go.ChangeAt Go.RowKit Go.Deep
def ExSm (x : Ex) : Prop := x.index.coefs.length <= 10000000 /\ x.read.subs.length <= 1000000 /\ ∀ t ∈ x.read.subs, t.coefs.length <= 10000000
theorem ExSm.of {x : Ex} {d : Int} (h : ownF x d = true) : ExSm x := by
 have zA : ∀ {a : Aff}, uU a = true -> a.coefs.length <= 10000000 := fun {a} h => by rw [qQV h]; decide
 have zC : ∀ {a : Acc}, uB a = true -> a.subs.length <= 1000000 /\ ∀ t ∈ a.subs, t.coefs.length <= 10000000 := fun {a} h => by rw [qQW h]; exact ⟨by decide, by intro t ht; simp [accZero] at ht⟩
 unfold ownF at h;by_cases e2 : x.kind = 2
 ·rw [if_pos e2] at h
  simp only [Bool.and_eq_true] at h;have h2 := (xE.1 h.2.2.1).1;exact ⟨by omega, zC h.2.1⟩
 ·rw [if_neg e2] at h
  by_cases e3 : x.kind = 3
  ·rw [if_pos e3] at h
   simp only [Bool.and_eq_true] at h;have h1 := h.2.2;simp only [uA, Bool.and_eq_true] at h1;have hs := xB h1.2;exact ⟨zA h.2.1, by omega, fun t ht => by have := (xE.1 (hs.2.2 t ht).1).1; omega⟩
  ·rw [if_neg e3] at h
   by_cases e1 : x.kind = 1
   ·rw [if_pos e1] at h
    simp only [Bool.and_eq_true] at h;exact ⟨zA h.2.1, zC h.2.2⟩
   ·rw [if_neg e1] at h
    simp only [Bool.and_eq_true] at h;exact ⟨zA h.2.1, zC h.2.2⟩
theorem Tryz.sizeExpr : (Tryz.prog.info? 100).map (·.size) = some 7 := by kernel_rfl
def CpEx (x : Ex) : Prop := ∀ (L : Nat) (dp : Int) (w : World) (cs : List Value) (bs : List Nat), zS x dp L = true -> Rep w x.d cs bs -> Calls Tryz.prog 159 #[.agg cs.toArray] w (qYA w x)
theorem qGX {x : Ex} (hrec : ∀ y ∈ x.kids, CpEx y) : CpEx x := by
 intro L dp w cs bs hsh h;have HREC := qQ hrec; clear hrec;rw [uC] at hsh;simp only [Bool.and_eq_true, decide_eq_true_iff, List.all_eq_true] at hsh;obtain ⟨_, hk, hown, hkids⟩ := hsh;have HSM := qQ (ExSm.of hown);have HK := qQ hkids;have hkl : x.kids.length <= 1000000 := by unfold yR at hk; omega
 clear hk hown hkids;obtain ⟨A3, c3, A6, c6, A7, c7, d3, d6, d7, rfl, rfl, g1, g2, g3, g4, g5, g6, g7⟩ := Rep.ex_iff.1 h;have G3 := qQ ((Rep.aff_iff2 (x := x.index)).2 ⟨_, _, _, rfl, rfl, g3, g4⟩);have G5 := qQ ((Rep.acc_iff (x := x.read)).2 ⟨_, _, _, rfl, rfl, g5, g6⟩);have G7 := qQ g7;have I1 := qQ g1;have I2 := qQ g2;clear h g1 g2 g3 g4 g5 g6 g7;have hn : x.kids.length <= 9223372036854775807 := by omega
 go_enter Tryz.func159, Tryz.ntmps159;have HBX : Box7 ((w.alloc (.cells #[.int .i64 x.kind, .int .i64 x.num, .slice A3 x.index.coefs.length c3, .int .i64 x.index.const, .string x.read.arr, .slice A6 x.read.subs.length c6, .slice A7 x.kids.length c7] 100)).alloc (.cells #[.int .i64 0, .int .i64 0, .slice none 0 0, .int .i64 0, .string ⟨#[]⟩, .slice none 0 0, .slice none 0 0] 100)) w.heap.size (.int .i64 x.kind) (.int .i64 x.num) (.slice A3 x.index.coefs.length c3) (.int .i64 x.index.const) (.string x.read.arr) (.slice A6 x.read.subs.length c6) (.slice A7 x.kids.length c7) := ⟨by go_simp, by go_simp, by go_simp, by go_simp, by go_simp, by go_simp, by go_simp⟩;have HRZ : Row ((w.alloc (.cells #[.int .i64 x.kind, .int .i64 x.num, .slice A3 x.index.coefs.length c3, .int .i64 x.index.const, .string x.read.arr, .slice A6 x.read.subs.length c6, .slice A7 x.kids.length c7] 100)).alloc (.cells #[.int .i64 0, .int .i64 0, .slice none 0 0, .int .i64 0, .string ⟨#[]⟩, .slice none 0 0, .slice none 0 0] 100)) (w.heap.size + 1) 100 [.int .i64 0, .int .i64 0, .slice none 0 0, .int .i64 0, .string ⟨#[]⟩, .slice none 0 0, .slice none 0 0] := by
  have h0 := Row.new (w.alloc (.cells #[.int .i64 x.kind, .int .i64 x.num, .slice A3 x.index.coefs.length c3, .int .i64 x.index.const, .string x.read.arr, .slice A6 x.read.subs.length c6, .slice A7 x.kids.length c7] 100)) [.int .i64 0, .int .i64 0, .slice none 0 0, .int .i64 0, .string ⟨#[]⟩, .slice none 0 0, .slice none 0 0] 100;rw [wF] at h0
  first | exact h0 | done
 obtain ⟨W0, hW0⟩ : ∃ W0, W0 = (w.alloc (.cells #[.int .i64 x.kind, .int .i64 x.num, .slice A3 x.index.coefs.length c3, .int .i64 x.index.const, .string x.read.arr, .slice A6 x.read.subs.length c6, .slice A7 x.kids.length c7] 100)).alloc (.cells #[.int .i64 0, .int .i64 0, .slice none 0 0, .int .i64 0, .string ⟨#[]⟩, .slice none 0 0, .slice none 0 0] 100) := ⟨_, rfl⟩;have B0 : Below w.heap.size w W0 := by rw [hW0]; (repeat (first | with_reducible exact Below.refl _ _ | refine Below.setCell ?_ (by simp; try omega) _ | refine zZ ?_ _ | refine Below.alloc ?_ (by simp [World.setCell]; try omega) _ | refine qE ?_ _ | refine Below.drew ?_ | refine qY ?_ ‹Below _ _ _›))
 have Z0 := qQ (show W0.heap.size = w.heap.size + 2 by rw [hW0]; simp);rw [<- hW0] at HBX HRZ;have HRZ := qQ HRZ;go_upto_region 1 with (fail);rw [<- hW0];clear hW0;go_cut [3] (fun u3 wc => ∃ (g : Nat) (AI : Option Addr) (nI cI : Nat) (kI : Int) (AR : Option Addr) (cR : Nat) (dI dR : List Nat), u3 = .pointer (some ⟨g, 0, none⟩) /\ Row wc g 100 [.int .i64 x.kind, .int .i64 x.num, .slice AI nI cI, .int .i64 kI, .string x.read.arr, .slice AR x.read.subs.length cR, .slice none 0 0] /\ Row wc (w.heap.size + 1) 100 [.int .i64 0, .int .i64 0, .slice none 0 0, .int .i64 0, .string ⟨#[]⟩, .slice none 0 0, .slice none 0 0] /\ Box7 wc w.heap.size (.int .i64 x.kind) (.int .i64 x.num) (.slice A3 x.index.coefs.length c3) (.int .i64 x.index.const) (.string x.read.arr) (.slice A6 x.read.subs.length c6) (.slice A7 x.kids.length c7) /\ Rep wc x.index.d [.slice AI nI cI, .int .i64 kI] dI /\ Rep wc x.read.d [.string x.read.arr, .slice AR x.read.subs.length cR] dR /\ (dI ++ dR).Nodup /\ (∀ y ∈ dI ++ dR, w.heap.size + 2 <= y /\ y < wc.heap.size /\ y ≠ g) /\ w.heap.size + 2 <= g /\ Below W0.heap.size W0 wc)
 case first =>
  refine wp_region_noPanic ?_;refine zM (S := fun w' => Box7 w' w.heap.size (.int .i64 x.kind) (.int .i64 x.num) (.slice A3 x.index.coefs.length c3) (.int .i64 x.index.const) (.string x.read.arr) (.slice A6 x.read.subs.length c6) (.slice A7 x.kids.length c7)) 12 (by kernel_rfl) (HBX) (fun hHeld => ?_);refine goU 0 (fun _ => hHeld) ?_;refine goT 1 hHeld ?_;refine goU 2 (fun _ => hHeld) ?_;refine goT 3 hHeld ?_;refine goU 4 (fun _ => hHeld) ?_;refine goT 5 hHeld ?_;refine goU 7 (fun _ => hHeld) ?_;refine goT 8 hHeld ?_;refine qS (rs := [6, 11]) (by kernel_rfl) (by simp) (all2 ?_ ?_)
  ·refine opT (i := 6) rfl (qK rfl) (fun K hK => ?_)
   go_simp
   (refine (jY (G3.out.below (qY B0 bel)) HSM.out.1).mono ?_; rintro e w1 ⟨Y3, n3, y3, k3, bs1, rfl, r1, nd1, hb1, b1⟩; have z1 := b1.size; (try simp at z1); (try have hq1 := hq.to b1))
   go_wp2_with fail;refine hK.out _ _ (hHeld.to b1) (fun hHeld => ?_);clear hK K
   try simp only [Act.put, aq0, aq1, aq2]
   refine qS (rs := [9, 11]) (by kernel_rfl) (by simp) (all2 ?_ ?_)
   ·refine opT (i := 9) rfl (qK rfl) (fun K hK => ?_)
    go_simp
    (refine (vQ (G5.out.below (qY B0 bel)) HSM.out.2.1 HSM.out.2.2).mono ?_; rintro e w2 ⟨Y6, y6, bs2, rfl, r2, nd2, hb2, b2⟩; have z2 := b2.size; (try simp at z2); (first | have hq2 := hq1.to b2 | have hq2 := hq.to b2 | skip))
    go_wp2_with fail;refine hK.out _ _ (hHeld.to b2) (fun hHeld => ?_);clear hK K
    try simp only [Act.put, aq0, aq1, aq2]
    refine goU 10 (fun _ => hHeld) ?_;refine qS (rs := [11]) (by kernel_rfl) (by simp) (all1 ?_);refine opT (i := 11) rfl (qK rfl) (fun K hK => ?_)
    (unfold Oper.wp; go_simp; (first | have hq := Row.new w2 [.int .i64 0, .int .i64 0, .slice none 0 0, .int .i64 0, .string ⟨#[]⟩, .slice none 0 0, .slice none 0 0] 100 | have hq := Row.new w1 [.int .i64 0, .int .i64 0, .slice none 0 0, .int .i64 0, .string ⟨#[]⟩, .slice none 0 0, .slice none 0 0] 100 | have hq := Row.new W0.drew [.int .i64 0, .int .i64 0, .slice none 0 0, .int .i64 0, .string ⟨#[]⟩, .slice none 0 0, .slice none 0 0] 100))
    refine hK.out _ _ (hHeld.to ((Below.refl _ _).alloc (qJ _) _)) (fun hHeld => ?_);clear hK K
    try simp only [Act.put, aq0, aq1, aq2]
    refine qS (rs := [12]) (by kernel_rfl) (by simp) (all1 ?_);refine opTT (i := 12) rfl (qK rfl) (by kernel_rfl) (fun K hK => ?_)
    ((first | refine qO 100 (.tmp 3) (.tmp 15) rfl (vs := [.int .i64 x.kind, .int .i64 x.num, .slice Y3 n3 y3, .int .i64 k3, .string x.read.arr, .slice Y6 x.read.subs.length y6, .slice none 0 0]) rfl rfl hq2 rfl Tryz.sizeExpr rfl ?_ | refine qO 100 (.tmp 3) (.tmp 15) rfl (vs := [.int .i64 x.kind, .int .i64 x.num, .slice Y3 n3 y3, .int .i64 k3, .string x.read.arr, .slice Y6 x.read.subs.length y6, .slice none 0 0]) rfl rfl hq rfl Tryz.sizeExpr rfl ?_); intro w4 hr4 t4; (first | have hp := wQ (W0 := W0) r1 r2 nd1 nd2 hb1 hb2 (qL b1) (zZ b2 _) (zZ (Below.refl _ _) _) t4 (by omega) (fun hm => by have := Rep.lt _ r1 _ hm; omega) (fun hm => by have := Rep.lt _ r2 _ hm; omega) | have hp := wQ (W0 := W0) r1 r2 nd1 nd2 hb1 (fun y hy => by have := hb2 y hy; simp at this; omega) (qL b1) (qY (zZ (Below.refl _ _) _) b2) (Below.refl _ _) t4 (by omega) (fun hm => by have := Rep.lt _ r1 _ hm; omega) (fun hm => by have := hb2 _ hm; simp at this; omega) | have hp := wQ (W0 := W0) r1 r2 nd1 nd2 (fun y hy => by have := hb1 y hy; simp at this; omega) hb2 (qL (qY (zZ (Below.refl _ _) _) b1)) b2 (Below.refl _ _) t4 (by simp) (fun hm => by have := hb1 _ hm; simp at this; omega) (fun hm => by have := hb2 _ hm; omega)); have HP := qQ hp; have HR4 := qQ hr4; clear hp hr4 t4)
    refine hK.out _ _ ?_;clear hK K
    try simp only [Act.put, aq0, aq1, aq2]
    refine qI (by kernel_rfl) ?_ _;refine NoPanic.normal ?_
    (go_wp2; go_meet; (case rel => exact ⟨_, Y3, n3, y3, k3, Y6, y6, bs1, bs2, rfl, HR4.out, HRZ.out.to HP.out.2.2.2.2, HBX.to HP.out.2.2.2.2, HP.out.1, HP.out.2.1, HP.out.2.2.1, (fun y hy => by have h1 := HP.out.2.2.2.1 y hy; have h2 := Z0.out; exact ⟨by omega, h1.2⟩), (by have h2 := Z0.out; first | omega | (simp; omega)), HP.out.2.2.2.2⟩))
   ·refine opT (i := 11) rfl (qK rfl) (fun K hK => ?_)
    (unfold Oper.wp; go_simp; (first | have hq := Row.new w2 [.int .i64 0, .int .i64 0, .slice none 0 0, .int .i64 0, .string ⟨#[]⟩, .slice none 0 0, .slice none 0 0] 100 | have hq := Row.new w1 [.int .i64 0, .int .i64 0, .slice none 0 0, .int .i64 0, .string ⟨#[]⟩, .slice none 0 0, .slice none 0 0] 100 | have hq := Row.new W0.drew [.int .i64 0, .int .i64 0, .slice none 0 0, .int .i64 0, .string ⟨#[]⟩, .slice none 0 0, .slice none 0 0] 100))
    refine hK.out _ _ (hHeld.to ((Below.refl _ _).alloc (qJ _) _)) (fun hHeld => ?_);clear hK K
    try simp only [Act.put, aq0, aq1, aq2]
    refine qS (rs := [9]) (by kernel_rfl) (by simp) (all1 ?_);refine opT (i := 9) rfl (qK rfl) (fun K hK => ?_);go_simp
    (refine (vQ (G5.out.below (qY B0 bel)) HSM.out.2.1 HSM.out.2.2).mono ?_; rintro e w2 ⟨Y6, y6, bs2, rfl, r2, nd2, hb2, b2⟩; have z2 := b2.size; (try simp at z2); (first | have hq2 := hq1.to b2 | have hq2 := hq.to b2 | skip))
    go_wp2_with fail;refine hK.out _ _ (hHeld.to b2) (fun hHeld => ?_);clear hK K
    try simp only [Act.put, aq0, aq1, aq2]
    refine goU 10 (fun _ => hHeld) ?_;refine qS (rs := [12]) (by kernel_rfl) (by simp) (all1 ?_);refine opTT (i := 12) rfl (qK rfl) (by kernel_rfl) (fun K hK => ?_)
    ((first | refine qO 100 (.tmp 3) (.tmp 15) rfl (vs := [.int .i64 x.kind, .int .i64 x.num, .slice Y3 n3 y3, .int .i64 k3, .string x.read.arr, .slice Y6 x.read.subs.length y6, .slice none 0 0]) rfl rfl hq2 rfl Tryz.sizeExpr rfl ?_ | refine qO 100 (.tmp 3) (.tmp 15) rfl (vs := [.int .i64 x.kind, .int .i64 x.num, .slice Y3 n3 y3, .int .i64 k3, .string x.read.arr, .slice Y6 x.read.subs.length y6, .slice none 0 0]) rfl rfl hq rfl Tryz.sizeExpr rfl ?_); intro w4 hr4 t4; (first | have hp := wQ (W0 := W0) r1 r2 nd1 nd2 hb1 hb2 (qL b1) (zZ b2 _) (zZ (Below.refl _ _) _) t4 (by omega) (fun hm => by have := Rep.lt _ r1 _ hm; omega) (fun hm => by have := Rep.lt _ r2 _ hm; omega) | have hp := wQ (W0 := W0) r1 r2 nd1 nd2 hb1 (fun y hy => by have := hb2 y hy; simp at this; omega) (qL b1) (qY (zZ (Below.refl _ _) _) b2) (Below.refl _ _) t4 (by omega) (fun hm => by have := Rep.lt _ r1 _ hm; omega) (fun hm => by have := hb2 _ hm; simp at this; omega) | have hp := wQ (W0 := W0) r1 r2 nd1 nd2 (fun y hy => by have := hb1 y hy; simp at this; omega) hb2 (qL (qY (zZ (Below.refl _ _) _) b1)) b2 (Below.refl _ _) t4 (by simp) (fun hm => by have := hb1 _ hm; simp at this; omega) (fun hm => by have := hb2 _ hm; omega)); have HP := qQ hp; have HR4 := qQ hr4; clear hp hr4 t4)
    refine hK.out _ _ ?_;clear hK K
    try simp only [Act.put, aq0, aq1, aq2]
    refine qI (by kernel_rfl) ?_ _;refine NoPanic.normal ?_
    (go_wp2; go_meet; (case rel => exact ⟨_, Y3, n3, y3, k3, Y6, y6, bs1, bs2, rfl, HR4.out, HRZ.out.to HP.out.2.2.2.2, HBX.to HP.out.2.2.2.2, HP.out.1, HP.out.2.1, HP.out.2.2.1, (fun y hy => by have h1 := HP.out.2.2.2.1 y hy; have h2 := Z0.out; exact ⟨by omega, h1.2⟩), (by have h2 := Z0.out; first | omega | (simp; omega)), HP.out.2.2.2.2⟩))
  ·refine opT (i := 11) rfl (qK rfl) (fun K hK => ?_)
   (unfold Oper.wp; go_simp; (first | have hq := Row.new w2 [.int .i64 0, .int .i64 0, .slice none 0 0, .int .i64 0, .string ⟨#[]⟩, .slice none 0 0, .slice none 0 0] 100 | have hq := Row.new w1 [.int .i64 0, .int .i64 0, .slice none 0 0, .int .i64 0, .string ⟨#[]⟩, .slice none 0 0, .slice none 0 0] 100 | have hq := Row.new W0.drew [.int .i64 0, .int .i64 0, .slice none 0 0, .int .i64 0, .string ⟨#[]⟩, .slice none 0 0, .slice none 0 0] 100))
   refine hK.out _ _ (hHeld.to ((Below.refl _ _).alloc (qJ _) _)) (fun hHeld => ?_);clear hK K
   try simp only [Act.put, aq0, aq1, aq2]
   refine qS (rs := [6]) (by kernel_rfl) (by simp) (all1 ?_);refine opT (i := 6) rfl (qK rfl) (fun K hK => ?_);go_simp
   (refine (jY (G3.out.below (qY B0 bel)) HSM.out.1).mono ?_; rintro e w1 ⟨Y3, n3, y3, k3, bs1, rfl, r1, nd1, hb1, b1⟩; have z1 := b1.size; (try simp at z1); (try have hq1 := hq.to b1))
   go_wp2_with fail;refine hK.out _ _ (hHeld.to b1) (fun hHeld => ?_);clear hK K
   try simp only [Act.put, aq0, aq1, aq2]
   refine qS (rs := [9]) (by kernel_rfl) (by simp) (all1 ?_);refine opT (i := 9) rfl (qK rfl) (fun K hK => ?_);go_simp
   (refine (vQ (G5.out.below (qY B0 bel)) HSM.out.2.1 HSM.out.2.2).mono ?_; rintro e w2 ⟨Y6, y6, bs2, rfl, r2, nd2, hb2, b2⟩; have z2 := b2.size; (try simp at z2); (first | have hq2 := hq1.to b2 | have hq2 := hq.to b2 | skip))
   go_wp2_with fail;refine hK.out _ _ (hHeld.to b2) (fun hHeld => ?_);clear hK K
   try simp only [Act.put, aq0, aq1, aq2]
   refine goU 10 (fun _ => hHeld) ?_;refine qS (rs := [12]) (by kernel_rfl) (by simp) (all1 ?_);refine opTT (i := 12) rfl (qK rfl) (by kernel_rfl) (fun K hK => ?_)
   ((first | refine qO 100 (.tmp 3) (.tmp 15) rfl (vs := [.int .i64 x.kind, .int .i64 x.num, .slice Y3 n3 y3, .int .i64 k3, .string x.read.arr, .slice Y6 x.read.subs.length y6, .slice none 0 0]) rfl rfl hq2 rfl Tryz.sizeExpr rfl ?_ | refine qO 100 (.tmp 3) (.tmp 15) rfl (vs := [.int .i64 x.kind, .int .i64 x.num, .slice Y3 n3 y3, .int .i64 k3, .string x.read.arr, .slice Y6 x.read.subs.length y6, .slice none 0 0]) rfl rfl hq rfl Tryz.sizeExpr rfl ?_); intro w4 hr4 t4; (first | have hp := wQ (W0 := W0) r1 r2 nd1 nd2 hb1 hb2 (qL b1) (zZ b2 _) (zZ (Below.refl _ _) _) t4 (by omega) (fun hm => by have := Rep.lt _ r1 _ hm; omega) (fun hm => by have := Rep.lt _ r2 _ hm; omega) | have hp := wQ (W0 := W0) r1 r2 nd1 nd2 hb1 (fun y hy => by have := hb2 y hy; simp at this; omega) (qL b1) (qY (zZ (Below.refl _ _) _) b2) (Below.refl _ _) t4 (by omega) (fun hm => by have := Rep.lt _ r1 _ hm; omega) (fun hm => by have := hb2 _ hm; simp at this; omega) | have hp := wQ (W0 := W0) r1 r2 nd1 nd2 (fun y hy => by have := hb1 y hy; simp at this; omega) hb2 (qL (qY (zZ (Below.refl _ _) _) b1)) b2 (Below.refl _ _) t4 (by simp) (fun hm => by have := hb1 _ hm; simp at this; omega) (fun hm => by have := hb2 _ hm; omega)); have HP := qQ hp; have HR4 := qQ hr4; clear hp hr4 t4)
   refine hK.out _ _ ?_;clear hK K
   try simp only [Act.put, aq0, aq1, aq2]
   refine qI (by kernel_rfl) ?_ _;refine NoPanic.normal ?_
   (go_wp2; go_meet; (case rel => exact ⟨_, Y3, n3, y3, k3, Y6, y6, bs1, bs2, rfl, HR4.out, HRZ.out.to HP.out.2.2.2.2, HBX.to HP.out.2.2.2.2, HP.out.1, HP.out.2.1, HP.out.2.2.1, (fun y hy => by have h1 := HP.out.2.2.2.1 y hy; have h2 := Z0.out; exact ⟨by omega, h1.2⟩), (by have h2 := Z0.out; first | omega | (simp; omega)), HP.out.2.2.2.2⟩))
 case rest =>
  obtain ⟨g, AI, nI, cI, kI, AR, cR, dI, dR, rfl, ho, hz, Pd, hi, hr, hnd, hge, hg, hbd0⟩ := hcut;have hbd : Below w.heap.size w wc := qY B0 hbd0;have hsz2 : w.heap.size + 2 <= wc.heap.size := by have := hbd0.size; have := Z0.out; omega
  have HLOW := qQ (show ∀ b o q, A7 = some ⟨b, o, q⟩ -> 0 < x.kids.length -> b < w.heap.size from fun b o q e hlt => by
   obtain ⟨b', o', _, _, e', hb', _⟩ := G7.out.sls_at Ex.d_size hlt;rw [e'] at e
   cases e
   exact hb')
  have HO := qQ ho;have HZ := qQ hz;have HI := qQ hi;have HR := qQ hr;have HND := qQ hnd;have HGE := qQ hge;have HPQ := qQ Pd;have hgO : g < wc.heap.size := ho.lt;have HKK := qQ (qV I1.out I2.out);clear ho hz hi hr hnd hge Pd hbd0 B0 HRZ HBX Z0;go_wp2;go_loopw [4] (fun i wr => ∃ (j : Nat) (u : Value), j <= x.kids.length /\ i = .int .i64 j /\ Row wr g 100 [.int .i64 x.kind, .int .i64 x.num, .slice AI nI cI, .int .i64 kI, .string x.read.arr, .slice AR x.read.subs.length cR, u] /\ Grow wr wc.heap.size 100 7 u ((x.kids.take j).map Ex.d) /\ Touch [g] wc wr) (fun i _ => x.kids.length - (intOf i).toNat)
  case atStart => exact ⟨0, .slice none 0 0, Nat.zero_le _, rfl, HO.out, by simpa using Grow.nil _ _ _ _, Touch.refl _ _⟩
  case round =>
   obtain ⟨j, u, hj, rfl, hrow, hG, htc⟩ := hrel;have HO2 := qQ hrow; clear hrow;have HTC := qQ htc; clear htc;have hbr : Below w.heap.size w wr := hbd.trans (HTC.out.below hbd.size (by simp; omega));have hszr := HTC.out.size;have PR := HPQ.out.touch HTC.out (by simp; omega);have HPR := qQ PR;have lp := qW PR.1;obtain ⟨p0, p1, p2, p3, p4, p5, p6⟩ := PR;obtain ⟨Au, cu, hfu, _, _⟩ := hG.form;rw [List.length_map, List.length_take] at hfu;have HG := qQ hG; clear hG;by_cases hlt : j < x.kids.length
   ·have HT := qQ (show (x.kids.take (j + 1)).map Ex.d = (x.kids.take j).map Ex.d ++ [x.kids[j].d] by rw [List.take_succ_eq_append_getElem hlt, List.map_append]; rfl)
    have HRJ := qQ (HREC.out _ (List.getElem_mem hlt));have HAJ := qQ (HK.out _ (List.getElem_mem hlt));obtain ⟨be, oe, cse, le, rfl, hble, hre, _, _, hce⟩ := (G7.out.below hbr).sls_at Ex.d_size (k := j) hlt;have Ge := qQ hre;obtain ⟨A3e, c3e, A6e, c6e, A7e, c7e, d3e, d6e, d7e, rfl, rfl, g1e, g2e, g3e, g4e, g5e, g6e, g7e⟩ := Rep.ex_iff.1 hre;have k0e := (hce 0 _ rfl).1; rw [Nat.add_zero] at k0e;have k1e := (hce 1 _ rfl).1;have k2e := (hce 2 _ rfl).1;have k3e := (hce 3 _ rfl).1;have k4e := (hce 4 _ rfl).1;have k5e := (hce 5 _ rfl).1;have k6e := (hce 6 _ rfl).1;have Q1e := qQ g1e;have Q2e := qQ g2e;have Q3e := qQ g3e;have Q4e := qQ g4e;have Q5e := qQ g5e;have Q6e := qQ g6e;have Q7e := qQ g7e;clear hce hre g1e g2e g3e g4e g5e g6e g7e;have hbe := HLOW.out _ _ _ rfl (by omega);have OB := HO2.out.box7;have lo := qW OB.1;obtain ⟨o0, o1, o2, o3, o4, o5, o6⟩ := OB;have f6 := HO2.out.frozen 6;have hmin : min j x.kids.length = j := by omega
    rw [hmin] at hfu;subst hfu;have HOW := qQ HG.out.own_ge;obtain ⟨y, hy⟩ : ∃ y, y = x.kids[j] := ⟨_, rfl⟩;rw [<- hy] at k0e k1e k2e k3e k4e k5e k6e Ge HT HRJ HAJ;clear hmin hy;have hgw : ¬ g = w.heap.size := by omega
    have hgw2 : ¬ w.heap.size = g := by omega
    go_wp2_with fail;refine wp_region_noPanic ?_;refine zM (S := fun w' => w'.cell? ⟨g, 6, none⟩ = some (.slice Au j cu) /\ Box7 w' w.heap.size (.int .i64 x.kind) (.int .i64 x.num) (.slice A3 x.index.coefs.length c3) (.int .i64 x.index.const) (.string x.read.arr) (.slice A6 x.read.subs.length c6) (.slice (some ⟨be, oe, none⟩) x.kids.length c7) /\ (w'.cell? ⟨be, oe + j * 7, none⟩ = some (.int .i64 y.kind) /\ w'.cell? ⟨be, oe + j * 7 + 1, none⟩ = some (.int .i64 y.num) /\ w'.cell? ⟨be, oe + j * 7 + 2, none⟩ = some (.slice A3e y.index.coefs.length c3e) /\ w'.cell? ⟨be, oe + j * 7 + 3, none⟩ = some (.int .i64 y.index.const) /\ w'.cell? ⟨be, oe + j * 7 + 4, none⟩ = some (.string y.read.arr) /\ w'.cell? ⟨be, oe + j * 7 + 5, none⟩ = some (.slice A6e y.read.subs.length c6e) /\ w'.cell? ⟨be, oe + j * 7 + 6, none⟩ = some (.slice A7e y.kids.length c7e))) 11 (by kernel_rfl) (⟨by go_simp, ⟨by go_simp, by go_simp, by go_simp, by go_simp, by go_simp, by go_simp, by go_simp⟩, by go_simp, by go_simp, by go_simp, by go_simp, by go_simp, by go_simp, by go_simp⟩) (fun hHeld => ?_);refine goU 0 (fun _ => hHeld) ?_;refine goT 1 hHeld ?_;refine goU 2 (fun _ => hHeld) ?_;refine goT 3 hHeld ?_;refine goU 4 (fun _ => hHeld) ?_;refine goU 5 (fun _ => hHeld) ?_;refine goT 6 hHeld ?_;refine qS (rs := [7]) (by kernel_rfl) (by simp) (all1 ?_);refine opT (i := 7) rfl (qK rfl) (fun K hK => ?_);go_simp
    (refine (HRJ.out _ _ _ _ _ HAJ.out (Ge.out.below bel)).mono ?_; rintro e w1 ⟨X3, z3, X6, z6, X7, z7, bs1, rfl, r1, nd1, hb1, b1⟩; have B1 : Below wr.heap.size wr w1 := bel; have O1 := qQ (xV (N := w1.heap.size) r1 100 rfl); have N1 := qQ (qV nd1 (show ∀ z ∈ bs1, wr.heap.size <= z from fun z hz => by have := hb1 z hz; simp at this; omega)); clear r1 nd1 hb1)
    go_wp2_with fail;refine hK.out _ _ (⟨qG hHeld.1 b1, hHeld.2.1.to b1, qG hHeld.2.2.1 b1, qG hHeld.2.2.2.1 b1, qG hHeld.2.2.2.2.1 b1, qG hHeld.2.2.2.2.2.1 b1, qG hHeld.2.2.2.2.2.2.1 b1, qG hHeld.2.2.2.2.2.2.2.1 b1, qG hHeld.2.2.2.2.2.2.2.2 b1⟩) (fun hHeld => ?_);clear hK K
    try simp only [Act.put, aq0, aq1, aq2]
    refine qS (rs := [8]) (by kernel_rfl) (by simp) (all1 ?_);refine opT (i := 8) rfl (qK rfl) (fun K hK => ?_)
    (unfold Oper.wp; go_simp)
    refine hK.out _ _ (⟨qG hHeld.1 ((Below.refl _ _).alloc (qJ _) _), hHeld.2.1.to ((Below.refl _ _).alloc (qJ _) _), qG hHeld.2.2.1 ((Below.refl _ _).alloc (qJ _) _), qG hHeld.2.2.2.1 ((Below.refl _ _).alloc (qJ _) _), qG hHeld.2.2.2.2.1 ((Below.refl _ _).alloc (qJ _) _), qG hHeld.2.2.2.2.2.1 ((Below.refl _ _).alloc (qJ _) _), qG hHeld.2.2.2.2.2.2.1 ((Below.refl _ _).alloc (qJ _) _), qG hHeld.2.2.2.2.2.2.2.1 ((Below.refl _ _).alloc (qJ _) _), qG hHeld.2.2.2.2.2.2.2.2 ((Below.refl _ _).alloc (qJ _) _)⟩) (fun hHeld => ?_);clear hK K
    try simp only [Act.put, aq0, aq1, aq2]
    refine qS (rs := [9]) (by kernel_rfl) (by simp) (all1 ?_);refine opT (i := 9) rfl (qK rfl) (fun K hK => ?_)
    (refine zX (w0 := wr) (B := wc.heap.size) (xs := (x.kids.take j).map Ex.d) (ys := [y.d]) (.tmp 24) (.tmp 31) _ rfl _ Tryz.underlying98 Tryz.infoEx rfl (by decide) rfl HG.out ?hbw rfl O1.out ?hys ?hn ?hf ?hlen hszr ?_; (case hbw => exact bel); (case hys => (intro z hz; simp only [List.mem_singleton] at hz; rw [hz]; exact Ex.d_size _)); (case hn => exact N1.out.1); (case hf => exact N1.out.2); (case hlen => (simp; omega)); intro v2_ w4 hG4 hg4; have B4 : Below wc.heap.size wr w4 := ((B1.alloc B1.size _).mono hszr).trans (hg4.below (qX hszr (qX B1.size (by simp))) (fun b hb => (HOW.out b hb).1)); have XR := qQ (HO2.out.of_block (B4.block _ hgO)); have XB := XR.out.box7; have XF := XR.out.frozen 6; have xlt := qW XB.1; obtain ⟨A4, c4, hf4, _, _⟩ := hG4.form; simp only [List.length_append, List.length_map, List.length_take, List.length_singleton] at hf4; rw [show min j x.kids.length + 1 = j + 1 by omega] at hf4; subst hf4; rw [<- HT.out] at hG4; have HG4 := qQ hG4; have HT4 := qQ (HTC.out.then B4))
    refine hK.out _ _ (⟨hg4.touch.cellR hHeld.1 (fun hm => by have := (HOW.out _ (qU.1 hm)).1; omega), hHeld.2.1.touch hg4.touch (fun hm => by have := (HOW.out _ (qU.1 hm)).1; omega), hg4.touch.cellR hHeld.2.2.1 (fun hm => by have := (HOW.out _ (qU.1 hm)).1; omega), hg4.touch.cellR hHeld.2.2.2.1 (fun hm => by have := (HOW.out _ (qU.1 hm)).1; omega), hg4.touch.cellR hHeld.2.2.2.2.1 (fun hm => by have := (HOW.out _ (qU.1 hm)).1; omega), hg4.touch.cellR hHeld.2.2.2.2.2.1 (fun hm => by have := (HOW.out _ (qU.1 hm)).1; omega), hg4.touch.cellR hHeld.2.2.2.2.2.2.1 (fun hm => by have := (HOW.out _ (qU.1 hm)).1; omega), hg4.touch.cellR hHeld.2.2.2.2.2.2.2.1 (fun hm => by have := (HOW.out _ (qU.1 hm)).1; omega), hg4.touch.cellR hHeld.2.2.2.2.2.2.2.2 (fun hm => by have := (HOW.out _ (qU.1 hm)).1; omega)⟩) (fun hHeld => ?_);clear hK K
    try simp only [Act.put, aq0, aq1, aq2]
    refine goU 10 (fun _ => hHeld) ?_;refine qS (rs := [11]) (by kernel_rfl) (by simp) (all1 ?_);refine opTT (i := 11) rfl (qK rfl) (by kernel_rfl) (fun K hK => ?_)
    (unfold Oper.wp; go_simp)
    refine hK.out _ _ ?_;clear hK K
    try simp only [Act.put, aq0, aq1, aq2]
    refine qI (by kernel_rfl) ?_ _;refine NoPanic.normal ?_
    (go_wp2; go_roundw; (case rel => exact ⟨j + 1, _, by omega, by go_num, XR.out.set 6 _, HG4.out.set_low (p := ⟨g, 6, none⟩) hgO _, HT4.out.setCell (by first | (simp; done) | (simp; omega)) _⟩); (case measure => (simp [intOf]; omega)))
   ·have hjj : j = x.kids.length := by omega
    subst hjj;rw [Nat.min_self] at hfu;subst hfu;obtain ⟨A5, c5, bs5, he5, r5, nd5, hb5⟩ := HG.out.rep;rw [List.length_map, List.length_take, Nat.min_self] at he5 r5;simp only [Value.slice.injEq, true_and] at he5;obtain ⟨rfl, rfl⟩ := he5;rw [List.take_length] at r5;have hgw3 : ¬ g = w.heap.size + 1 := by omega
    have hgw4 : ¬ w.heap.size + 1 = g := by omega
    have HZr := qQ (HZ.out.of_block (HTC.out.block (w.heap.size + 1) (by omega) (by simp; omega)));obtain ⟨o0, o1, o2, o3, o4, o5, o6⟩ := HO2.out.box7;obtain ⟨z0, z1, z2, z3, z4, z5, z6⟩ := HZr.out.box7;have f0 := HZr.out.frozen 0;have f1 := HZr.out.frozen 1;have f2 := HZr.out.frozen 2;have f3 := HZr.out.frozen 3;have f4 := HZr.out.frozen 4;have f5 := HZr.out.frozen 5;have f6 := HZr.out.frozen 6;have lz := qW z0;have lo := qW o0;have HIr := qQ (Rep.keep _ HI.out (HTC.out.keeps fun z hz => ⟨Rep.lt _ HI.out z hz, by have := HGE.out z (List.mem_append_left _ hz); simp; omega⟩));have HRr := qQ (Rep.keep _ HR.out (HTC.out.keeps fun z hz => ⟨Rep.lt _ HR.out z hz, by have := HGE.out z (List.mem_append_right _ hz); simp; omega⟩));have HLI := qQ (qV (Rep.lt _ HI.out) (Rep.lt _ HR.out));have H5 := qQ (qV r5 (qV nd5 hb5));clear r5 nd5 hb5;go_wp2;have hnb : ∀ bs : List Nat, (∀ z ∈ bs, w.heap.size + 2 <= z) -> w.heap.size + 1 ∉ bs := fun bs h hm => by have := h _ hm; omega
    have RF := (((((((HZr.out.set 0 (.int .i64 x.kind)).set 1 (.int .i64 x.num)).set 2 (.slice AI nI cI)).set 3 (.int .i64 kI)).set 4 (.string x.read.arr)).set 5 (.slice AR x.read.subs.length cR)).set 6 (.slice Au x.kids.length cu));simp only [List.set_cons_zero, List.set_cons_succ] at RF;have BF : Below w.heap.size w (((((((wr.setCell ⟨w.heap.size + 1, 0, none⟩ (.int .i64 x.kind)).setCell ⟨w.heap.size + 1, 1, none⟩ (.int .i64 x.num)).setCell ⟨w.heap.size + 1, 2, none⟩ (.slice AI nI cI)).setCell ⟨w.heap.size + 1, 3, none⟩ (.int .i64 kI)).setCell ⟨w.heap.size + 1, 4, none⟩ (.string x.read.arr)).setCell ⟨w.heap.size + 1, 5, none⟩ (.slice AR x.read.subs.length cR)).setCell ⟨w.heap.size + 1, 6, none⟩ (.slice Au x.kids.length cu)) := bel;have KF : ∀ bs : List Nat, (∀ z ∈ bs, w.heap.size + 2 <= z) -> qD wr (((((((wr.setCell ⟨w.heap.size + 1, 0, none⟩ (.int .i64 x.kind)).setCell ⟨w.heap.size + 1, 1, none⟩ (.int .i64 x.num)).setCell ⟨w.heap.size + 1, 2, none⟩ (.slice AI nI cI)).setCell ⟨w.heap.size + 1, 3, none⟩ (.int .i64 kI)).setCell ⟨w.heap.size + 1, 4, none⟩ (.string x.read.arr)).setCell ⟨w.heap.size + 1, 5, none⟩ (.slice AR x.read.subs.length cR)).setCell ⟨w.heap.size + 1, 6, none⟩ (.slice Au x.kids.length cu)) bs := fun bs h => by
     have hz5 := hnb bs h
     repeat (first | with_reducible exact qD.refl _ _ | refine qD.setCell ?_ hz5 _)
    refine bodyPost_ret (v := .agg #[.int .i64 x.kind, .int .i64 x.num, .slice AI nI cI, .int .i64 kI, .string x.read.arr, .slice AR x.read.subs.length cR, .slice Au x.kids.length cu]) ?_ rfl ?_
    ·obtain ⟨y0, y1, y2, y3, y4, y5, y6⟩ := RF.box7
     obtain ⟨Wf, hWf⟩ : ∃ Wf, Wf = (((((((wr.setCell ⟨w.heap.size + 1, 0, none⟩ (.int .i64 x.kind)).setCell ⟨w.heap.size + 1, 1, none⟩ (.int .i64 x.num)).setCell ⟨w.heap.size + 1, 2, none⟩ (.slice AI nI cI)).setCell ⟨w.heap.size + 1, 3, none⟩ (.int .i64 kI)).setCell ⟨w.heap.size + 1, 4, none⟩ (.string x.read.arr)).setCell ⟨w.heap.size + 1, 5, none⟩ (.slice AR x.read.subs.length cR)).setCell ⟨w.heap.size + 1, 6, none⟩ (.slice Au x.kids.length cu)) := ⟨_, rfl⟩;rw [<- hWf] at y0 y1 y2 y3 y4 y5 y6 ⊢;clear hWf;simp [results, Tryz.results159, go_sem, y0, y1, y2, y3, y4, y5, y6]
    refine qYA.of ⟨[.int .i64 x.kind, .int .i64 x.num, .slice AI nI cI, .int .i64 kI, .string x.read.arr, .slice AR x.read.subs.length cR, .slice Au x.kids.length cu], dI ++ dR ++ bs5, rfl, ?_, ?_, ?_, ?_⟩
    ·have := Ex.rep_of (w := wr) (A := Au) (c := cu) (d7 := bs5) HKK.out.1 HKK.out.2 HIr.out HRr.out (ks := x.kids) H5.out.1
     rw [show (⟨x.kind, x.num, x.index, x.read, x.kids⟩ : Ex) = x by cases x; rfl] at this;exact Rep.keep _ this (KF _ (fun z hz => by
      rcases List.mem_append.1 hz with hz | hz
      ·exact (HGE.out z hz).1
      ·have := H5.out.2.2 z hz; omega))
    ·refine List.nodup_append.2 ⟨HND.out, H5.out.2.1, fun a ha b hb e => ?_⟩
     subst e;have h1 := H5.out.2.2 a hb;rcases List.mem_append.1 ha with ha | ha
     ·have := HLI.out.1 a ha; omega
     ·have := HLI.out.2 a ha; omega
    ·intro z hz
     rcases List.mem_append.1 hz with hz | hz
     ·have := (HGE.out z hz).1; omega
     ·have := H5.out.2.2 z hz; omega
    ·exact BF
theorem qGJ (x : Ex) : CpEx x := Ex.ind (P := CpEx) (fun _ hx => qGX hx) x
end Go.Proofs.YtgogjbnneoadkaaGreat
