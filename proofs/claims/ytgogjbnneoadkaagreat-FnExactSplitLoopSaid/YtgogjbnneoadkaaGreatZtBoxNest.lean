/- BoxNest of both sides. -/
import Derived.Test.YtgogjbnneoadkaaGreatZtActs
import Derived.Test.YtgogjbnneoadkaaGreatZtTotal
import Derived.Deep.OwnRows
import Derived.Test.YtgogjbnneoadkaaGreatZtCellsS
import Derived.Test.YtgogjbnneoadkaaGreatZtRectNest
import Derived.Test.YtgogjbnneoadkaaGreatZtBasic
import Derived.Test.YtgogjbnneoadkaaGreatZtTyLoop
set_option linter.all false
set_option maxHeartbeats 4000000
set_option maxRecDepth 100000
namespace Go.Proofs.YtgogjbnneoadkaaGreat
open Go.ChangeShapes Go.WideShapes Go.ChangeAt Go.RowKit Go.Deep
def fixF (x : Lp) : Int × Int × Bool := if x.lo.length = 1 ∧ x.hi.length = 1 ∧ flatF x = true then ((nthAf x.lo 0).const, (nthAf x.hi 0).const, true) else (0, 0, false)
theorem fixF_1 {x : Lp} (h : ¬ x.lo.length = 1) : fixF x = (0, 0, false) := by simp [fixF, h]
theorem fixF_2 {x : Lp} (h : ¬ x.hi.length = 1) : fixF x = (0, 0, false) := by simp [fixF, h]
theorem fixF_3 {x : Lp} (h : flatF x = false) : fixF x = (0, 0, false) := by simp [fixF, h]
theorem fixF_4 {x : Lp} (h : flatF x = true) (h1 : x.lo.length = 1) (h2 : x.hi.length = 1) : fixF x = ((nthAf x.lo 0).const, (nthAf x.hi 0).const, true) := by simp [fixF, h, h1, h2]
def Fixes (w : World) (x : Lp) (e : Ending) (w' : World) : Prop := e = .returned (.tuple #[.int .i64 (fixF x).1, .int .i64 (fixF x).2.1, .bool (fixF x).2.2]) ∧ Below w.heap.size w w'
theorem l8Const_c {w : World} {x : Lp} {cs : List Value} {bs : List Nat} (h : Rep w x.d cs bs) : Calls Tryz.prog 31 #[.agg cs.toArray] w (Fixes w x) := by
 have HH := Lib.hid h
 obtain ⟨A1, c1, A2, c2, d1, d2, rfl, rfl, g1, g2⟩ := Rep.lp_iff.1 h
 have hn1 : x.lo.length ≤ 9223372036854775807 := Nat.le_trans g1.sls_len.2.1 g1.sls_len.2.2
 have hn2 : x.hi.length ≤ 9223372036854775807 := Nat.le_trans g2.sls_len.2.1 g2.sls_len.2.2
 have L1 := Lib.hid g1; have L2 := Lib.hid g2
 clear h g1 g2
 unfold Fixes
 by_cases hl1 : x.lo.length = 1
 case neg =>
  rw [fixF_1 hl1]
  have q1 : ((x.lo.length : Int) != 1) = true := by simp; omega
  clear hl1
  go_enter Tryz.func31, Tryz.ntmps31
  go_wp2
  exact bodyPost_ret (v := .tuple #[.int .i64 0, .int .i64 0, .bool false]) (by simp [results, Tryz.results31, go_sem]) rfl ⟨rfl, bel⟩
 have q1 : ((x.lo.length : Int) != 1) = false := by simp; omega
 by_cases hl2 : x.hi.length = 1
 case neg =>
  rw [fixF_2 hl2]
  have q2 : ((x.hi.length : Int) != 1) = true := by simp; omega
  clear hl2 hl1
  go_enter Tryz.func31, Tryz.ntmps31
  go_wp2
  exact bodyPost_ret (v := .tuple #[.int .i64 0, .int .i64 0, .bool false]) (by simp [results, Tryz.results31, go_sem]) rfl ⟨rfl, bel⟩
 have q2 : ((x.hi.length : Int) != 1) = false := by simp; omega
 have HL1 := Lib.hid hl1
 have HL2 := Lib.hid hl2
 have p1 : 0 < x.lo.length := by omega
 have p2 : 0 < x.hi.length := by omega
 clear hl1 hl2
 cases hf : flatF x with
 | false =>
  rw [fixF_3 hf]
  have HF := Lib.hid hf; clear hf
  go_enter Tryz.func31, Tryz.ntmps31
  go_wp2_with fail
  refine (l2Flat_c (HH.out.below bel)).mono ?_
  rintro e w1 ⟨rfl, b1⟩
  rw [HF.out]
  go_wp2
  exact bodyPost_ret (v := .tuple #[.int .i64 0, .int .i64 0, .bool false]) (by simp [results, Tryz.results31, go_sem]) rfl ⟨rfl, bel⟩
 | true =>
  rw [fixF_4 hf HL1.out HL2.out]
  have HF := Lib.hid hf; clear hf
  have e1 : nthAf x.lo 0 = x.lo[0] := nthAf_eq p1
  have e2 : nthAf x.hi 0 = x.hi[0] := nthAf_eq p2
  rw [e1, e2]
  clear e1 e2
  go_enter Tryz.func31, Tryz.ntmps31
  go_wp2_with fail
  refine (l2Flat_c (HH.out.below bel)).mono ?_
  rintro e w1 ⟨rfl, b1⟩
  rw [HF.out]
  have P1 : Box2 w1 w.heap.size (.slice A1 x.lo.length c1) (.slice A2 x.hi.length c2) := (Box2.new w _ _ _).to b1
  have S1 : Below w.heap.size w w1 := bel
  clear b1
  obtain ⟨ba, oa, csa, la, rfl, hbla, hra, _, _, hca⟩ := (L1.out.below S1).sls_at Aff.d_size (k := 0) p1
  have Ga := Lib.hid hra
  obtain ⟨A1a, c1a, d1a, rfl, rfl, g1a, g2a⟩ := Rep.aff_iff2.1 hra
  have k0a := (hca 0 _ rfl).1; rw [Nat.add_zero] at k0a
  have k1a := (hca 1 _ rfl).1
  have Q1a := Lib.hid g1a
  have Q2a := Lib.hid g2a
  clear hca hra g1a g2a
  obtain ⟨bb, ob, csb, lb, rfl, hblb, hrb, _, _, hcb⟩ := (L2.out.below S1).sls_at Aff.d_size (k := 0) p2
  have Gb := Lib.hid hrb
  obtain ⟨A1b, c1b, d1b, rfl, rfl, g1b, g2b⟩ := Rep.aff_iff2.1 hrb
  have k0b := (hcb 0 _ rfl).1; rw [Nat.add_zero] at k0b
  have k1b := (hcb 1 _ rfl).1
  have Q1b := Lib.hid g1b
  have Q2b := Lib.hid g2b
  clear hcb hrb g1b g2b
  rw [Nat.zero_mul, Nat.add_zero] at k1a k1b
  go_wp2_with fail
  refine wp_region_noPanic ?_
  refine wp_region_held_drew (S := fun w' => Box2 w' w.heap.size (.slice (some ⟨ba, oa, none⟩) x.lo.length c1) (.slice (some ⟨bb, ob, none⟩) x.hi.length c2) ∧ w'.cell? ⟨ba, oa + 1, none⟩ = some (.int .i64 x.lo[0].const) ∧ w'.cell? ⟨bb, ob + 1, none⟩ = some (.int .i64 x.hi[0].const)) (by kernel_rfl) (⟨P1, k1a, k1b⟩) (fun hHeld => ?_)
  refine goR 0 hHeld ?_
  refine goR 1 hHeld ?_
  refine goR 2 hHeld ?_
  refine goR 3 hHeld ?_
  refine goR 4 hHeld ?_
  refine goR 5 hHeld ?_
  refine goR 6 hHeld ?_
  refine goR 7 hHeld ?_
  refine goR 8 hHeld ?_
  refine goR 9 hHeld ?_
  refine goR 10 hHeld ?_
  refine goR 11 hHeld ?_
  refine goR 12 hHeld ?_
  refine wpAnyH_done (by kernel_rfl) ?_ _
  refine NoPanic.normal ?_
  go_wp2
  exact bodyPost_ret (v := .tuple #[.int .i64 x.lo[0].const, .int .i64 x.hi[0].const, .bool true]) (by simp [results, Tryz.results31, go_sem]) rfl ⟨rfl, S1.drew⟩
theorem fixed_c {w : World} {x : Lp} {cs : List Value} {bs : List Nat} (h : Rep w x.d cs bs) : Calls Tryz.prog 37 #[.agg cs.toArray] w (Fixes w x) := by
 have HH := Lib.hid h
 obtain ⟨A1, c1, A2, c2, d1, d2, rfl, rfl, g1, g2⟩ := Rep.lp_iff.1 h
 have hn1 : x.lo.length ≤ 9223372036854775807 := Nat.le_trans g1.sls_len.2.1 g1.sls_len.2.2
 have hn2 : x.hi.length ≤ 9223372036854775807 := Nat.le_trans g2.sls_len.2.1 g2.sls_len.2.2
 have L1 := Lib.hid g1; have L2 := Lib.hid g2
 clear h g1 g2
 unfold Fixes
 by_cases hl1 : x.lo.length = 1
 case neg =>
  rw [fixF_1 hl1]
  have q1 : ((x.lo.length : Int) != 1) = true := by simp; omega
  clear hl1
  go_enter Tryz.func37, Tryz.ntmps37
  go_wp2
  exact bodyPost_ret (v := .tuple #[.int .i64 0, .int .i64 0, .bool false]) (by simp [results, Tryz.results37, go_sem]) rfl ⟨rfl, bel⟩
 have q1 : ((x.lo.length : Int) != 1) = false := by simp; omega
 by_cases hl2 : x.hi.length = 1
 case neg =>
  rw [fixF_2 hl2]
  have q2 : ((x.hi.length : Int) != 1) = true := by simp; omega
  clear hl2 hl1
  go_enter Tryz.func37, Tryz.ntmps37
  go_wp2
  exact bodyPost_ret (v := .tuple #[.int .i64 0, .int .i64 0, .bool false]) (by simp [results, Tryz.results37, go_sem]) rfl ⟨rfl, bel⟩
 have q2 : ((x.hi.length : Int) != 1) = false := by simp; omega
 have HL1 := Lib.hid hl1
 have HL2 := Lib.hid hl2
 have p1 : 0 < x.lo.length := by omega
 have p2 : 0 < x.hi.length := by omega
 clear hl1 hl2
 cases hv1 : x.lo.any deepB with
 | true =>
  rw [fixF_3 (x := x) (by simp [flatF, hv1])]
  have HF := Lib.hid hv1; clear hv1
  go_enter Tryz.func37, Tryz.ntmps37
  go_wp2_with fail
  refine (isFixed_c (L1.out.below bel)).mono ?_
  rintro e w1 ⟨rfl, b1⟩
  rw [HF.out]
  have S1 : Below w.heap.size w w1 := bel
  go_wp2
  exact bodyPost_ret (v := .tuple #[.int .i64 0, .int .i64 0, .bool false]) (by simp [results, Tryz.results37, go_sem]) rfl ⟨rfl, S1⟩
 | false =>
  have HF1 := Lib.hid hv1
  cases hv2 : x.hi.any deepB with
  | true =>
   rw [fixF_3 (x := x) (by simp [flatF, hv2])]
   have HF2 := Lib.hid hv2; clear hv1 hv2
   go_enter Tryz.func37, Tryz.ntmps37
   go_wp2_with fail
   refine (isFixed_c (L1.out.below bel)).mono ?_
   rintro e w1 ⟨rfl, b1⟩
   rw [HF1.out]
   have P1 : Box2 w1 w.heap.size (.slice A1 x.lo.length c1) (.slice A2 x.hi.length c2) := (Box2.new w _ _ _).to b1
   have S1 : Below w.heap.size w w1 := bel
   clear b1
   go_wp2_with fail
   refine (isFixed_c (L2.out.below S1)).mono ?_
   rintro e w2 ⟨rfl, b2⟩
   rw [HF2.out]
   have S2 : Below w.heap.size w w2 := below_tr S1 b2
   go_wp2
   exact bodyPost_ret (v := .tuple #[.int .i64 0, .int .i64 0, .bool false]) (by simp [results, Tryz.results37, go_sem]) rfl ⟨rfl, S2⟩
  | false =>
   rw [fixF_4 (x := x) (by simp [flatF, hv1, hv2]) HL1.out HL2.out]
   have HF2 := Lib.hid hv2; clear hv1 hv2
   have e1 : nthAf x.lo 0 = x.lo[0] := nthAf_eq p1
   have e2 : nthAf x.hi 0 = x.hi[0] := nthAf_eq p2
   rw [e1, e2]
   clear e1 e2
   go_enter Tryz.func37, Tryz.ntmps37
   go_wp2_with fail
   refine (isFixed_c (L1.out.below bel)).mono ?_
   rintro e w1 ⟨rfl, b1⟩
   rw [HF1.out]
   have P1 : Box2 w1 w.heap.size (.slice A1 x.lo.length c1) (.slice A2 x.hi.length c2) := (Box2.new w _ _ _).to b1
   have S1 : Below w.heap.size w w1 := bel
   clear b1
   go_wp2_with fail
   refine (isFixed_c (L2.out.below S1)).mono ?_
   rintro e w2 ⟨rfl, b2⟩
   rw [HF2.out]
   have P2 := P1.to b2; clear P1
   have S2 : Below w.heap.size w w2 := below_tr S1 b2
   clear b2
   obtain ⟨ba, oa, csa, la, rfl, hbla, hra, _, _, hca⟩ := (L1.out.below S2).sls_at Aff.d_size (k := 0) p1
   have Ga := Lib.hid hra
   obtain ⟨A1a, c1a, d1a, rfl, rfl, g1a, g2a⟩ := Rep.aff_iff2.1 hra
   have k0a := (hca 0 _ rfl).1; rw [Nat.add_zero] at k0a
   have k1a := (hca 1 _ rfl).1
   have Q1a := Lib.hid g1a
   have Q2a := Lib.hid g2a
   clear hca hra g1a g2a
   obtain ⟨bb, ob, csb, lb, rfl, hblb, hrb, _, _, hcb⟩ := (L2.out.below S2).sls_at Aff.d_size (k := 0) p2
   have Gb := Lib.hid hrb
   obtain ⟨A1b, c1b, d1b, rfl, rfl, g1b, g2b⟩ := Rep.aff_iff2.1 hrb
   have k0b := (hcb 0 _ rfl).1; rw [Nat.add_zero] at k0b
   have k1b := (hcb 1 _ rfl).1
   have Q1b := Lib.hid g1b
   have Q2b := Lib.hid g2b
   clear hcb hrb g1b g2b
   rw [Nat.zero_mul, Nat.add_zero] at k1a k1b
   go_wp2_with fail
   refine wp_region_noPanic ?_
   refine wp_region_held_drew (S := fun w' => Box2 w' w.heap.size (.slice (some ⟨ba, oa, none⟩) x.lo.length c1) (.slice (some ⟨bb, ob, none⟩) x.hi.length c2) ∧ w'.cell? ⟨ba, oa + 1, none⟩ = some (.int .i64 x.lo[0].const) ∧ w'.cell? ⟨bb, ob + 1, none⟩ = some (.int .i64 x.hi[0].const)) (by kernel_rfl) (⟨P2, k1a, k1b⟩) (fun hHeld => ?_)
   refine goR 0 hHeld ?_
   refine goR 1 hHeld ?_
   refine goR 2 hHeld ?_
   refine goR 3 hHeld ?_
   refine goR 4 hHeld ?_
   refine goR 5 hHeld ?_
   refine goR 6 hHeld ?_
   refine goR 7 hHeld ?_
   refine goR 8 hHeld ?_
   refine goR 9 hHeld ?_
   refine goR 10 hHeld ?_
   refine goR 11 hHeld ?_
   refine goR 12 hHeld ?_
   refine wpAnyH_done (by kernel_rfl) ?_ _
   refine NoPanic.normal ?_
   go_wp2
   exact bodyPost_ret (v := .tuple #[.int .i64 x.lo[0].const, .int .i64 x.hi[0].const, .bool true]) (by simp [results, Tryz.results37, go_sem]) rfl ⟨rfl, S2.drew⟩
section
variable {w : World} {xs : List Int} {A : Option Addr} {n c : Nat} {bs : List Nat}
theorem new_cellsN (w : World) (l : List Value) (t : TypeId) {N : Nat} (hN : w.heap.size = N) : ∀ j u, l[j]? = some u → (w.alloc (.cells l.toArray t)).cell? ⟨N, j, none⟩ = some u := by subst hN; exact new_cells w l t
theorem l1Const_c (k : Int) (hk : I64 k) (w : World) : Calls Tryz.prog 32 #[.int .i64 k] w (MadeAff w (affConst k)) := by
 have HK := Lib.hid hk; clear hk
 go_enter Tryz.func32, Tryz.ntmps32
 go_wp2_with fail
 refine (l1Zero_c _).mono ?_
 rintro e w1 ⟨A, n, c, q, bs, rfl, r1, nd, hbs, b1⟩
 obtain ⟨hq, r2, _⟩ := r1.aff
 simp only [affConst] at hq
 subst hq
 obtain ⟨hc1, hf1⟩ := bcell b1
 have hz1 : w.heap.size < w1.heap.size := by have := b1.size; simp at this; omega
 have hbs' : w.heap.size ∉ bs := fun h => by have := hbs _ h; simp at this; omega
 have HR := Lib.hid r2; clear r1 r2
 have hlt := Rep.lt _ HR.out
 go_wp2
 refine bodyPost_ret (v := .agg #[.slice A n c, .int .i64 k]) (by simp [results, Tryz.results32, go_sem, hc1, hz1]) rfl ⟨_, _, _, _, bs, rfl, Rep.aff_iff.2 ⟨_, _, _, rfl, Rep.keep _ HR.out ?_, HK.out⟩, nd, fun b hb => by have := hbs b hb; simp at this; omega, bel⟩
 repeat (first | with_reducible exact Keeps.refl _ _ | refine Keeps.setCell ?_ hbs' _ | refine Keeps.alloc ?_ (fun y hy => by have := hlt y hy; simp [World.setCell]; omega) _)
end
end Go.Proofs.YtgogjbnneoadkaaGreat
