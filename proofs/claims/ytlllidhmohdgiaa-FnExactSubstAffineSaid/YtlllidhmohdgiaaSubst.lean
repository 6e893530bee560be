/- A variable replaced: subst, SubstAffine of the program; l1Subst, SubstAffine of the reference. -/
import Derived.Test.YtlllidhmohdgiaaAdd
import Derived.Test.YtlllidhmohdgiaaMore
import Derived.Deep.RegionLaw
set_option linter.all false
set_option linter.unusedSimpArgs false
set_option linter.unusedVariables false
namespace Go.Proofs.Ytlllidhmohdgiaa
open Go.ChangeShapes Go.WideShapes Go.ChangeAt Go.RowKit Go.Deep

/-- the expression without a variable -/
def affCut (a : Aff) (v : Nat) : Aff := ⟨a.coefs.set v 0, a.const⟩
def substF (a : Aff) (v : Nat) (b : Aff) : Aff := sumF (affCut a v) (gi a.coefs v) b
def SubstAffineF (a : Aff) (v : Int) (b : Aff) : Aff × Bool := if affOk a && (affOk b && inB v 0 3) then chkF (substF a v.toNat b) else (affZero, false)
theorem affCut_ok {a : Aff} (h : affOk a = true) (v : Nat) : affOk (affCut a v) = true := by
  obtain ⟨h1, h2, h3⟩ := affOk_iff.1 h
  refine affOk_iff.2 ⟨by simp [affCut, h1], h2, fun x hx => ?_⟩
  rcases List.mem_or_eq_of_mem_set hx with hx | rfl
  · exact h3 x hx
  · omega
theorem gi_ok {a : Aff} (h : affOk a = true) (v : Nat) : -9 ≤ gi a.coefs v ∧ gi a.coefs v ≤ 9 := gi_bd (by omega) (affOk_iff.1 h).2.2 v

section
variable {w : World} {a b : Aff} {A B : Option Addr} {n c m d : Nat} {k kb : Int} {bs bs' : List Nat}

set_option maxHeartbeats 4000000 in
theorem subst_c (h : Rep w a.d [.slice A n c, .int .i64 k] bs) (hb : Rep w b.d [.slice B m d, .int .i64 kb] bs') (ha : affOk a = true) (hb2 : affOk b = true) {v : Int} (h0 : 0 ≤ v) (h4 : v < 4) :
    Calls Try.prog 63 #[.agg #[.slice A n c, .int .i64 k], .int .i64 v, .agg #[.slice B m d, .int .i64 kb]] w (MadeAff w (substF a v.toNat b)) := by
  obtain ⟨j, rfl⟩ := Int.eq_ofNat_of_zero_le h0
  have hj : j < 4 := by omega
  have hla := (affOk_iff.1 ha).1
  have hn4 : n = 4 := by rw [h.aff.2.1.ints_len.1, hla]
  subst hn4
  have HSB := Lib.hid (sumBd_of (affCut_ok ha j) hb2 (k := gi a.coefs j) (by have := gi_ok ha j; omega) (by have := gi_ok ha j; omega))
  have HLB := Lib.hid (Rep.lt _ hb)
  have HI0 := Lib.hid (show substF a ((j : Int)).toNat b = sumF (affCut a j) (gi a.coefs j) b from rfl)
  have hgi := gi_ok ha j
  have H := Lib.hid h; clear h
  have HB := Lib.hid hb; clear hb
  clear h0 h4 ha hb2
  rw [HI0.out]
  go_enter Try.func63, Try.ntmps63
  go_wp2_with fail
  refine (ownAffine_c (H.out.below (by repeat (first | with_reducible exact Below.refl _ _ | refine Below.setCell ?_ (by simp; try omega) _ | refine below_al ?_ _ | refine Below.alloc ?_ (by simp [World.setCell]; try omega) _ | refine below_drewN ?_ _ | refine Below.drew ?_ | refine below_tr ?_ ‹Below _ _ _›))) (by omega)).mono ?_
  rintro e w1 ⟨A1, n1, c1, k1, bs1, rfl, r1, nd1, hb1, b1⟩
  have P1 : Box2 w1 (w.heap.size + 1) (.slice B m d) (.int .i64 kb) := by
    refine ⟨?_, ?_⟩ <;> (rw [b1.cell (by simp [World.setCell]; try omega)]; go_simp)
  have FR1 : w1.frozen? ⟨(w.heap.size + 2), 0, none⟩ = false ∧ w1.frozen? ⟨(w.heap.size + 2), 1, none⟩ = false := by
    refine ⟨?_, ?_⟩ <;> (rw [b1.frozen (by simp [World.setCell]; try omega)]; go_simp)
  have R1 : Box2 w1 (w.heap.size + 2) (.slice none 0 0) (.int .i64 0) := by
    refine ⟨?_, ?_⟩ <;> (rw [b1.cell (by simp [World.setCell]; try omega)]; go_simp)
  have S1 : Below w.heap.size w w1 := (by repeat (first | with_reducible exact Below.refl _ _ | refine Below.setCell ?_ (by simp; try omega) _ | refine below_al ?_ _ | refine Below.alloc ?_ (by simp [World.setCell]; try omega) _ | refine below_drewN ?_ _ | refine Below.drew ?_ | refine below_tr ?_ ‹Below _ _ _›))
  obtain ⟨hk1, r2, hI⟩ := r1.aff
  obtain ⟨hn1, _, _⟩ := r2.ints_len
  rw [hla] at hn1
  subst hn1 hk1
  obtain ⟨b0, o, rfl, hbs, hbl, hc, hf⟩ := r2.ints_at (k := j) (by omega)
  subst hbs
  have hb0 : w.heap.size + 3 ≤ b0 := by have := hb1 b0 (by simp); simpa using this
  have hset := r2.ints_set (j := j) (v := 0) (by omega) (by unfold I64; omega)
  have HR := Lib.hid (And.intro hset hI); clear hset hb1 nd1 r1 r2 b1 hI
  have hz := S1.size
  obtain ⟨W, hW⟩ : ∃ W, W = (w1.setCell ⟨b0, o + j, none⟩ (.int .i64 0)).alloc (.cells #[.slice (some ⟨b0, o, none⟩) 4 c1, .int .i64 a.const] 26) := ⟨_, rfl⟩
  have hsz : (w1.setCell ⟨b0, o + j, none⟩ (.int .i64 0)).heap.size = w1.heap.size := by simp [World.setCell]
  have BW : Below (w.heap.size + 3) w1 W := by rw [hW]; exact ((Below.refl _ _).setCell hb0 _).alloc (by rw [hsz]; omega) _
  have BWw : Below w.heap.size w W := S1.trans (BW.mono (by omega))
  have HQ := Lib.hid (show Rep W (affCut a j).d [.slice (some ⟨b0, o, none⟩) 4 c1, .int .i64 a.const] [b0] from by
    have h1 := HR.out.1
    have h2 : Rep (w1.setCell ⟨b0, o + j, none⟩ (.int .i64 0)) (affCut a j).d [.slice (some ⟨b0, o, none⟩) 4 c1, .int .i64 a.const] [b0] := Rep.aff_iff.2 ⟨_, _, _, rfl, h1, HR.out.2⟩
    rw [hW]; exact h2.below ((Below.refl _ _).alloc (Nat.le_refl _) _))
  have HBW := Lib.hid (HB.out.below BWw)
  have RW : Box2 W (w.heap.size + 2) (.slice none 0 0) (.int .i64 0) := ⟨(BW.cell (p := ⟨w.heap.size + 2, 0, none⟩) (by simp; try omega)).trans R1.1, (BW.cell (p := ⟨w.heap.size + 2, 1, none⟩) (by simp; try omega)).trans R1.2⟩
  have FW : W.frozen? ⟨w.heap.size + 2, 0, none⟩ = false ∧ W.frozen? ⟨w.heap.size + 2, 1, none⟩ = false := ⟨(BW.frozen (p := ⟨w.heap.size + 2, 0, none⟩) (by simp; try omega)).trans FR1.1, (BW.frozen (p := ⟨w.heap.size + 2, 1, none⟩) (by simp; try omega)).trans FR1.2⟩
  have HW := Lib.hid hW; clear hW
  have hP := lt_of_cell P1.1
  have hne1 : ¬ b0 = w1.heap.size := by omega
  have hne2 : ¬ w1.heap.size = b0 := by omega
  have hne3 : ¬ b0 = w.heap.size + 1 := by omega
  have hne4 : ¬ w.heap.size + 1 = b0 := by omega
  go_wp2_with fail
  rw [← HW.out]
  refine (sum_c HQ.out HBW.out HSB.out).mono ?_
  rintro e w2 ⟨A2, n2, c2, k2, bs2, rfl, r2, nd2, hb2, b2⟩
  have hzW : w.heap.size + 3 ≤ W.heap.size := Nat.le_trans (by have := BW.size; have := lt_of_cell R1.1; omega) BW.size
  have R2 := RW.to b2
  have F2 : w2.frozen? ⟨w.heap.size + 2, 0, none⟩ = false ∧ w2.frozen? ⟨w.heap.size + 2, 1, none⟩ = false := ⟨(b2.frozen (p := ⟨w.heap.size + 2, 0, none⟩) (by simp; try omega)).trans FW.1, (b2.frozen (p := ⟨w.heap.size + 2, 1, none⟩) (by simp; try omega)).trans FW.2⟩
  have S2 := below_tr BWw b2
  have hn2 : w.heap.size + 2 ∉ bs2 := fun hx => by have := hb2 _ hx; omega
  have H2 := Lib.hid (And.intro r2 (And.intro nd2 hb2)); clear r2 nd2 hb2
  clear RW FW R1 FR1 P1 BW
  go_wp2
  refine bodyPost_ret (v := .agg #[.slice A2 n2 c2, .int .i64 k2]) (by simp [results, Try.results63, go_sem, R2]) rfl ⟨_, _, _, _, bs2, rfl, Rep.keep _ H2.out.1 (((Keeps.refl _ _).setCell hn2 _).setCell hn2 _), H2.out.2.1, fun x hx => by have := H2.out.2.2 x hx; omega, (S2.setCell (by simp; try omega) _).setCell (by simp; try omega) _⟩
set_option maxRecDepth 100000 in
set_option maxHeartbeats 4000000 in
theorem l1Subst_c (h : Rep w a.d [.slice A n c, .int .i64 k] bs) (hb : Rep w b.d [.slice B m d, .int .i64 kb] bs') (ha : affOk a = true) (hb2 : affOk b = true) {v : Int} (h0 : 0 ≤ v) (h4 : v < 4) :
    Calls Try.prog 59 #[.agg #[.slice A n c, .int .i64 k], .int .i64 v, .agg #[.slice B m d, .int .i64 kb]] w (MadeAff w (substF a v.toNat b)) := by
  obtain ⟨j, rfl⟩ := Int.eq_ofNat_of_zero_le h0
  have hj : j < 4 := by omega
  have hla := (affOk_iff.1 ha).1
  obtain ⟨hka, hra, hI⟩ := h.aff
  have hn4 : n = 4 := by rw [hra.ints_len.1, hla]
  subst hn4 hka
  have HCB := Lib.hid (combBd_of (affCut_ok ha j) hb2 (p := 1) (q := gi a.coefs j) (by omega) (by omega) (by have := gi_ok ha j; omega) (by have := gi_ok ha j; omega))
  have HI0 := Lib.hid (show substF a ((j : Int)).toNat b = sumF (affCut a j) (gi a.coefs j) b from rfl)
  obtain ⟨ba, oa, rfl, _, hba, hca, _⟩ := hra.ints_at (k := j) (by omega)
  have HA := Lib.hid (And.intro hra hI); clear h hra hI
  have HLA := Lib.hid (Rep.lt _ HA.out.1)
  have HB := Lib.hid hb; clear hb
  clear h0 h4 ha hb2
  rw [HI0.out]
  go_enter Try.func59, Try.ntmps59
  go_upto_region 1 with (fail)
  go_cut [7] (fun u wc => ∃ (g bq oq cq : Nat), u = .pointer (some ⟨g, 0, none⟩) ∧ BoxW wc g (.slice (some ⟨bq, oq, none⟩) 4 cq) (.int .i64 a.const) ∧ Rep wc (ints a.coefs) [.slice (some ⟨bq, oq, none⟩) 4 cq] [bq] ∧ bq ≠ g ∧ w.heap.size + 3 ≤ bq ∧ w.heap.size + 3 ≤ g ∧
    Box2 wc w.heap.size (.slice (some ⟨ba, oa, none⟩) 4 c) (.int .i64 a.const) ∧ Box2 wc (w.heap.size + 1) (.slice B m d) (.int .i64 kb) ∧ BoxW wc (w.heap.size + 2) (.slice none 0 0) (.int .i64 0) ∧ Below w.heap.size w wc)
  case first =>
    go_region_held3 (fun w' => Box2 w' w.heap.size (.slice (some ⟨ba, oa, none⟩) 4 c) (.int .i64 a.const)) (first | (refine ⟨?_, ?_⟩ <;> (go_simp; done)) | exact Q4 | (refine Q4.to ?_; (repeat (first | with_reducible exact Below.refl _ _ | refine Below.setCell ?_ (by simp; try omega) _ | refine below_al ?_ _ | refine Below.alloc ?_ (by simp [World.setCell]; try omega) _ | refine below_drewN ?_ _ | refine Below.drew ?_ | refine below_tr ?_ ‹Below _ _ _›)); done) | skip)
      (first
        | (refine wp_append_copy (B := w.heap.size + 3) (.tmp 8) (.tmp 10) rfl Try.underlying22 Try.infoInt rfl ?hG rfl (HA.out.1.below (by repeat (first | with_reducible exact Below.refl _ _ | refine Below.setCell ?_ (by simp; try omega) _ | refine below_al ?_ _ | refine Below.alloc ?_ (by simp [World.setCell]; try omega) _ | refine below_drewN ?_ _ | refine Below.drew ?_ | refine below_tr ?_ ‹Below _ _ _›))) (by omega) (by first | (simp; done) | (simp; omega) | omega) ?_
           case hG => (repeat (first | exact Grow.madeE _ _ (by simp) (by simp) | refine Grow.drewG ?_ | refine Grow.allocG ?_ _))
           intro v4 w4 hG4 hg4
           obtain ⟨A4, c4, bs4, rfl, r4, nd4, hb4, ho4⟩ := hG4.ints
           have Q4 : Box2 w4 w.heap.size (.slice (some ⟨ba, oa, none⟩) 4 c) (.int .i64 a.const) := hg4.touch.box2 ⟨by go_simp, by go_simp⟩ (fun hm => by have h5 : some _ = some w.heap.size := mem_ownL.1 hm; have h6 := Option.some.inj h5; clear h5; simp at h6; omega)
           have b4 : Below (w.heap.size + 3) _ w4 := hg4.below (by first | (simp; done) | (simp; omega) | omega) (fun y hy => by have h5 : some _ = some y := hy; have h6 := Option.some.inj h5; clear h5 hy; simp at h6; omega)
           have B4 := b4.mono (show w.heap.size ≤ w.heap.size + 3 by omega)
           clear hG4
           try (refine have_of (Q := BoxW w4 (w.heap.size + 4) (.slice none 0 0) (.int .i64 0)) ?hq ?_
                case hq => (refine hg4.touch.boxW ⟨⟨?_, ?_⟩, ?_, ?_⟩ ?_ <;> first | (go_simp; done) | (intro hm; have h5 : some _ = some (w.heap.size + 4) := mem_ownL.1 hm; have h6 := Option.some.inj h5; clear h5; simp at h6; done))
                rintro ⟨⟨Q5a, Q5b⟩, Q5c, Q5d⟩)
           try (refine have_of (Q := BoxW w4 (w.heap.size + 3) (.slice none 0 0) (.int .i64 0)) ?hq ?_
                case hq => (refine hg4.touch.boxW ⟨⟨?_, ?_⟩, ?_, ?_⟩ ?_ <;> first | (go_simp; done) | (intro hm; have h5 : some _ = some (w.heap.size + 3) := mem_ownL.1 hm; have h6 := Option.some.inj h5; clear h5; simp at h6; done))
                rintro ⟨⟨Q5a, Q5b⟩, Q5c, Q5d⟩)))
    all_goals
      (go_wp2_with fail
       go_meet
       rw [hla] at r4
       have z4 := b4.size
       simp at z4
       have o4 := hg4.own
       obtain ⟨bq, oq, rfl, hbs4, hbq, _, _⟩ := r4.ints_at (k := 0) (by omega)
       subst hbs4
       have hbB := hb4 bq (by simp)
       have hq := o4 bq (by simp [Value.ownBlock])
       clear o4 ho4 hb4
       simp [Value.ownBlock] at hq
       refine ⟨_, bq, oq, c4, rfl, ⟨⟨by go_simp, by go_simp⟩, by go_simp, by go_simp⟩, ?_, ?_, hbB, ?_, ?_, ?_, ?_, ?_⟩
       · refine Rep.keep _ r4 ?_
         first | exact Keeps.refl _ _ | (refine ((Keeps.refl _ _).setCell ?_ _).setCell ?_ _ <;> (simp; omega)) | (refine (Keeps.refl _ _).alloc (fun x hx => ?_) _; simp at hx; omega)
       · omega
       · omega
       · refine Box2.toB (w := ((w.alloc (.cells #[.slice (some ⟨ba, oa, none⟩) 4 c, .int .i64 a.const] 26)).alloc (.cells #[.slice B m d, .int .i64 kb] 26)).alloc (.cells #[.slice none 0 0, .int .i64 0] 26)) (B := w.heap.size + 3) ⟨by go_simp, by go_simp⟩ (by omega) ?_
         (repeat (first | with_reducible exact Below.refl _ _ | refine Below.setCell ?_ (by simp; try omega) _ | refine Below.alloc ?_ (by first | omega | (simp [World.setCell]; try omega)) _ | refine Below.drew ?_ | refine Below.trans ?_ b4 | refine Below.trans ?_ B4))
       · refine Box2.toB (w := ((w.alloc (.cells #[.slice (some ⟨ba, oa, none⟩) 4 c, .int .i64 a.const] 26)).alloc (.cells #[.slice B m d, .int .i64 kb] 26)).alloc (.cells #[.slice none 0 0, .int .i64 0] 26)) (B := w.heap.size + 3) ⟨by go_simp, by go_simp⟩ (by omega) ?_
         (repeat (first | with_reducible exact Below.refl _ _ | refine Below.setCell ?_ (by simp; try omega) _ | refine Below.alloc ?_ (by first | omega | (simp [World.setCell]; try omega)) _ | refine Below.drew ?_ | refine Below.trans ?_ b4 | refine Below.trans ?_ B4))
       · refine BoxW.toB (w := ((w.alloc (.cells #[.slice (some ⟨ba, oa, none⟩) 4 c, .int .i64 a.const] 26)).alloc (.cells #[.slice B m d, .int .i64 kb] 26)).alloc (.cells #[.slice none 0 0, .int .i64 0] 26)) (B := w.heap.size + 3) ⟨⟨by go_simp, by go_simp⟩, by go_simp, by go_simp⟩ (by omega) ?_
         (repeat (first | with_reducible exact Below.refl _ _ | refine Below.setCell ?_ (by simp; try omega) _ | refine Below.alloc ?_ (by first | omega | (simp [World.setCell]; try omega)) _ | refine Below.drew ?_ | refine Below.trans ?_ b4 | refine Below.trans ?_ B4))
       · (repeat (first | with_reducible exact Below.refl _ _ | refine Below.setCell ?_ (by simp; try omega) _ | refine Below.alloc ?_ (by first | omega | (simp [World.setCell]; try omega)) _ | refine Below.drew ?_ | refine Below.trans ?_ b4 | refine Below.trans ?_ B4)))
  case rest =>
    obtain ⟨g, bq, oq, cq, rfl, G0, r4, hne, hq3, hg3, P2, Q2, R0, b2⟩ := hcut
    obtain ⟨bx, ox, he, _, hbq, hcq, hfq⟩ := r4.ints_at (k := j) (by omega)
    simp only [Option.some.injEq, Addr.mk.injEq, and_true] at he
    obtain ⟨rfl, rfl⟩ := he
    obtain ⟨W, hW⟩ : ∃ W, W = wc.setCell ⟨bq, oq + j, none⟩ (.int .i64 0) := ⟨_, rfl⟩
    have BW : Below w.heap.size w W := by rw [hW]; exact b2.setCell (by simp; omega) _
    have hset := r4.ints_set (j := j) (v := 0) (by omega) (by unfold I64; omega)
    have HQ := Lib.hid (show Rep W (affCut a j).d [.slice (some ⟨bq, oq, none⟩) 4 cq, .int .i64 a.const] [bq] from by rw [hW]; exact Rep.aff_iff.2 ⟨_, _, _, rfl, hset, HA.out.2⟩)
    clear hset
    obtain ⟨⟨G1, G2⟩, _, _⟩ := G0
    have G : Box2 W g (.slice (some ⟨bq, oq, none⟩) 4 cq) (.int .i64 a.const) := by rw [hW]; exact Box2.set ⟨G1, G2⟩ hne _
    have P := (show Box2 W w.heap.size _ _ from by rw [hW]; exact P2.set (by simp; omega) _)
    have Q := (show Box2 W (w.heap.size + 1) _ _ from by rw [hW]; exact Q2.set (by simp; omega) _)
    have R : BoxW W (w.heap.size + 2) (.slice none 0 0) (.int .i64 0) := by rw [hW]; exact BoxW.toB (B := w.heap.size + 3) R0 (by omega) ((Below.refl _ _).setCell (by simp; omega) _)
    have C : W.cell? ⟨ba, oa + j, none⟩ = some (.int .i64 (gi a.coefs j)) := (BW.cell (p := ⟨ba, oa + j, none⟩) hba).trans hca
    have HW := Lib.hid hW
    have HBW := Lib.hid (HB.out.below BW)
    have hz : w.heap.size + 2 < W.heap.size := lt_of_cell R.1.1
    clear hW P2 Q2 R0 b2 r4
    have hji : (j : Int) < 4 := by omega
    have hj0 : (0 : Int) ≤ j := by omega
    go_upto_region 3 with (fail)
    rw [← HW.out]
    clear G1 G2 hcq hfq HW
    go_region_held3 (fun w' => Box2 w' g (.slice (some ⟨bq, oq, none⟩) 4 cq) (.int .i64 a.const) ∧ Box2 w' w.heap.size (.slice (some ⟨ba, oa, none⟩) 4 c) (.int .i64 a.const) ∧ Box2 w' (w.heap.size + 1) (.slice B m d) (.int .i64 kb) ∧ w'.cell? ⟨ba, oa + j, none⟩ = some (.int .i64 (gi a.coefs j))) (first | exact ⟨G, P, Q, C⟩ | exact ⟨G.to (of_drew b5), P.to (of_drew b5), Q.to (of_drew b5), ((of_drew b5).cell (lt_of_cell C)).trans C⟩ | (refine ⟨((G.to (of_drew b5)).set ?_ _).set ?_ _, ((P.to (of_drew b5)).set ?_ _).set ?_ _, ((Q.to (of_drew b5)).set ?_ _).set ?_ _, (((((of_drew b5).mono (show w.heap.size ≤ _ by omega)).setCell ?_ _).setCell ?_ _).cell (p := ⟨ba, oa + j, none⟩) hba).trans C⟩ <;> (simp <;> omega)) | skip)
      (first | (go_at_call 123; refine (l1CombineSum_c (HQ.out.below (of_drew (Below.refl _ _))) (HBW.out.below (of_drew (Below.refl _ _))) HCB.out).mono ?_; rintro e w5 ⟨A5, n5, c5, k5, bs5, rfl, r5, nd5, hb5, b5⟩; have R5 := BoxW.to R (of_drew b5); obtain ⟨⟨R5a, R5b⟩, R5c, R5d⟩ := R5))
    go_wp2
    have S5 : Below w.heap.size w w5 := BW.trans ((of_drew b5).mono (by omega))
    have hge5 : ∀ x ∈ bs5, w.heap.size + 3 ≤ x := fun x hx => by have := hb5 x hx; simp at this; omega
    have hn5 : w.heap.size + 2 ∉ bs5 := fun hx => by have := hge5 _ hx; omega
    exact bodyPost_ret (v := .agg #[.slice A5 n5 c5, .int .i64 k5]) (by simp [results, Try.results59, go_sem, R5a, R5b]) rfl ⟨_, _, _, _, bs5, rfl, Rep.keep _ r5 (((Keeps.refl _ _).setCell hn5 _).setCell hn5 _), nd5, fun x hx => by have := hge5 x hx; omega, (S5.setCell (by simp; try omega) _).setCell (by simp; try omega) _⟩
set_option maxHeartbeats 4000000 in
theorem implSubstAffine_c (h : Rep w a.d [.slice A n c, .int .i64 k] bs) (hb : Rep w b.d [.slice B m d, .int .i64 kb] bs') {v : Int} :
    Calls Try.prog 17 #[.agg #[.slice A n c, .int .i64 k], .int .i64 v, .agg #[.slice B m d, .int .i64 kb]] w (MadeAffB w (SubstAffineF a v b).1 (SubstAffineF a v b).2) := by
  have H := Lib.hid h; clear h
  have HB := Lib.hid hb; clear hb
  cases hv : affOk a with
  | false =>
    have HF := Lib.hid (show SubstAffineF a v b = (affZero, false) by simp [SubstAffineF, hv])
    have HV := Lib.hid hv; clear hv
    go_enter Try.func17, Try.ntmps17
    go_wp2_with fail
    refine (implAffineValid_c (H.out.below (by repeat (first | with_reducible exact Below.refl _ _ | refine Below.setCell ?_ (by simp; try omega) _ | refine below_al ?_ _ | refine Below.alloc ?_ (by simp [World.setCell]; try omega) _ | refine below_drewN ?_ _ | refine Below.drew ?_ | refine below_tr ?_ ‹Below _ _ _›)))).mono ?_
    rintro e w1 ⟨rfl, b1⟩
    have P1 : Box2 w1 w.heap.size (.slice A n c) (.int .i64 k) := by
      refine ⟨?_, ?_⟩ <;> (rw [b1.cell (by simp [World.setCell]; try omega)]; go_simp)
    have Q1 : Box2 w1 (w.heap.size + 1) (.slice B m d) (.int .i64 kb) := by
      refine ⟨?_, ?_⟩ <;> (rw [b1.cell (by simp [World.setCell]; try omega)]; go_simp)
    have FR1 : w1.frozen? ⟨(w.heap.size + 2), 0, none⟩ = false ∧ w1.frozen? ⟨(w.heap.size + 2), 1, none⟩ = false := by
      refine ⟨?_, ?_⟩ <;> (rw [b1.frozen (by simp [World.setCell]; try omega)]; go_simp)
    have R1 : Box2 w1 (w.heap.size + 2) (.slice none 0 0) (.int .i64 0) := by
      refine ⟨?_, ?_⟩ <;> (rw [b1.cell (by simp [World.setCell]; try omega)]; go_simp)
    have S1 : Below w.heap.size w w1 := (by repeat (first | with_reducible exact Below.refl _ _ | refine Below.setCell ?_ (by simp; try omega) _ | refine below_al ?_ _ | refine Below.alloc ?_ (by simp [World.setCell]; try omega) _ | refine below_drewN ?_ _ | refine Below.drew ?_ | refine below_tr ?_ ‹Below _ _ _›))
    clear b1
    rw [HV.out]
    go_wp2
    exact bodyPost_ret (v := .tuple #[.agg #[.slice none 0 0, .int .i64 0], .bool false]) (by simp [results, Try.results17, go_sem, R1]) rfl ⟨_, _, _, _, [], by rw [HF.out], by rw [HF.out]; exact Rep.affZero, by simp, by simp, (S1.setCell (by simp; try omega) _).setCell (by simp; try omega) _⟩
  | true =>
  cases hvb : affOk b with
  | false =>
    have HF := Lib.hid (show SubstAffineF a v b = (affZero, false) by simp [SubstAffineF, hvb])
    have HV := Lib.hid hv; clear hv
    have HVB := Lib.hid hvb; clear hvb
    go_enter Try.func17, Try.ntmps17
    go_wp2_with fail
    refine (implAffineValid_c (H.out.below (by repeat (first | with_reducible exact Below.refl _ _ | refine Below.setCell ?_ (by simp; try omega) _ | refine below_al ?_ _ | refine Below.alloc ?_ (by simp [World.setCell]; try omega) _ | refine below_drewN ?_ _ | refine Below.drew ?_ | refine below_tr ?_ ‹Below _ _ _›)))).mono ?_
    rintro e w2 ⟨rfl, b2⟩
    have P2 : Box2 w2 w.heap.size (.slice A n c) (.int .i64 k) := by
      refine ⟨?_, ?_⟩ <;> (rw [b2.cell (by simp [World.setCell]; try omega)]; go_simp)
    have Q2 : Box2 w2 (w.heap.size + 1) (.slice B m d) (.int .i64 kb) := by
      refine ⟨?_, ?_⟩ <;> (rw [b2.cell (by simp [World.setCell]; try omega)]; go_simp)
    have FR2 : w2.frozen? ⟨(w.heap.size + 2), 0, none⟩ = false ∧ w2.frozen? ⟨(w.heap.size + 2), 1, none⟩ = false := by
      refine ⟨?_, ?_⟩ <;> (rw [b2.frozen (by simp [World.setCell]; try omega)]; go_simp)
    have R2 : Box2 w2 (w.heap.size + 2) (.slice none 0 0) (.int .i64 0) := by
      refine ⟨?_, ?_⟩ <;> (rw [b2.cell (by simp [World.setCell]; try omega)]; go_simp)
    have S2 : Below w.heap.size w w2 := (by repeat (first | with_reducible exact Below.refl _ _ | refine Below.setCell ?_ (by simp; try omega) _ | refine below_al ?_ _ | refine Below.alloc ?_ (by simp [World.setCell]; try omega) _ | refine below_drewN ?_ _ | refine Below.drew ?_ | refine below_tr ?_ ‹Below _ _ _›))
    clear b2
    rw [HV.out]
    go_wp2_with fail
    refine (implAffineValid_c (HB.out.below (by repeat (first | with_reducible exact Below.refl _ _ | refine Below.setCell ?_ (by simp; try omega) _ | refine below_al ?_ _ | refine Below.alloc ?_ (by simp [World.setCell]; try omega) _ | refine below_drewN ?_ _ | refine Below.drew ?_ | refine below_tr ?_ ‹Below _ _ _›)))).mono ?_
    rintro e w3 ⟨rfl, b3⟩
    have s3 : Below w2.heap.size w2 w3 := (by repeat (first | with_reducible exact Below.refl _ _ | refine Below.setCell ?_ (by simp; try omega) _ | refine below_al ?_ _ | refine Below.alloc ?_ (by simp [World.setCell]; try omega) _ | refine below_drewN ?_ _ | refine Below.drew ?_ | refine below_tr ?_ ‹Below _ _ _›))
    have P3 := P2.to s3; clear P2
    have Q3 := Q2.to s3; clear Q2
    have FR3 : w3.frozen? ⟨(w.heap.size + 2), 0, none⟩ = false ∧ w3.frozen? ⟨(w.heap.size + 2), 1, none⟩ = false := ⟨(s3.frozen (p := ⟨(w.heap.size + 2), 0, none⟩) (lt_of_cell R2.1)).trans FR2.1, (s3.frozen (p := ⟨(w.heap.size + 2), 1, none⟩) (lt_of_cell R2.1)).trans FR2.2⟩; clear FR2
    have R3 := R2.to s3; clear R2
    have S3 : Below w.heap.size w w3 := below_tr S2 s3
    clear s3
    clear b3
    rw [HVB.out]
    go_wp2
    exact bodyPost_ret (v := .tuple #[.agg #[.slice none 0 0, .int .i64 0], .bool false]) (by simp [results, Try.results17, go_sem, R3]) rfl ⟨_, _, _, _, [], by rw [HF.out], by rw [HF.out]; exact Rep.affZero, by simp, by simp, (S3.setCell (by simp; try omega) _).setCell (by simp; try omega) _⟩
  | true =>
  cases hx : inB v 0 3 with
  | false =>
    have HF := Lib.hid (show SubstAffineF a v b = (affZero, false) by simp [SubstAffineF, hx])
    have HV := Lib.hid hv; clear hv
    have HVB := Lib.hid hvb; clear hvb
    have HX := Lib.hid (show isVarB v = false from hx); clear hx
    go_enter Try.func17, Try.ntmps17
    go_wp2_with fail
    refine (implAffineValid_c (H.out.below (by repeat (first | with_reducible exact Below.refl _ _ | refine Below.setCell ?_ (by simp; try omega) _ | refine below_al ?_ _ | refine Below.alloc ?_ (by simp [World.setCell]; try omega) _ | refine below_drewN ?_ _ | refine Below.drew ?_ | refine below_tr ?_ ‹Below _ _ _›)))).mono ?_
    rintro e w4 ⟨rfl, b4⟩
    have P4 : Box2 w4 w.heap.size (.slice A n c) (.int .i64 k) := by
      refine ⟨?_, ?_⟩ <;> (rw [b4.cell (by simp [World.setCell]; try omega)]; go_simp)
    have Q4 : Box2 w4 (w.heap.size + 1) (.slice B m d) (.int .i64 kb) := by
      refine ⟨?_, ?_⟩ <;> (rw [b4.cell (by simp [World.setCell]; try omega)]; go_simp)
    have FR4 : w4.frozen? ⟨(w.heap.size + 2), 0, none⟩ = false ∧ w4.frozen? ⟨(w.heap.size + 2), 1, none⟩ = false := by
      refine ⟨?_, ?_⟩ <;> (rw [b4.frozen (by simp [World.setCell]; try omega)]; go_simp)
    have R4 : Box2 w4 (w.heap.size + 2) (.slice none 0 0) (.int .i64 0) := by
      refine ⟨?_, ?_⟩ <;> (rw [b4.cell (by simp [World.setCell]; try omega)]; go_simp)
    have S4 : Below w.heap.size w w4 := (by repeat (first | with_reducible exact Below.refl _ _ | refine Below.setCell ?_ (by simp; try omega) _ | refine below_al ?_ _ | refine Below.alloc ?_ (by simp [World.setCell]; try omega) _ | refine below_drewN ?_ _ | refine Below.drew ?_ | refine below_tr ?_ ‹Below _ _ _›))
    clear b4
    rw [HV.out]
    go_wp2_with fail
    refine (implAffineValid_c (HB.out.below (by repeat (first | with_reducible exact Below.refl _ _ | refine Below.setCell ?_ (by simp; try omega) _ | refine below_al ?_ _ | refine Below.alloc ?_ (by simp [World.setCell]; try omega) _ | refine below_drewN ?_ _ | refine Below.drew ?_ | refine below_tr ?_ ‹Below _ _ _›)))).mono ?_
    rintro e w5 ⟨rfl, b5⟩
    have s5 : Below w4.heap.size w4 w5 := (by repeat (first | with_reducible exact Below.refl _ _ | refine Below.setCell ?_ (by simp; try omega) _ | refine below_al ?_ _ | refine Below.alloc ?_ (by simp [World.setCell]; try omega) _ | refine below_drewN ?_ _ | refine Below.drew ?_ | refine below_tr ?_ ‹Below _ _ _›))
    have P5 := P4.to s5; clear P4
    have Q5 := Q4.to s5; clear Q4
    have FR5 : w5.frozen? ⟨(w.heap.size + 2), 0, none⟩ = false ∧ w5.frozen? ⟨(w.heap.size + 2), 1, none⟩ = false := ⟨(s5.frozen (p := ⟨(w.heap.size + 2), 0, none⟩) (lt_of_cell R4.1)).trans FR4.1, (s5.frozen (p := ⟨(w.heap.size + 2), 1, none⟩) (lt_of_cell R4.1)).trans FR4.2⟩; clear FR4
    have R5 := R4.to s5; clear R4
    have S5 : Below w.heap.size w w5 := below_tr S4 s5
    clear s5
    clear b5
    rw [HVB.out]
    go_wp2_with fail
    refine (isVar_c _ _).mono ?_
    rintro e w3 ⟨rfl, rfl⟩
    rw [HX.out]
    go_wp2
    exact bodyPost_ret (v := .tuple #[.agg #[.slice none 0 0, .int .i64 0], .bool false]) (by simp [results, Try.results17, go_sem, R5]) rfl ⟨_, _, _, _, [], by rw [HF.out], by rw [HF.out]; exact Rep.affZero, by simp, by simp, (S5.setCell (by simp; try omega) _).setCell (by simp; try omega) _⟩
  | true =>
    have HF := Lib.hid (show SubstAffineF a v b = chkF (substF a v.toNat b) by simp [SubstAffineF, hv, hvb, hx])
    have HX0 := Lib.hid (show 0 ≤ v ∧ v < 4 by have := inB_iff.1 hx; omega)
    have HV := Lib.hid hv; clear hv
    have HVB := Lib.hid hvb; clear hvb
    have HX := Lib.hid (show isVarB v = true from hx); clear hx
    cases hs : affOk (substF a v.toNat b) with
    | true =>
      have HG := Lib.hid (And.intro hs (show chkF (substF a v.toNat b) = (substF a v.toNat b, true) by simp [chkF, hs]))
      clear hs
      go_enter Try.func17, Try.ntmps17
      go_wp2_with fail
      refine (implAffineValid_c (H.out.below (by repeat (first | with_reducible exact Below.refl _ _ | refine Below.setCell ?_ (by simp; try omega) _ | refine below_al ?_ _ | refine Below.alloc ?_ (by simp [World.setCell]; try omega) _ | refine below_drewN ?_ _ | refine Below.drew ?_ | refine below_tr ?_ ‹Below _ _ _›)))).mono ?_
      rintro e w6 ⟨rfl, b6⟩
      have P6 : Box2 w6 w.heap.size (.slice A n c) (.int .i64 k) := by
        refine ⟨?_, ?_⟩ <;> (rw [b6.cell (by simp [World.setCell]; try omega)]; go_simp)
      have Q6 : Box2 w6 (w.heap.size + 1) (.slice B m d) (.int .i64 kb) := by
        refine ⟨?_, ?_⟩ <;> (rw [b6.cell (by simp [World.setCell]; try omega)]; go_simp)
      have FR6 : w6.frozen? ⟨(w.heap.size + 2), 0, none⟩ = false ∧ w6.frozen? ⟨(w.heap.size + 2), 1, none⟩ = false := by
        refine ⟨?_, ?_⟩ <;> (rw [b6.frozen (by simp [World.setCell]; try omega)]; go_simp)
      have R6 : Box2 w6 (w.heap.size + 2) (.slice none 0 0) (.int .i64 0) := by
        refine ⟨?_, ?_⟩ <;> (rw [b6.cell (by simp [World.setCell]; try omega)]; go_simp)
      have S6 : Below w.heap.size w w6 := (by repeat (first | with_reducible exact Below.refl _ _ | refine Below.setCell ?_ (by simp; try omega) _ | refine below_al ?_ _ | refine Below.alloc ?_ (by simp [World.setCell]; try omega) _ | refine below_drewN ?_ _ | refine Below.drew ?_ | refine below_tr ?_ ‹Below _ _ _›))
      clear b6
      rw [HV.out]
      go_wp2_with fail
      refine (implAffineValid_c (HB.out.below (by repeat (first | with_reducible exact Below.refl _ _ | refine Below.setCell ?_ (by simp; try omega) _ | refine below_al ?_ _ | refine Below.alloc ?_ (by simp [World.setCell]; try omega) _ | refine below_drewN ?_ _ | refine Below.drew ?_ | refine below_tr ?_ ‹Below _ _ _›)))).mono ?_
      rintro e w7 ⟨rfl, b7⟩
      have s7 : Below w6.heap.size w6 w7 := (by repeat (first | with_reducible exact Below.refl _ _ | refine Below.setCell ?_ (by simp; try omega) _ | refine below_al ?_ _ | refine Below.alloc ?_ (by simp [World.setCell]; try omega) _ | refine below_drewN ?_ _ | refine Below.drew ?_ | refine below_tr ?_ ‹Below _ _ _›))
      have P7 := P6.to s7; clear P6
      have Q7 := Q6.to s7; clear Q6
      have FR7 : w7.frozen? ⟨(w.heap.size + 2), 0, none⟩ = false ∧ w7.frozen? ⟨(w.heap.size + 2), 1, none⟩ = false := ⟨(s7.frozen (p := ⟨(w.heap.size + 2), 0, none⟩) (lt_of_cell R6.1)).trans FR6.1, (s7.frozen (p := ⟨(w.heap.size + 2), 1, none⟩) (lt_of_cell R6.1)).trans FR6.2⟩; clear FR6
      have R7 := R6.to s7; clear R6
      have S7 : Below w.heap.size w w7 := below_tr S6 s7
      clear s7
      clear b7
      rw [HVB.out]
      go_wp2_with fail
      refine (isVar_c _ _).mono ?_
      rintro e w3 ⟨rfl, rfl⟩
      rw [HX.out]
      have hz2 := lt_of_cell R7.1
      go_wp2_with fail
      refine (subst_c (H.out.below (by repeat (first | with_reducible exact Below.refl _ _ | refine Below.setCell ?_ (by simp; try omega) _ | refine below_al ?_ _ | refine Below.alloc ?_ (by simp [World.setCell]; try omega) _ | refine below_drewN ?_ _ | refine Below.drew ?_ | refine below_tr ?_ ‹Below _ _ _›))) (HB.out.below (by repeat (first | with_reducible exact Below.refl _ _ | refine Below.setCell ?_ (by simp; try omega) _ | refine below_al ?_ _ | refine Below.alloc ?_ (by simp [World.setCell]; try omega) _ | refine below_drewN ?_ _ | refine Below.drew ?_ | refine below_tr ?_ ‹Below _ _ _›))) HV.out HVB.out HX0.out.1 HX0.out.2).mono ?_
      rintro e w8 ⟨A3, n3, c3, k3, bs3, rfl, r3, nd3, hb3, b8⟩
      have s8 : Below w7.heap.size w7 w8 := (by repeat (first | with_reducible exact Below.refl _ _ | refine Below.setCell ?_ (by simp; try omega) _ | refine below_al ?_ _ | refine Below.alloc ?_ (by simp [World.setCell]; try omega) _ | refine below_drewN ?_ _ | refine Below.drew ?_ | refine below_tr ?_ ‹Below _ _ _›))
      have P8 := P7.to s8; clear P7
      have Q8 := Q7.to s8; clear Q7
      have FR8 : w8.frozen? ⟨(w.heap.size + 2), 0, none⟩ = false ∧ w8.frozen? ⟨(w.heap.size + 2), 1, none⟩ = false := ⟨(s8.frozen (p := ⟨(w.heap.size + 2), 0, none⟩) (lt_of_cell R7.1)).trans FR7.1, (s8.frozen (p := ⟨(w.heap.size + 2), 1, none⟩) (lt_of_cell R7.1)).trans FR7.2⟩; clear FR7
      have R8 := R7.to s8; clear R7
      have S8 : Below w.heap.size w w8 := below_tr S7 s8
      clear s8
      clear b8
      have hb3' : ∀ x ∈ bs3, w.heap.size + 2 < x := fun x hx => by have := hb3 x hx; omega
      have hn3 : w.heap.size + 2 ∉ bs3 := fun hx => by have := hb3' _ hx; omega
      have R3' := Lib.hid (And.intro r3 (And.intro nd3 (And.intro hb3' hn3))); clear r3 nd3 hb3 hb3' hn3
      go_wp2_with fail
      refine (checked_c R3'.out.1).mono ?_
      rintro e w9 ⟨he, b9⟩
      have s9 : Below w8.heap.size w8 w9 := (by repeat (first | with_reducible exact Below.refl _ _ | refine Below.setCell ?_ (by simp; try omega) _ | refine below_al ?_ _ | refine Below.alloc ?_ (by simp [World.setCell]; try omega) _ | refine below_drewN ?_ _ | refine Below.drew ?_ | refine below_tr ?_ ‹Below _ _ _›))
      have P9 := P8.to s9; clear P8
      have Q9 := Q8.to s9; clear Q8
      have FR9 : w9.frozen? ⟨(w.heap.size + 2), 0, none⟩ = false ∧ w9.frozen? ⟨(w.heap.size + 2), 1, none⟩ = false := ⟨(s9.frozen (p := ⟨(w.heap.size + 2), 0, none⟩) (lt_of_cell R8.1)).trans FR8.1, (s9.frozen (p := ⟨(w.heap.size + 2), 1, none⟩) (lt_of_cell R8.1)).trans FR8.2⟩; clear FR8
      have R9 := R8.to s9; clear R8
      have S9 : Below w.heap.size w w9 := below_tr S8 s9
      clear s9
      rw [if_pos HG.out.1] at he
      subst he
      have R4' := Lib.hid (R3'.out.1.below b9)
      go_wp2
      exact bodyPost_ret (v := .tuple #[.agg #[.slice A3 n3 c3, .int .i64 k3], .bool true]) (by simp [results, Try.results17, go_sem, R9]) rfl ⟨_, _, _, _, bs3, by rw [HF.out, HG.out.2], by rw [HF.out, HG.out.2]; exact Rep.keep _ R4'.out (((Keeps.refl _ _).setCell R3'.out.2.2.2 _).setCell R3'.out.2.2.2 _), R3'.out.2.1, fun x hx => by have := R3'.out.2.2.1 x hx; omega, (S9.setCell (by simp; try omega) _).setCell (by simp; try omega) _⟩
    | false =>
      have HG := Lib.hid (And.intro (show ¬ affOk (substF a v.toNat b) = true by simp [hs]) (show chkF (substF a v.toNat b) = (affZero, false) by simp [chkF, hs]))
      clear hs
      go_enter Try.func17, Try.ntmps17
      go_wp2_with fail
      refine (implAffineValid_c (H.out.below (by repeat (first | with_reducible exact Below.refl _ _ | refine Below.setCell ?_ (by simp; try omega) _ | refine below_al ?_ _ | refine Below.alloc ?_ (by simp [World.setCell]; try omega) _ | refine below_drewN ?_ _ | refine Below.drew ?_ | refine below_tr ?_ ‹Below _ _ _›)))).mono ?_
      rintro e w10 ⟨rfl, b10⟩
      have P10 : Box2 w10 w.heap.size (.slice A n c) (.int .i64 k) := by
        refine ⟨?_, ?_⟩ <;> (rw [b10.cell (by simp [World.setCell]; try omega)]; go_simp)
      have Q10 : Box2 w10 (w.heap.size + 1) (.slice B m d) (.int .i64 kb) := by
        refine ⟨?_, ?_⟩ <;> (rw [b10.cell (by simp [World.setCell]; try omega)]; go_simp)
      have FR10 : w10.frozen? ⟨(w.heap.size + 2), 0, none⟩ = false ∧ w10.frozen? ⟨(w.heap.size + 2), 1, none⟩ = false := by
        refine ⟨?_, ?_⟩ <;> (rw [b10.frozen (by simp [World.setCell]; try omega)]; go_simp)
      have R10 : Box2 w10 (w.heap.size + 2) (.slice none 0 0) (.int .i64 0) := by
        refine ⟨?_, ?_⟩ <;> (rw [b10.cell (by simp [World.setCell]; try omega)]; go_simp)
      have S10 : Below w.heap.size w w10 := (by repeat (first | with_reducible exact Below.refl _ _ | refine Below.setCell ?_ (by simp; try omega) _ | refine below_al ?_ _ | refine Below.alloc ?_ (by simp [World.setCell]; try omega) _ | refine below_drewN ?_ _ | refine Below.drew ?_ | refine below_tr ?_ ‹Below _ _ _›))
      clear b10
      rw [HV.out]
      go_wp2_with fail
      refine (implAffineValid_c (HB.out.below (by repeat (first | with_reducible exact Below.refl _ _ | refine Below.setCell ?_ (by simp; try omega) _ | refine below_al ?_ _ | refine Below.alloc ?_ (by simp [World.setCell]; try omega) _ | refine below_drewN ?_ _ | refine Below.drew ?_ | refine below_tr ?_ ‹Below _ _ _›)))).mono ?_
      rintro e w11 ⟨rfl, b11⟩
      have s11 : Below w10.heap.size w10 w11 := (by repeat (first | with_reducible exact Below.refl _ _ | refine Below.setCell ?_ (by simp; try omega) _ | refine below_al ?_ _ | refine Below.alloc ?_ (by simp [World.setCell]; try omega) _ | refine below_drewN ?_ _ | refine Below.drew ?_ | refine below_tr ?_ ‹Below _ _ _›))
      have P11 := P10.to s11; clear P10
      have Q11 := Q10.to s11; clear Q10
      have FR11 : w11.frozen? ⟨(w.heap.size + 2), 0, none⟩ = false ∧ w11.frozen? ⟨(w.heap.size + 2), 1, none⟩ = false := ⟨(s11.frozen (p := ⟨(w.heap.size + 2), 0, none⟩) (lt_of_cell R10.1)).trans FR10.1, (s11.frozen (p := ⟨(w.heap.size + 2), 1, none⟩) (lt_of_cell R10.1)).trans FR10.2⟩; clear FR10
      have R11 := R10.to s11; clear R10
      have S11 : Below w.heap.size w w11 := below_tr S10 s11
      clear s11
      clear b11
      rw [HVB.out]
      go_wp2_with fail
      refine (isVar_c _ _).mono ?_
      rintro e w3 ⟨rfl, rfl⟩
      rw [HX.out]
      have hz2 := lt_of_cell R11.1
      go_wp2_with fail
      refine (subst_c (H.out.below (by repeat (first | with_reducible exact Below.refl _ _ | refine Below.setCell ?_ (by simp; try omega) _ | refine below_al ?_ _ | refine Below.alloc ?_ (by simp [World.setCell]; try omega) _ | refine below_drewN ?_ _ | refine Below.drew ?_ | refine below_tr ?_ ‹Below _ _ _›))) (HB.out.below (by repeat (first | with_reducible exact Below.refl _ _ | refine Below.setCell ?_ (by simp; try omega) _ | refine below_al ?_ _ | refine Below.alloc ?_ (by simp [World.setCell]; try omega) _ | refine below_drewN ?_ _ | refine Below.drew ?_ | refine below_tr ?_ ‹Below _ _ _›))) HV.out HVB.out HX0.out.1 HX0.out.2).mono ?_
      rintro e w12 ⟨A3, n3, c3, k3, bs3, rfl, r3, nd3, hb3, b12⟩
      have s12 : Below w11.heap.size w11 w12 := (by repeat (first | with_reducible exact Below.refl _ _ | refine Below.setCell ?_ (by simp; try omega) _ | refine below_al ?_ _ | refine Below.alloc ?_ (by simp [World.setCell]; try omega) _ | refine below_drewN ?_ _ | refine Below.drew ?_ | refine below_tr ?_ ‹Below _ _ _›))
      have P12 := P11.to s12; clear P11
      have Q12 := Q11.to s12; clear Q11
      have FR12 : w12.frozen? ⟨(w.heap.size + 2), 0, none⟩ = false ∧ w12.frozen? ⟨(w.heap.size + 2), 1, none⟩ = false := ⟨(s12.frozen (p := ⟨(w.heap.size + 2), 0, none⟩) (lt_of_cell R11.1)).trans FR11.1, (s12.frozen (p := ⟨(w.heap.size + 2), 1, none⟩) (lt_of_cell R11.1)).trans FR11.2⟩; clear FR11
      have R12 := R11.to s12; clear R11
      have S12 : Below w.heap.size w w12 := below_tr S11 s12
      clear s12
      clear b12
      have hb3' : ∀ x ∈ bs3, w.heap.size + 2 < x := fun x hx => by have := hb3 x hx; omega
      have hn3 : w.heap.size + 2 ∉ bs3 := fun hx => by have := hb3' _ hx; omega
      have R3' := Lib.hid (And.intro r3 (And.intro nd3 (And.intro hb3' hn3))); clear r3 nd3 hb3 hb3' hn3
      go_wp2_with fail
      refine (checked_c R3'.out.1).mono ?_
      rintro e w13 ⟨he, b13⟩
      have s13 : Below w12.heap.size w12 w13 := (by repeat (first | with_reducible exact Below.refl _ _ | refine Below.setCell ?_ (by simp; try omega) _ | refine below_al ?_ _ | refine Below.alloc ?_ (by simp [World.setCell]; try omega) _ | refine below_drewN ?_ _ | refine Below.drew ?_ | refine below_tr ?_ ‹Below _ _ _›))
      have P13 := P12.to s13; clear P12
      have Q13 := Q12.to s13; clear Q12
      have FR13 : w13.frozen? ⟨(w.heap.size + 2), 0, none⟩ = false ∧ w13.frozen? ⟨(w.heap.size + 2), 1, none⟩ = false := ⟨(s13.frozen (p := ⟨(w.heap.size + 2), 0, none⟩) (lt_of_cell R12.1)).trans FR12.1, (s13.frozen (p := ⟨(w.heap.size + 2), 1, none⟩) (lt_of_cell R12.1)).trans FR12.2⟩; clear FR12
      have R13 := R12.to s13; clear R12
      have S13 : Below w.heap.size w w13 := below_tr S12 s13
      clear s13
      rw [if_neg HG.out.1] at he
      subst he
      go_wp2
      exact bodyPost_ret (v := .tuple #[.agg #[.slice none 0 0, .int .i64 0], .bool false]) (by simp [results, Try.results17, go_sem, R13]) rfl ⟨_, _, _, _, [], by rw [HF.out, HG.out.2], by rw [HF.out, HG.out.2]; exact Rep.affZero, by simp, by simp, (S13.setCell (by simp; try omega) _).setCell (by simp; try omega) _⟩
set_option maxHeartbeats 4000000 in
theorem specSubstAffine_c (h : Rep w a.d [.slice A n c, .int .i64 k] bs) (hb : Rep w b.d [.slice B m d, .int .i64 kb] bs') {v : Int} :
    Calls Try.prog 15 #[.agg #[.slice A n c, .int .i64 k], .int .i64 v, .agg #[.slice B m d, .int .i64 kb]] w (MadeAffB w (SubstAffineF a v b).1 (SubstAffineF a v b).2) := by
  have H := Lib.hid h; clear h
  have HB := Lib.hid hb; clear hb
  cases hv : affOk a with
  | false =>
    have HF := Lib.hid (show SubstAffineF a v b = (affZero, false) by simp [SubstAffineF, hv])
    have HV := Lib.hid hv; clear hv
    go_enter Try.func15, Try.ntmps15
    go_wp2_with fail
    refine (specAffineValid_c (H.out.below (by repeat (first | with_reducible exact Below.refl _ _ | refine Below.setCell ?_ (by simp; try omega) _ | refine below_al ?_ _ | refine Below.alloc ?_ (by simp [World.setCell]; try omega) _ | refine below_drewN ?_ _ | refine Below.drew ?_ | refine below_tr ?_ ‹Below _ _ _›)))).mono ?_
    rintro e w1 ⟨rfl, b1⟩
    have P1 : Box2 w1 w.heap.size (.slice A n c) (.int .i64 k) := by
      refine ⟨?_, ?_⟩ <;> (rw [b1.cell (by simp [World.setCell]; try omega)]; go_simp)
    have Q1 : Box2 w1 (w.heap.size + 1) (.slice B m d) (.int .i64 kb) := by
      refine ⟨?_, ?_⟩ <;> (rw [b1.cell (by simp [World.setCell]; try omega)]; go_simp)
    have FR1 : w1.frozen? ⟨(w.heap.size + 2), 0, none⟩ = false ∧ w1.frozen? ⟨(w.heap.size + 2), 1, none⟩ = false := by
      refine ⟨?_, ?_⟩ <;> (rw [b1.frozen (by simp [World.setCell]; try omega)]; go_simp)
    have R1 : Box2 w1 (w.heap.size + 2) (.slice none 0 0) (.int .i64 0) := by
      refine ⟨?_, ?_⟩ <;> (rw [b1.cell (by simp [World.setCell]; try omega)]; go_simp)
    have S1 : Below w.heap.size w w1 := (by repeat (first | with_reducible exact Below.refl _ _ | refine Below.setCell ?_ (by simp; try omega) _ | refine below_al ?_ _ | refine Below.alloc ?_ (by simp [World.setCell]; try omega) _ | refine below_drewN ?_ _ | refine Below.drew ?_ | refine below_tr ?_ ‹Below _ _ _›))
    clear b1
    rw [HV.out]
    go_wp2
    exact bodyPost_ret (v := .tuple #[.agg #[.slice none 0 0, .int .i64 0], .bool false]) (by simp [results, Try.results15, go_sem, R1]) rfl ⟨_, _, _, _, [], by rw [HF.out], by rw [HF.out]; exact Rep.affZero, by simp, by simp, (S1.setCell (by simp; try omega) _).setCell (by simp; try omega) _⟩
  | true =>
  cases hvb : affOk b with
  | false =>
    have HF := Lib.hid (show SubstAffineF a v b = (affZero, false) by simp [SubstAffineF, hvb])
    have HV := Lib.hid hv; clear hv
    have HVB := Lib.hid hvb; clear hvb
    go_enter Try.func15, Try.ntmps15
    go_wp2_with fail
    refine (specAffineValid_c (H.out.below (by repeat (first | with_reducible exact Below.refl _ _ | refine Below.setCell ?_ (by simp; try omega) _ | refine below_al ?_ _ | refine Below.alloc ?_ (by simp [World.setCell]; try omega) _ | refine below_drewN ?_ _ | refine Below.drew ?_ | refine below_tr ?_ ‹Below _ _ _›)))).mono ?_
    rintro e w2 ⟨rfl, b2⟩
    have P2 : Box2 w2 w.heap.size (.slice A n c) (.int .i64 k) := by
      refine ⟨?_, ?_⟩ <;> (rw [b2.cell (by simp [World.setCell]; try omega)]; go_simp)
    have Q2 : Box2 w2 (w.heap.size + 1) (.slice B m d) (.int .i64 kb) := by
      refine ⟨?_, ?_⟩ <;> (rw [b2.cell (by simp [World.setCell]; try omega)]; go_simp)
    have FR2 : w2.frozen? ⟨(w.heap.size + 2), 0, none⟩ = false ∧ w2.frozen? ⟨(w.heap.size + 2), 1, none⟩ = false := by
      refine ⟨?_, ?_⟩ <;> (rw [b2.frozen (by simp [World.setCell]; try omega)]; go_simp)
    have R2 : Box2 w2 (w.heap.size + 2) (.slice none 0 0) (.int .i64 0) := by
      refine ⟨?_, ?_⟩ <;> (rw [b2.cell (by simp [World.setCell]; try omega)]; go_simp)
    have S2 : Below w.heap.size w w2 := (by repeat (first | with_reducible exact Below.refl _ _ | refine Below.setCell ?_ (by simp; try omega) _ | refine below_al ?_ _ | refine Below.alloc ?_ (by simp [World.setCell]; try omega) _ | refine below_drewN ?_ _ | refine Below.drew ?_ | refine below_tr ?_ ‹Below _ _ _›))
    clear b2
    rw [HV.out]
    go_wp2_with fail
    refine (specAffineValid_c (HB.out.below (by repeat (first | with_reducible exact Below.refl _ _ | refine Below.setCell ?_ (by simp; try omega) _ | refine below_al ?_ _ | refine Below.alloc ?_ (by simp [World.setCell]; try omega) _ | refine below_drewN ?_ _ | refine Below.drew ?_ | refine below_tr ?_ ‹Below _ _ _›)))).mono ?_
    rintro e w3 ⟨rfl, b3⟩
    have s3 : Below w2.heap.size w2 w3 := (by repeat (first | with_reducible exact Below.refl _ _ | refine Below.setCell ?_ (by simp; try omega) _ | refine below_al ?_ _ | refine Below.alloc ?_ (by simp [World.setCell]; try omega) _ | refine below_drewN ?_ _ | refine Below.drew ?_ | refine below_tr ?_ ‹Below _ _ _›))
    have P3 := P2.to s3; clear P2
    have Q3 := Q2.to s3; clear Q2
    have FR3 : w3.frozen? ⟨(w.heap.size + 2), 0, none⟩ = false ∧ w3.frozen? ⟨(w.heap.size + 2), 1, none⟩ = false := ⟨(s3.frozen (p := ⟨(w.heap.size + 2), 0, none⟩) (lt_of_cell R2.1)).trans FR2.1, (s3.frozen (p := ⟨(w.heap.size + 2), 1, none⟩) (lt_of_cell R2.1)).trans FR2.2⟩; clear FR2
    have R3 := R2.to s3; clear R2
    have S3 : Below w.heap.size w w3 := below_tr S2 s3
    clear s3
    clear b3
    rw [HVB.out]
    go_wp2
    exact bodyPost_ret (v := .tuple #[.agg #[.slice none 0 0, .int .i64 0], .bool false]) (by simp [results, Try.results15, go_sem, R3]) rfl ⟨_, _, _, _, [], by rw [HF.out], by rw [HF.out]; exact Rep.affZero, by simp, by simp, (S3.setCell (by simp; try omega) _).setCell (by simp; try omega) _⟩
  | true =>
  by_cases h0 : v < 0
  · have HF := Lib.hid (show SubstAffineF a v b = (affZero, false) by simp [SubstAffineF, inB_lo (show ¬ (0 : Int) ≤ v by omega)])
    have HV := Lib.hid hv; clear hv
    have HVB := Lib.hid hvb; clear hvb
    go_enter Try.func15, Try.ntmps15
    go_wp2_with fail
    refine (specAffineValid_c (H.out.below (by repeat (first | with_reducible exact Below.refl _ _ | refine Below.setCell ?_ (by simp; try omega) _ | refine below_al ?_ _ | refine Below.alloc ?_ (by simp [World.setCell]; try omega) _ | refine below_drewN ?_ _ | refine Below.drew ?_ | refine below_tr ?_ ‹Below _ _ _›)))).mono ?_
    rintro e w4 ⟨rfl, b4⟩
    have P4 : Box2 w4 w.heap.size (.slice A n c) (.int .i64 k) := by
      refine ⟨?_, ?_⟩ <;> (rw [b4.cell (by simp [World.setCell]; try omega)]; go_simp)
    have Q4 : Box2 w4 (w.heap.size + 1) (.slice B m d) (.int .i64 kb) := by
      refine ⟨?_, ?_⟩ <;> (rw [b4.cell (by simp [World.setCell]; try omega)]; go_simp)
    have FR4 : w4.frozen? ⟨(w.heap.size + 2), 0, none⟩ = false ∧ w4.frozen? ⟨(w.heap.size + 2), 1, none⟩ = false := by
      refine ⟨?_, ?_⟩ <;> (rw [b4.frozen (by simp [World.setCell]; try omega)]; go_simp)
    have R4 : Box2 w4 (w.heap.size + 2) (.slice none 0 0) (.int .i64 0) := by
      refine ⟨?_, ?_⟩ <;> (rw [b4.cell (by simp [World.setCell]; try omega)]; go_simp)
    have S4 : Below w.heap.size w w4 := (by repeat (first | with_reducible exact Below.refl _ _ | refine Below.setCell ?_ (by simp; try omega) _ | refine below_al ?_ _ | refine Below.alloc ?_ (by simp [World.setCell]; try omega) _ | refine below_drewN ?_ _ | refine Below.drew ?_ | refine below_tr ?_ ‹Below _ _ _›))
    clear b4
    rw [HV.out]
    go_wp2_with fail
    refine (specAffineValid_c (HB.out.below (by repeat (first | with_reducible exact Below.refl _ _ | refine Below.setCell ?_ (by simp; try omega) _ | refine below_al ?_ _ | refine Below.alloc ?_ (by simp [World.setCell]; try omega) _ | refine below_drewN ?_ _ | refine Below.drew ?_ | refine below_tr ?_ ‹Below _ _ _›)))).mono ?_
    rintro e w5 ⟨rfl, b5⟩
    have s5 : Below w4.heap.size w4 w5 := (by repeat (first | with_reducible exact Below.refl _ _ | refine Below.setCell ?_ (by simp; try omega) _ | refine below_al ?_ _ | refine Below.alloc ?_ (by simp [World.setCell]; try omega) _ | refine below_drewN ?_ _ | refine Below.drew ?_ | refine below_tr ?_ ‹Below _ _ _›))
    have P5 := P4.to s5; clear P4
    have Q5 := Q4.to s5; clear Q4
    have FR5 : w5.frozen? ⟨(w.heap.size + 2), 0, none⟩ = false ∧ w5.frozen? ⟨(w.heap.size + 2), 1, none⟩ = false := ⟨(s5.frozen (p := ⟨(w.heap.size + 2), 0, none⟩) (lt_of_cell R4.1)).trans FR4.1, (s5.frozen (p := ⟨(w.heap.size + 2), 1, none⟩) (lt_of_cell R4.1)).trans FR4.2⟩; clear FR4
    have R5 := R4.to s5; clear R4
    have S5 : Below w.heap.size w w5 := below_tr S4 s5
    clear s5
    clear b5
    rw [HVB.out]
    go_wp2
    exact bodyPost_ret (v := .tuple #[.agg #[.slice none 0 0, .int .i64 0], .bool false]) (by simp [results, Try.results15, go_sem, R5]) rfl ⟨_, _, _, _, [], by rw [HF.out], by rw [HF.out]; exact Rep.affZero, by simp, by simp, (S5.setCell (by simp; try omega) _).setCell (by simp; try omega) _⟩
  by_cases h4 : 4 ≤ v
  · have HF := Lib.hid (show SubstAffineF a v b = (affZero, false) by simp [SubstAffineF, inB_hi (show ¬ v ≤ 3 by omega)])
    have HV := Lib.hid hv; clear hv
    have HVB := Lib.hid hvb; clear hvb
    go_enter Try.func15, Try.ntmps15
    go_wp2_with fail
    refine (specAffineValid_c (H.out.below (by repeat (first | with_reducible exact Below.refl _ _ | refine Below.setCell ?_ (by simp; try omega) _ | refine below_al ?_ _ | refine Below.alloc ?_ (by simp [World.setCell]; try omega) _ | refine below_drewN ?_ _ | refine Below.drew ?_ | refine below_tr ?_ ‹Below _ _ _›)))).mono ?_
    rintro e w6 ⟨rfl, b6⟩
    have P6 : Box2 w6 w.heap.size (.slice A n c) (.int .i64 k) := by
      refine ⟨?_, ?_⟩ <;> (rw [b6.cell (by simp [World.setCell]; try omega)]; go_simp)
    have Q6 : Box2 w6 (w.heap.size + 1) (.slice B m d) (.int .i64 kb) := by
      refine ⟨?_, ?_⟩ <;> (rw [b6.cell (by simp [World.setCell]; try omega)]; go_simp)
    have FR6 : w6.frozen? ⟨(w.heap.size + 2), 0, none⟩ = false ∧ w6.frozen? ⟨(w.heap.size + 2), 1, none⟩ = false := by
      refine ⟨?_, ?_⟩ <;> (rw [b6.frozen (by simp [World.setCell]; try omega)]; go_simp)
    have R6 : Box2 w6 (w.heap.size + 2) (.slice none 0 0) (.int .i64 0) := by
      refine ⟨?_, ?_⟩ <;> (rw [b6.cell (by simp [World.setCell]; try omega)]; go_simp)
    have S6 : Below w.heap.size w w6 := (by repeat (first | with_reducible exact Below.refl _ _ | refine Below.setCell ?_ (by simp; try omega) _ | refine below_al ?_ _ | refine Below.alloc ?_ (by simp [World.setCell]; try omega) _ | refine below_drewN ?_ _ | refine Below.drew ?_ | refine below_tr ?_ ‹Below _ _ _›))
    clear b6
    rw [HV.out]
    go_wp2_with fail
    refine (specAffineValid_c (HB.out.below (by repeat (first | with_reducible exact Below.refl _ _ | refine Below.setCell ?_ (by simp; try omega) _ | refine below_al ?_ _ | refine Below.alloc ?_ (by simp [World.setCell]; try omega) _ | refine below_drewN ?_ _ | refine Below.drew ?_ | refine below_tr ?_ ‹Below _ _ _›)))).mono ?_
    rintro e w7 ⟨rfl, b7⟩
    have s7 : Below w6.heap.size w6 w7 := (by repeat (first | with_reducible exact Below.refl _ _ | refine Below.setCell ?_ (by simp; try omega) _ | refine below_al ?_ _ | refine Below.alloc ?_ (by simp [World.setCell]; try omega) _ | refine below_drewN ?_ _ | refine Below.drew ?_ | refine below_tr ?_ ‹Below _ _ _›))
    have P7 := P6.to s7; clear P6
    have Q7 := Q6.to s7; clear Q6
    have FR7 : w7.frozen? ⟨(w.heap.size + 2), 0, none⟩ = false ∧ w7.frozen? ⟨(w.heap.size + 2), 1, none⟩ = false := ⟨(s7.frozen (p := ⟨(w.heap.size + 2), 0, none⟩) (lt_of_cell R6.1)).trans FR6.1, (s7.frozen (p := ⟨(w.heap.size + 2), 1, none⟩) (lt_of_cell R6.1)).trans FR6.2⟩; clear FR6
    have R7 := R6.to s7; clear R6
    have S7 : Below w.heap.size w w7 := below_tr S6 s7
    clear s7
    clear b7
    rw [HVB.out]
    go_wp2
    exact bodyPost_ret (v := .tuple #[.agg #[.slice none 0 0, .int .i64 0], .bool false]) (by simp [results, Try.results15, go_sem, R7]) rfl ⟨_, _, _, _, [], by rw [HF.out], by rw [HF.out]; exact Rep.affZero, by simp, by simp, (S7.setCell (by simp; try omega) _).setCell (by simp; try omega) _⟩
  have hx : inB v 0 3 = true := inB_true (by omega) (by omega)
  cases hx2 : inB v 0 3 with
  | false => rw [hx] at hx2; cases hx2
  | true =>
    have HF := Lib.hid (show SubstAffineF a v b = chkF (substF a v.toNat b) by simp [SubstAffineF, hv, hvb, hx])
    have HX0 := Lib.hid (show 0 ≤ v ∧ v < 4 by have := inB_iff.1 hx; omega)
    have HV := Lib.hid hv; clear hv
    have HVB := Lib.hid hvb; clear hvb
    clear hx
    cases hs : affOk (substF a v.toNat b) with
    | true =>
      have HG := Lib.hid (And.intro hs (show chkF (substF a v.toNat b) = (substF a v.toNat b, true) by simp [chkF, hs]))
      clear hs
      go_enter Try.func15, Try.ntmps15
      go_wp2_with fail
      refine (specAffineValid_c (H.out.below (by repeat (first | with_reducible exact Below.refl _ _ | refine Below.setCell ?_ (by simp; try omega) _ | refine below_al ?_ _ | refine Below.alloc ?_ (by simp [World.setCell]; try omega) _ | refine below_drewN ?_ _ | refine Below.drew ?_ | refine below_tr ?_ ‹Below _ _ _›)))).mono ?_
      rintro e w8 ⟨rfl, b8⟩
      have P8 : Box2 w8 w.heap.size (.slice A n c) (.int .i64 k) := by
        refine ⟨?_, ?_⟩ <;> (rw [b8.cell (by simp [World.setCell]; try omega)]; go_simp)
      have Q8 : Box2 w8 (w.heap.size + 1) (.slice B m d) (.int .i64 kb) := by
        refine ⟨?_, ?_⟩ <;> (rw [b8.cell (by simp [World.setCell]; try omega)]; go_simp)
      have FR8 : w8.frozen? ⟨(w.heap.size + 2), 0, none⟩ = false ∧ w8.frozen? ⟨(w.heap.size + 2), 1, none⟩ = false := by
        refine ⟨?_, ?_⟩ <;> (rw [b8.frozen (by simp [World.setCell]; try omega)]; go_simp)
      have R8 : Box2 w8 (w.heap.size + 2) (.slice none 0 0) (.int .i64 0) := by
        refine ⟨?_, ?_⟩ <;> (rw [b8.cell (by simp [World.setCell]; try omega)]; go_simp)
      have S8 : Below w.heap.size w w8 := (by repeat (first | with_reducible exact Below.refl _ _ | refine Below.setCell ?_ (by simp; try omega) _ | refine below_al ?_ _ | refine Below.alloc ?_ (by simp [World.setCell]; try omega) _ | refine below_drewN ?_ _ | refine Below.drew ?_ | refine below_tr ?_ ‹Below _ _ _›))
      clear b8
      rw [HV.out]
      go_wp2_with fail
      refine (specAffineValid_c (HB.out.below (by repeat (first | with_reducible exact Below.refl _ _ | refine Below.setCell ?_ (by simp; try omega) _ | refine below_al ?_ _ | refine Below.alloc ?_ (by simp [World.setCell]; try omega) _ | refine below_drewN ?_ _ | refine Below.drew ?_ | refine below_tr ?_ ‹Below _ _ _›)))).mono ?_
      rintro e w9 ⟨rfl, b9⟩
      have s9 : Below w8.heap.size w8 w9 := (by repeat (first | with_reducible exact Below.refl _ _ | refine Below.setCell ?_ (by simp; try omega) _ | refine below_al ?_ _ | refine Below.alloc ?_ (by simp [World.setCell]; try omega) _ | refine below_drewN ?_ _ | refine Below.drew ?_ | refine below_tr ?_ ‹Below _ _ _›))
      have P9 := P8.to s9; clear P8
      have Q9 := Q8.to s9; clear Q8
      have FR9 : w9.frozen? ⟨(w.heap.size + 2), 0, none⟩ = false ∧ w9.frozen? ⟨(w.heap.size + 2), 1, none⟩ = false := ⟨(s9.frozen (p := ⟨(w.heap.size + 2), 0, none⟩) (lt_of_cell R8.1)).trans FR8.1, (s9.frozen (p := ⟨(w.heap.size + 2), 1, none⟩) (lt_of_cell R8.1)).trans FR8.2⟩; clear FR8
      have R9 := R8.to s9; clear R8
      have S9 : Below w.heap.size w w9 := below_tr S8 s9
      clear s9
      clear b9
      rw [HVB.out]
      have hz2 := lt_of_cell R9.1
      go_wp2_with fail
      refine (l1Subst_c (H.out.below (by repeat (first | with_reducible exact Below.refl _ _ | refine Below.setCell ?_ (by simp; try omega) _ | refine below_al ?_ _ | refine Below.alloc ?_ (by simp [World.setCell]; try omega) _ | refine below_drewN ?_ _ | refine Below.drew ?_ | refine below_tr ?_ ‹Below _ _ _›))) (HB.out.below (by repeat (first | with_reducible exact Below.refl _ _ | refine Below.setCell ?_ (by simp; try omega) _ | refine below_al ?_ _ | refine Below.alloc ?_ (by simp [World.setCell]; try omega) _ | refine below_drewN ?_ _ | refine Below.drew ?_ | refine below_tr ?_ ‹Below _ _ _›))) HV.out HVB.out HX0.out.1 HX0.out.2).mono ?_
      rintro e w10 ⟨A3, n3, c3, k3, bs3, rfl, r3, nd3, hb3, b10⟩
      have s10 : Below w9.heap.size w9 w10 := (by repeat (first | with_reducible exact Below.refl _ _ | refine Below.setCell ?_ (by simp; try omega) _ | refine below_al ?_ _ | refine Below.alloc ?_ (by simp [World.setCell]; try omega) _ | refine below_drewN ?_ _ | refine Below.drew ?_ | refine below_tr ?_ ‹Below _ _ _›))
      have P10 := P9.to s10; clear P9
      have Q10 := Q9.to s10; clear Q9
      have FR10 : w10.frozen? ⟨(w.heap.size + 2), 0, none⟩ = false ∧ w10.frozen? ⟨(w.heap.size + 2), 1, none⟩ = false := ⟨(s10.frozen (p := ⟨(w.heap.size + 2), 0, none⟩) (lt_of_cell R9.1)).trans FR9.1, (s10.frozen (p := ⟨(w.heap.size + 2), 1, none⟩) (lt_of_cell R9.1)).trans FR9.2⟩; clear FR9
      have R10 := R9.to s10; clear R9
      have S10 : Below w.heap.size w w10 := below_tr S9 s10
      clear s10
      clear b10
      have hb3' : ∀ x ∈ bs3, w.heap.size + 2 < x := fun x hx => by have := hb3 x hx; omega
      have hn3 : w.heap.size + 2 ∉ bs3 := fun hx => by have := hb3' _ hx; omega
      have R3' := Lib.hid (And.intro r3 (And.intro nd3 (And.intro hb3' hn3))); clear r3 nd3 hb3 hb3' hn3
      go_wp2_with fail
      refine (l1Checked_c R3'.out.1).mono ?_
      rintro e w11 ⟨he, b11⟩
      have s11 : Below w10.heap.size w10 w11 := (by repeat (first | with_reducible exact Below.refl _ _ | refine Below.setCell ?_ (by simp; try omega) _ | refine below_al ?_ _ | refine Below.alloc ?_ (by simp [World.setCell]; try omega) _ | refine below_drewN ?_ _ | refine Below.drew ?_ | refine below_tr ?_ ‹Below _ _ _›))
      have P11 := P10.to s11; clear P10
      have Q11 := Q10.to s11; clear Q10
      have FR11 : w11.frozen? ⟨(w.heap.size + 2), 0, none⟩ = false ∧ w11.frozen? ⟨(w.heap.size + 2), 1, none⟩ = false := ⟨(s11.frozen (p := ⟨(w.heap.size + 2), 0, none⟩) (lt_of_cell R10.1)).trans FR10.1, (s11.frozen (p := ⟨(w.heap.size + 2), 1, none⟩) (lt_of_cell R10.1)).trans FR10.2⟩; clear FR10
      have R11 := R10.to s11; clear R10
      have S11 : Below w.heap.size w w11 := below_tr S10 s11
      clear s11
      rw [if_pos HG.out.1] at he
      subst he
      have R4' := Lib.hid (R3'.out.1.below b11)
      go_wp2
      exact bodyPost_ret (v := .tuple #[.agg #[.slice A3 n3 c3, .int .i64 k3], .bool true]) (by simp [results, Try.results15, go_sem, R11]) rfl ⟨_, _, _, _, bs3, by rw [HF.out, HG.out.2], by rw [HF.out, HG.out.2]; exact Rep.keep _ R4'.out (((Keeps.refl _ _).setCell R3'.out.2.2.2 _).setCell R3'.out.2.2.2 _), R3'.out.2.1, fun x hx => by have := R3'.out.2.2.1 x hx; omega, (S11.setCell (by simp; try omega) _).setCell (by simp; try omega) _⟩
    | false =>
      have HG := Lib.hid (And.intro (show ¬ affOk (substF a v.toNat b) = true by simp [hs]) (show chkF (substF a v.toNat b) = (affZero, false) by simp [chkF, hs]))
      clear hs
      go_enter Try.func15, Try.ntmps15
      go_wp2_with fail
      refine (specAffineValid_c (H.out.below (by repeat (first | with_reducible exact Below.refl _ _ | refine Below.setCell ?_ (by simp; try omega) _ | refine below_al ?_ _ | refine Below.alloc ?_ (by simp [World.setCell]; try omega) _ | refine below_drewN ?_ _ | refine Below.drew ?_ | refine below_tr ?_ ‹Below _ _ _›)))).mono ?_
      rintro e w12 ⟨rfl, b12⟩
      have P12 : Box2 w12 w.heap.size (.slice A n c) (.int .i64 k) := by
        refine ⟨?_, ?_⟩ <;> (rw [b12.cell (by simp [World.setCell]; try omega)]; go_simp)
      have Q12 : Box2 w12 (w.heap.size + 1) (.slice B m d) (.int .i64 kb) := by
        refine ⟨?_, ?_⟩ <;> (rw [b12.cell (by simp [World.setCell]; try omega)]; go_simp)
      have FR12 : w12.frozen? ⟨(w.heap.size + 2), 0, none⟩ = false ∧ w12.frozen? ⟨(w.heap.size + 2), 1, none⟩ = false := by
        refine ⟨?_, ?_⟩ <;> (rw [b12.frozen (by simp [World.setCell]; try omega)]; go_simp)
      have R12 : Box2 w12 (w.heap.size + 2) (.slice none 0 0) (.int .i64 0) := by
        refine ⟨?_, ?_⟩ <;> (rw [b12.cell (by simp [World.setCell]; try omega)]; go_simp)
      have S12 : Below w.heap.size w w12 := (by repeat (first | with_reducible exact Below.refl _ _ | refine Below.setCell ?_ (by simp; try omega) _ | refine below_al ?_ _ | refine Below.alloc ?_ (by simp [World.setCell]; try omega) _ | refine below_drewN ?_ _ | refine Below.drew ?_ | refine below_tr ?_ ‹Below _ _ _›))
      clear b12
      rw [HV.out]
      go_wp2_with fail
      refine (specAffineValid_c (HB.out.below (by repeat (first | with_reducible exact Below.refl _ _ | refine Below.setCell ?_ (by simp; try omega) _ | refine below_al ?_ _ | refine Below.alloc ?_ (by simp [World.setCell]; try omega) _ | refine below_drewN ?_ _ | refine Below.drew ?_ | refine below_tr ?_ ‹Below _ _ _›)))).mono ?_
      rintro e w13 ⟨rfl, b13⟩
      have s13 : Below w12.heap.size w12 w13 := (by repeat (first | with_reducible exact Below.refl _ _ | refine Below.setCell ?_ (by simp; try omega) _ | refine below_al ?_ _ | refine Below.alloc ?_ (by simp [World.setCell]; try omega) _ | refine below_drewN ?_ _ | refine Below.drew ?_ | refine below_tr ?_ ‹Below _ _ _›))
      have P13 := P12.to s13; clear P12
      have Q13 := Q12.to s13; clear Q12
      have FR13 : w13.frozen? ⟨(w.heap.size + 2), 0, none⟩ = false ∧ w13.frozen? ⟨(w.heap.size + 2), 1, none⟩ = false := ⟨(s13.frozen (p := ⟨(w.heap.size + 2), 0, none⟩) (lt_of_cell R12.1)).trans FR12.1, (s13.frozen (p := ⟨(w.heap.size + 2), 1, none⟩) (lt_of_cell R12.1)).trans FR12.2⟩; clear FR12
      have R13 := R12.to s13; clear R12
      have S13 : Below w.heap.size w w13 := below_tr S12 s13
      clear s13
      clear b13
      rw [HVB.out]
      have hz2 := lt_of_cell R13.1
      go_wp2_with fail
      refine (l1Subst_c (H.out.below (by repeat (first | with_reducible exact Below.refl _ _ | refine Below.setCell ?_ (by simp; try omega) _ | refine below_al ?_ _ | refine Below.alloc ?_ (by simp [World.setCell]; try omega) _ | refine below_drewN ?_ _ | refine Below.drew ?_ | refine below_tr ?_ ‹Below _ _ _›))) (HB.out.below (by repeat (first | with_reducible exact Below.refl _ _ | refine Below.setCell ?_ (by simp; try omega) _ | refine below_al ?_ _ | refine Below.alloc ?_ (by simp [World.setCell]; try omega) _ | refine below_drewN ?_ _ | refine Below.drew ?_ | refine below_tr ?_ ‹Below _ _ _›))) HV.out HVB.out HX0.out.1 HX0.out.2).mono ?_
      rintro e w14 ⟨A3, n3, c3, k3, bs3, rfl, r3, nd3, hb3, b14⟩
      have s14 : Below w13.heap.size w13 w14 := (by repeat (first | with_reducible exact Below.refl _ _ | refine Below.setCell ?_ (by simp; try omega) _ | refine below_al ?_ _ | refine Below.alloc ?_ (by simp [World.setCell]; try omega) _ | refine below_drewN ?_ _ | refine Below.drew ?_ | refine below_tr ?_ ‹Below _ _ _›))
      have P14 := P13.to s14; clear P13
      have Q14 := Q13.to s14; clear Q13
      have FR14 : w14.frozen? ⟨(w.heap.size + 2), 0, none⟩ = false ∧ w14.frozen? ⟨(w.heap.size + 2), 1, none⟩ = false := ⟨(s14.frozen (p := ⟨(w.heap.size + 2), 0, none⟩) (lt_of_cell R13.1)).trans FR13.1, (s14.frozen (p := ⟨(w.heap.size + 2), 1, none⟩) (lt_of_cell R13.1)).trans FR13.2⟩; clear FR13
      have R14 := R13.to s14; clear R13
      have S14 : Below w.heap.size w w14 := below_tr S13 s14
      clear s14
      clear b14
      have hb3' : ∀ x ∈ bs3, w.heap.size + 2 < x := fun x hx => by have := hb3 x hx; omega
      have hn3 : w.heap.size + 2 ∉ bs3 := fun hx => by have := hb3' _ hx; omega
      have R3' := Lib.hid (And.intro r3 (And.intro nd3 (And.intro hb3' hn3))); clear r3 nd3 hb3 hb3' hn3
      go_wp2_with fail
      refine (l1Checked_c R3'.out.1).mono ?_
      rintro e w15 ⟨he, b15⟩
      have s15 : Below w14.heap.size w14 w15 := (by repeat (first | with_reducible exact Below.refl _ _ | refine Below.setCell ?_ (by simp; try omega) _ | refine below_al ?_ _ | refine Below.alloc ?_ (by simp [World.setCell]; try omega) _ | refine below_drewN ?_ _ | refine Below.drew ?_ | refine below_tr ?_ ‹Below _ _ _›))
      have P15 := P14.to s15; clear P14
      have Q15 := Q14.to s15; clear Q14
      have FR15 : w15.frozen? ⟨(w.heap.size + 2), 0, none⟩ = false ∧ w15.frozen? ⟨(w.heap.size + 2), 1, none⟩ = false := ⟨(s15.frozen (p := ⟨(w.heap.size + 2), 0, none⟩) (lt_of_cell R14.1)).trans FR14.1, (s15.frozen (p := ⟨(w.heap.size + 2), 1, none⟩) (lt_of_cell R14.1)).trans FR14.2⟩; clear FR14
      have R15 := R14.to s15; clear R14
      have S15 : Below w.heap.size w w15 := below_tr S14 s15
      clear s15
      rw [if_neg HG.out.1] at he
      subst he
      go_wp2
      exact bodyPost_ret (v := .tuple #[.agg #[.slice none 0 0, .int .i64 0], .bool false]) (by simp [results, Try.results15, go_sem, R15]) rfl ⟨_, _, _, _, [], by rw [HF.out, HG.out.2], by rw [HF.out, HG.out.2]; exact Rep.affZero, by simp, by simp, (S15.setCell (by simp; try omega) _).setCell (by simp; try omega) _⟩
theorem SubstAffineF_len (a : Aff) (v : Int) (b : Aff) : (SubstAffineF a v b).1.coefs.length ≤ 1000000 := by
  unfold SubstAffineF
  split
  · exact chkF_len _
  · simp [affZero]
end
end Go.Proofs.Ytlllidhmohdgiaa
