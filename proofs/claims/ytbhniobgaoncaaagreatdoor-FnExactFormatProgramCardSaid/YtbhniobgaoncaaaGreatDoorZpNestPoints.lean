/- Points of nests: NestPoints of the reference; walk, NestPoints of the program. -/
import Derived.Test.YtbhniobgaoncaaaGreatDoorZpPoints
import Derived.Deep.RegionLaw
set_option linter.all false
set_option linter.unusedSimpArgs false
set_option linter.unusedVariables false
namespace Go.Proofs.YtbhniobgaoncaaaGreatDoor
open Go.ChangeShapes Go.WideShapes Go.ChangeAt Go.RowKit Go.Deep

theorem NestPointsF_1 {xs : List Lp} (h : NestValidF xs = false) : NestPointsF xs = ([], false) := by simp [NestPointsF, h]
theorem NestPointsF_2 {xs : List Lp} (h : ¬ cntF xs [] ≤ 1200) : NestPointsF xs = ([], false) := by simp [NestPointsF, h]
theorem NestPointsF_3 {xs : List Lp} (h : ¬ (ptsF xs []).length ≤ 120) : NestPointsF xs = ([], false) := by simp [NestPointsF, h]
theorem NestPointsF_4 {xs : List Lp} (h : NestValidF xs = true) (h1 : cntF xs [] ≤ 1200) (h2 : (ptsF xs []).length ≤ 120) : NestPointsF xs = (ptsF xs [], true) := by simp [NestPointsF, h, h1, h2]

/-- the call answers new points and a truth value -/
def MadePtsB (w : World) (r : List (List Int) × Bool) (e : Ending) (w' : World) : Prop :=
  ∃ A n c bs, e = .returned (.tuple #[.slice A n c, .bool r.2]) ∧ Rep w' (sls ints r.1) [.slice A n c] bs ∧ bs.Nodup ∧ (∀ b ∈ bs, w.heap.size ≤ b) ∧ Below w.heap.size w w'
theorem MadePtsB.of_grow {w w' : World} {e : TypeId} {v : Value} {r : List (List Int) × Bool} (h : Grow w' w.heap.size e 1 v (lls r.1)) (hb : Below w.heap.size w w') : MadePtsB w r (.returned (.tuple #[v, .bool r.2])) w' := by
  obtain ⟨A, c, bs, rfl, h1, h2, h3⟩ := h.rep
  exact ⟨A, _, c, bs, rfl, h1, h2, h3, hb⟩

set_option maxRecDepth 100000 in
set_option maxHeartbeats 4000000 in
theorem specNestPoints_c {w : World} {xs : List Lp} {A : Option Addr} {n c : Nat} {bs : List Nat} (h : Rep w (sls Lp.d xs) [.slice A n c] bs) :
    Calls Tryz.prog 120 #[.slice A n c] w (MadePtsB w (NestPointsF xs)) := by
  have hlt := Rep.lt _ h
  have HLT := Lib.hid hlt; clear hlt
  have H := Lib.hid h; clear h
  cases hv : NestValidF xs with
  | false =>
    rw [NestPointsF_1 hv]
    have HV := Lib.hid hv; clear hv
    go_enter Tryz.func120, Tryz.ntmps120
    go_wp2_with fail
    refine (specNestValid_c H.out).mono ?_
    rintro e w1 ⟨rfl, b1⟩
    rw [HV.out]
    go_wp2
    go_ret2
    exact MadePtsB.of_grow (r := ([], false)) (Grow.made w1 44 1 b1.size) (b1.alloc b1.size _)
  | true =>
  have hok := nest_ok hv
  have HV := Lib.hid hv; clear hv
  have HOK := Lib.hid hok.2
  have h4 := hok.1; clear hok
  by_cases hc : cntF xs [] ≤ 1200
  case neg =>
    rw [NestPointsF_2 hc]
    go_enter Tryz.func120, Tryz.ntmps120
    go_wp2_with fail
    refine (specNestValid_c H.out).mono ?_
    rintro e w1 ⟨rfl, b1⟩
    rw [HV.out]
    go_wp2_with fail
    refine (l2Work_c xs xs [] [] _ _ _ _ _ _ _ _ _ _ rfl rfl h4 HOK.out PtB.nil (by omega) (by omega) (H.out.below b1) (Rep.ints_nil (Nat.zero_le _))).mono ?_
    rintro e w2 ⟨rfl, b2⟩
    obtain ⟨r, hr⟩ : ∃ r : Int, r = min (cntF xs [] : Int) (1200 + 1) := ⟨_, rfl⟩
    rw [← hr]
    have hr2 : 1200 < r := by omega
    clear hr
    go_wp2
    go_ret2
    exact MadePtsB.of_grow (r := ([], false)) (Grow.made w2 44 1 (Nat.le_trans b1.size b2.size)) ((below_tr b1 b2).alloc (Nat.le_trans b1.size b2.size) _)
  by_cases hp : (ptsF xs []).length ≤ 120
  case neg =>
    rw [NestPointsF_3 hp]
    have HR := Lib.hid (show ([] ++ ptsF xs []).take 121 = (ptsF xs []).take 121 from rfl)
    go_enter Tryz.func120, Tryz.ntmps120
    go_wp2_with fail
    refine (specNestValid_c H.out).mono ?_
    rintro e w1 ⟨rfl, b1⟩
    rw [HV.out]
    go_wp2_with fail
    refine (l2Work_c xs xs [] [] _ _ _ _ _ _ _ _ _ _ rfl rfl h4 HOK.out PtB.nil (by omega) (by omega) (H.out.below b1) (Rep.ints_nil (Nat.zero_le _))).mono ?_
    rintro e w2 ⟨rfl, b2⟩
    obtain ⟨r, hr⟩ : ∃ r : Int, r = min (cntF xs [] : Int) (1200 + 1) := ⟨_, rfl⟩
    rw [← hr]
    have hr2 : r ≤ 1200 := by omega
    clear hr
    have S2 := below_tr b1 b2
    go_wp2_with fail
    refine (l2Points_c xs xs [] [] _ _ _ _ _ _ _ _ _ w.heap.size _ [] rfl rfl h4 HOK.out PtB.nil (by simp) (H.out.below (S2.alloc S2.size _)) (Rep.ints_nil (Nat.zero_le _)) (Grow.made w2 44 1 S2.size) (by have := S2.size; simp; omega) (fun y hy e => by have := HLT.out y hy; have := S2.size; simp [Value.ownBlock] at e; omega) (by simp)).mono ?_
    rintro e w3 ⟨v3, rfl, hG3, hg3⟩
    have S3 : Below w.heap.size w w3 := (S2.alloc S2.size _).trans (hg3.belowG (by have := S2.size; simp; omega) (Grow.made w2 44 1 S2.size))
    obtain ⟨A3, c3, hf3, _, _⟩ := hG3.form
    have hl3 : ((ptsF xs []).take 121).length = 121 := by rw [List.length_take]; omega
    simp only [lls, List.length_map, List.nil_append, hl3] at hf3
    subst hf3
    go_wp2
    go_ret2
    exact MadePtsB.of_grow (r := ([], false)) (Grow.made w3 44 1 S3.size) (S3.alloc S3.size _)
  rw [NestPointsF_4 HV.out hc hp]
  go_enter Tryz.func120, Tryz.ntmps120
  go_wp2_with fail
  refine (specNestValid_c H.out).mono ?_
  rintro e w1 ⟨rfl, b1⟩
  rw [HV.out]
  go_wp2_with fail
  refine (l2Work_c xs xs [] [] _ _ _ _ _ _ _ _ _ _ rfl rfl h4 HOK.out PtB.nil (by omega) (by omega) (H.out.below b1) (Rep.ints_nil (Nat.zero_le _))).mono ?_
  rintro e w2 ⟨rfl, b2⟩
  obtain ⟨r, hr⟩ : ∃ r : Int, r = min (cntF xs [] : Int) (1200 + 1) := ⟨_, rfl⟩
  rw [← hr]
  have hr2 : r ≤ 1200 := by omega
  clear hr
  have S2 := below_tr b1 b2
  go_wp2_with fail
  refine (l2Points_c xs xs [] [] _ _ _ _ _ _ _ _ _ w.heap.size _ [] rfl rfl h4 HOK.out PtB.nil (by simp) (H.out.below (S2.alloc S2.size _)) (Rep.ints_nil (Nat.zero_le _)) (Grow.made w2 44 1 S2.size) (by have := S2.size; simp; omega) (fun y hy e => by have := HLT.out y hy; have := S2.size; simp [Value.ownBlock] at e; omega) (by simp)).mono ?_
  rintro e w3 ⟨v3, rfl, hG3, hg3⟩
  have S3 : Below w.heap.size w w3 := (S2.alloc S2.size _).trans (hg3.belowG (by have := S2.size; simp; omega) (Grow.made w2 44 1 S2.size))
  obtain ⟨A3, c3, hf3, _, _⟩ := hG3.form
  have he : ([] ++ ptsF xs []).take 121 = ptsF xs [] := by rw [List.nil_append, List.take_of_length_le (by omega)]
  rw [he] at hG3 hf3
  simp only [lls, List.length_map] at hf3
  have HG3 := Lib.hid hG3
  clear hG3 hg3
  subst hf3
  go_wp2
  go_ret2
  exact MadePtsB.of_grow (r := (ptsF xs [], true)) HG3.out S3

/-- the walking's box g, its points' slice v -/
structure Walk (w : World) (g : Nat) (N : Value) (s : Int) (v : Value) (Bg : Nat) (o : List (List Int)) : Prop where
  box : Box3 w g N (.int .i64 s) v
  fr1 : w.frozen? ⟨g, 1, none⟩ = false
  fr2 : w.frozen? ⟨g, 2, none⟩ = false
  grow : Grow w Bg 44 1 v (lls o)
  lt : g < Bg
  le : Bg ≤ w.heap.size
/-- what a step of the walk leaves -/
structure Walked (w w' : World) (g : Nat) (v v' : Value) : Prop where
  touch : Touch (g :: ownL v) w w'
  own : ∀ b, v'.ownBlock = some b → v.ownBlock = some b ∨ w.heap.size ≤ b
theorem Walked.trans {a b c : World} {g : Nat} {u v x : Value} (h : Walked a b g u v) (k : Walked b c g v x) : Walked a c g u x := by
  refine ⟨⟨k.touch.os.trans h.touch.os, k.touch.tape.trans h.touch.tape, k.touch.output.trans h.touch.output, Nat.le_trans h.touch.size k.touch.size, fun y hy hn => ?_⟩, fun y hy => ?_⟩
  · rw [k.touch.block y (Nat.lt_of_lt_of_le hy h.touch.size) (fun hm => ?_)]
    · exact h.touch.block y hy hn
    · rcases List.mem_cons.1 hm with e | hm
      · exact hn (by rw [e]; exact List.mem_cons_self)
      · rcases h.own y (mem_ownL.1 hm) with e | e
        · exact hn (List.mem_cons_of_mem _ (mem_ownL.2 e))
        · omega
  · rcases k.own y hy with e | e
    · exact h.own y e
    · exact .inr (Nat.le_trans h.touch.size e)
theorem Walked.of_grew {w w' : World} {g : Nat} {v v' : Value} (h : Grew w w' v v') : Walked w w' g v v' := ⟨h.touch.mono fun y hy => List.mem_cons_of_mem _ hy, h.own⟩
theorem Walked.set {w w' : World} {g : Nat} {v v' : Value} (h : Walked w w' g v v') (i : Nat) (u : Value) : Walked w (w'.setCell ⟨g, i, none⟩ u) g v v' := ⟨h.touch.setCell (by simp) u, h.own⟩
theorem Rep.walked {w w' : World} {g : Nat} {v v' : Value} {d : D} {cs : List Value} {bs : List Nat} (h : Rep w d cs bs) (k : Walked w w' g v v') (hv : ∀ y ∈ bs, y ≠ g ∧ v.ownBlock ≠ some y) : Rep w' d cs bs :=
  Rep.keep d h (k.touch.keeps fun y hy => ⟨Rep.lt d h y hy, fun hm => by
    rcases List.mem_cons.1 hm with e | hm
    · exact (hv y hy).1 e
    · exact (hv y hy).2 (mem_ownL.1 hm)⟩)
theorem Walked.apart {w w' : World} {g : Nat} {v v' : Value} {bs : List Nat} (k : Walked w w' g v v') (hv : ∀ y ∈ bs, y ≠ g ∧ v.ownBlock ≠ some y) (hl : ∀ y ∈ bs, y < w.heap.size) : ∀ y ∈ bs, y ≠ g ∧ v'.ownBlock ≠ some y := fun y hy => ⟨(hv y hy).1, fun e => by
  rcases k.own y e with h | h
  · exact (hv y hy).2 h
  · have := hl y hy; omega⟩
theorem cell_to {w w' : World} {g o : Nat} {u : Value} (h : w.cell? ⟨g, o, none⟩ = some u) (hb : Below w.heap.size w w') : w'.cell? ⟨g, o, none⟩ = some u := by rw [hb.cell (lt_of_cell h)]; exact h
theorem Walk.below {w w' : World} {g : Nat} {N : Value} {s : Int} {v : Value} {Bg : Nat} {o : List (List Int)} (h : Walk w g N s v Bg o) (b : Below w.heap.size w w') : Walk w' g N s v Bg o := by
  have hgl := lt_of_cell h.box.1
  exact ⟨h.box.to b, (b.frozen (p := ⟨g, 1, none⟩) hgl).trans h.fr1, (b.frozen (p := ⟨g, 2, none⟩) hgl).trans h.fr2, h.grow.below b, h.lt, Nat.le_trans h.le b.size⟩
theorem Walk.step {w : World} {g : Nat} {N : Value} {s : Int} {v : Value} {Bg : Nat} {o : List (List Int)} (h : Walk w g N s v Bg o) (s' : Int) : Walk (w.setCell ⟨g, 1, none⟩ (.int .i64 s')) g N s' v Bg o := by
  obtain ⟨⟨k0, k1, k2⟩, f1, f2, hG, hgB, hBw⟩ := h
  exact ⟨⟨by go_simp, by go_simp, by go_simp⟩, by rw [World.frozen?_setCell]; exact f1, by rw [World.frozen?_setCell]; exact f2, hG.set_low (p := ⟨g, 1, none⟩) hgB _, hgB, by simpa [World.setCell] using hBw⟩
theorem cntF_pos (ls : List Lp) (p : List Int) : 1 ≤ cntF ls p := by
  cases ls with
  | nil => exact Nat.le_refl _
  | cons l ls => rw [cntF]; omega
def WalkEx (ls : List Lp) : Prop := ∀ (xs pre : List Lp) (p : List Int) (w : World) (A B : Option Addr) (n c m d : Nat) (bs bs' : List Nat) (Bg g : Nat) (s : Int) (v : Value) (o : List (List Int)), xs = pre ++ ls → p.length = pre.length → xs.length ≤ 4 → (∀ l ∈ xs, LpOk l) → PtB p → 0 ≤ s → s + 1 ≤ 1200 → o.length ≤ 120 →
    Rep w (sls Lp.d xs) [.slice A n c] bs → Rep w (ints p) [.slice B m d] bs' → Walk w g (.slice A n c) s v Bg o → (∀ y ∈ bs, y ≠ g ∧ v.ownBlock ≠ some y) → (∀ y ∈ bs', y ≠ g ∧ v.ownBlock ≠ some y) →
    Calls Tryz.prog 178 #[.pointer (some ⟨g, 0, none⟩), .slice B m d] w fun e w' => ∃ v', e = .returned (.bool (decide (s + (cntF ls p : Int) ≤ 1200 ∧ o.length + (ptsF ls p).length ≤ 120))) ∧ Walked w w' g v v' ∧
      (s + (cntF ls p : Int) ≤ 1200 ∧ o.length + (ptsF ls p).length ≤ 120 → Walk w' g (.slice A n c) (s + (cntF ls p : Int) - 1) v' Bg (o ++ ptsF ls p))
set_option maxRecDepth 100000 in
set_option maxHeartbeats 8000000 in
theorem walk_c : (ls : List Lp) → WalkEx ls
  | [] => by
    intro xs pre p w A B n c m d bs bs' Bg g s v o hx hp hl4 hok hpb hs0 hs1 ho h h' hW hv1 hv2
    obtain ⟨rfl, _, _⟩ := h.sls_len
    obtain ⟨rfl, _, _⟩ := h'.ints_len
    have hq : ((p.length : Int) == (xs.length : Int)) = true := ieq_t (by rw [hx, List.append_nil]; omega)
    have hpl : p.length ≤ 4 := by rw [hp]; rw [hx, List.append_nil] at hl4; exact hl4
    have HP := Lib.hid h'; clear h'
    clear hx hp h hv1 hok
    obtain ⟨⟨k0, k1, k2⟩, f1, f2, hG, hgB, hBw⟩ := hW
    have HG := Lib.hid hG
    obtain ⟨Av, cv, hfv, _, _⟩ := hG.form
    simp only [lls, List.length_map] at hfv
    clear hG
    subst hfv
    have hgl := lt_of_cell k0
    go_enter Tryz.func178, Tryz.ntmps178
    go_wp2_with fail
    go_region_law (first
        | (rw [if_pos (wanted_none rfl)]; go_simp; go_at_call 134; refine (Clone_int_g (HP.out.drewN 1) (by omega)).mono ?_; rintro e w1 ⟨v1, rfl, hG1, b1⟩; replace b1 := of_drew b1; obtain ⟨A1, c1, bs1, rfl, r1, nd1, hb1, _⟩ := hG1.ints; have k2a := cell_to k2 b1; have gl1 := Nat.lt_of_lt_of_le hgl b1.size; have O1 := Lib.hid (one_new w1 r1 44); have N1 := Lib.hid (And.intro nd1 hb1); have B1 := b1.alloc b1.size (.cells #[.slice A1 p.length c1] 44); clear hG1 r1 nd1 hb1; go_wp2_with fail)
        | (rw [if_pos (wanted_none rfl)]
           refine wp_append_more (w0 := w) (B := Bg) (xs := lls o) (ys := [ints p]) (.tmp 20) (.tmp 23) _ rfl _ Tryz.underlying157 Tryz.infoInts rfl (by decide) rfl HG.out B1 rfl O1.out ?hys ?hn ?hf ?hlen hBw ?_
           case hys => intro y hy; simp only [List.mem_singleton] at hy; rw [hy]; rfl
           case hn => exact N1.out.1
           case hf => exact N1.out.2
           case hlen => simp [lls]; omega
           intro v2 w4 hG4 hg4
           have hno : g ∉ ownL (.slice Av o.length cv) := fun hm => by have := (HG.out.own_ge g (mem_ownL.1 hm)).1; omega
           have hgl4 : g < (w1.alloc (.cells #[.slice A1 p.length c1] 44)).heap.size := Nat.lt_of_lt_of_le hgl B1.size
           have gl5 : g < w4.heap.size := Nat.lt_of_lt_of_le hgl4 hg4.touch.size
           have k0b := (hg4.touch.cell hgl4 hno).trans (cell_to k0 B1)
           have k1b := (hg4.touch.cell hgl4 hno).trans (cell_to k1 B1)
           have k2b := (hg4.touch.cell hgl4 hno).trans (cell_to k2 B1)
           have f1b := (hg4.touch.frozen (o := 1) hgl4 hno).trans ((B1.frozen (p := ⟨g, 1, none⟩) hgl).trans f1)
           have f2b := (hg4.touch.frozen (o := 2) hgl4 hno).trans ((B1.frozen (p := ⟨g, 2, none⟩) hgl).trans f2)
           have hW4 := Lib.hid (Walked.of_grew (g := g) ((Grew.of_below B1 (.slice Av o.length cv)).trans hg4))
           rw [show lls o ++ [ints p] = lls (o ++ [p]) by simp [lls]] at hG4
           obtain ⟨A4, c4, hf4, _, _⟩ := hG4.form
           simp only [lls, List.length_map, List.length_append, List.length_singleton] at hf4
           have HG4 := Lib.hid hG4
           subst hf4
           clear hG4 hg4 k2a b1 B1 O1 N1))
    all_goals (
      go_wp2
      go_ret
      have hs : s + (cntF [] p : Int) - 1 = s := by simp only [cntF]; omega
      refine ⟨_, ret_bool ?_, hW4.out.set 2 _, fun _ => ?_⟩
      · rw [decide_eq_decide]
        simp only [cntF, ptsF, List.length_singleton]; omega
      · rw [hs]
        exact ⟨⟨by go_simp, by go_simp, by go_simp⟩, by rw [World.frozen?_setCell]; exact f1b, by rw [World.frozen?_setCell]; exact f2b, HG4.out.set_low (p := ⟨g, 2, none⟩) hgB _, hgB, by simp [World.setCell]; exact Nat.le_trans hBw hW4.out.touch.size⟩)
  | l :: ls => by
    intro xs pre p w A B n c m d bs bs' Bg g s v o hx hp hl4 hok hpb hs0 hs1 ho h h' hW hv1 hv2
    have ih := walk_c ls
    obtain ⟨rfl, hn1, hn2⟩ := h.sls_len
    obtain ⟨rfl, hm1, hm2⟩ := h'.ints_len
    have hxl : xs.length = p.length + 1 + ls.length := by rw [hx, List.length_append, List.length_cons, hp]; omega
    have hlt : p.length < xs.length := by omega
    have hget : xs[p.length] = l := by
      simp only [hx, hp]; simp
    have hLO := hok l (by rw [hx]; simp)
    have hsm := hLO.small hpb (by omega)
    have hq : ((p.length : Int) == (xs.length : Int)) = false := ieq_f (by omega)
    have IH := Lib.hid ih; clear ih
    have hl3 : p.length ≤ 3 := by omega
    have HX := Lib.hid (And.intro hx (And.intro hp hxl)); clear hx hp hxl
    have HOK := Lib.hid (And.intro hok (And.intro hpb (And.intro hLO hget)))
    have HBD := Lib.hid (show LpBd xs[p.length] p by rw [hget]; exact hLO.bd hpb (by omega))
    have HRL := Lib.hid (show loF xs[p.length] p = loF l p by rw [hget])
    have HRH := Lib.hid (show hiF xs[p.length] p = hiF l p by rw [hget])
    have HA := Lib.hid (And.intro hv1 (And.intro (Rep.lt _ h) (And.intro hv2 (Rep.lt _ h')))); clear hv1 hv2
    have H := Lib.hid h; clear h
    have HP := Lib.hid h'; clear h'
    obtain ⟨lo, hlo⟩ : ∃ lo, lo = loF l p := ⟨_, rfl⟩
    obtain ⟨hi, hhi⟩ : ∃ hi, hi = hiF l p := ⟨_, rfl⟩
    rw [← hlo, ← hhi] at hsm
    have hw : widN l p = (hi - lo).toNat := by rw [widN, hlo, hhi]
    have HLO := Lib.hid (And.intro hlo (And.intro hhi hw))
    obtain ⟨f, hf⟩ : ∃ f : Nat → List (List Int), f = fun k : Nat => ptsF ls (p ++ [lo + (k : Int)]) := ⟨_, rfl⟩
    obtain ⟨q, hqf⟩ : ∃ q : Nat → Nat, q = fun k : Nat => cntF ls (p ++ [lo + (k : Int)]) := ⟨_, rfl⟩
    have HC := Lib.hid (show ptsF (l :: ls) p = catN f (hi - lo).toNat by rw [ptsF, hw, hlo, hf, hlo])
    have HD := Lib.hid (show cntF (l :: ls) p = 1 + sumN q (hi - lo).toNat by rw [cntF, hw, hlo, hqf, hlo])
    clear hlo hhi hw hok hpb hLO hget hn1 hn2 hm1 hm2
    have HF := Lib.hid (And.intro hf hqf); clear hf hqf
    rw [HC.out, HD.out]
    have HW := Lib.hid hW
    have hgl := lt_of_cell hW.box.1
    have k0 := hW.box.1
    have hgB := hW.lt
    clear hW
    obtain ⟨be, oe, cse, le, rfl, hble, hre, _, _, hce⟩ := H.out.sls_at Lp.d_size (k := p.length) hlt
    have Ge := Lib.hid hre
    obtain ⟨A1e, c1e, A2e, c2e, d1e, d2e, rfl, rfl, g1e, g2e⟩ := Rep.lp_iff.1 hre
    have k0e := (hce 0 _ rfl).1; rw [Nat.add_zero] at k0e
    have k1e := (hce 1 _ rfl).1
    have Q1e := Lib.hid g1e
    have Q2e := Lib.hid g2e
    clear hce hre g1e g2e
    go_enter Tryz.func178, Tryz.ntmps178
    go_wp2_with fail
    refine (span_c (Ge.out.below bel) (HP.out.below bel) HBD.out).mono ?_
    rintro e w1 ⟨rfl, b1⟩
    have S1 : Below w.heap.size w w1 := bel
    rw [HRL.out, HRH.out, ← HLO.out.1, ← HLO.out.2.1]
    have hgw : Walked w w1 g v v := Walked.of_grew (Grew.of_below S1 v)
    have hW1 : Walk w1 g (.slice (some ⟨be, oe, none⟩) xs.length c) s v Bg o := ⟨HW.out.box.to S1, (S1.frozen (p := ⟨g, 1, none⟩) hgl).trans HW.out.fr1, (S1.frozen (p := ⟨g, 2, none⟩) hgl).trans HW.out.fr2, HW.out.grow.below S1, HW.out.lt, Nat.le_trans HW.out.le S1.size⟩
    clear b1 k0e k1e hq k0
    go_wp2
    go_loopw [7] (fun i wr => ∃ (k : Nat) (u : Value), k ≤ (hi - lo).toNat ∧ i = .int .i64 (lo + (k : Int)) ∧ s + 1 + (sumN q k : Int) ≤ 1200 ∧ (o ++ catN f k).length ≤ 120 ∧ Walk wr g (.slice (some ⟨be, oe, none⟩) xs.length c) (s + (sumN q k : Int)) u Bg (o ++ catN f k) ∧ Walked w wr g v u) (fun i _ => (hi - intOf i).toNat)
    case atStart => exact ⟨0, v, Nat.zero_le _, int_eq (by simp), by simp only [sumN]; omega, by simp only [catN, List.append_nil]; exact ho, by simpa [sumN, catN] using hW1, hgw⟩
    case round =>
      clear S1 hgw hW1
      obtain ⟨k, u, hk, rfl, hs12, ho12, hWr, hgr⟩ := hrel
      obtain ⟨S, hS⟩ : ∃ S : Int, S = s + (sumN q k : Int) := ⟨_, rfl⟩
      rw [← hS] at hWr
      have HWr := Lib.hid hWr
      have Hgr := Lib.hid hgr; clear hgr
      have hS0 : 0 ≤ S ∧ S + 1 ≤ 1200 := by omega
      obtain ⟨⟨k0, k1, k2⟩, f1, f2, hGr, _, hBr⟩ := hWr
      obtain ⟨Au, cu, hfu, _, _⟩ := hGr.form
      simp only [lls, List.length_map] at hfu
      clear hGr
      by_cases hlk : k < (hi - lo).toNat
      case neg =>
        have he : k = (hi - lo).toNat := by omega
        subst he
        go_wp2
        go_ret
        refine ⟨u, ret_bool ?_, Hgr.out, fun _ => ?_⟩
        · refine (decide_eq_true ?_).symm
          rw [List.length_append] at ho12
          exact ⟨by omega, ho12⟩
        · have := HWr.out
          rw [show s + ((1 + sumN q (hi - lo).toNat : Nat) : Int) - 1 = S by omega]
          exact this
      have hkv : lo + (k : Int) < hi := by omega
      have hq1 : sumN q (k + 1) ≤ sumN q (hi - lo).toNat := sumN_le q (by omega)
      have hqk : 1 ≤ q k := by rw [HF.out.2]; exact cntF_pos _ _
      have hsk : sumN q (k + 1) = sumN q k + q k := rfl
      have hpre := catN_pre f (show k + 1 ≤ (hi - lo).toNat by omega)
      by_cases h12 : 1200 < S + 1 + 1
      · have HN := Lib.hid (show ¬ (s + ((1 + sumN q (hi - lo).toNat : Nat) : Int) ≤ 1200 ∧ o.length + (catN f (hi - lo).toNat).length ≤ 120) by omega)
        clear hS
        go_wp2
        go_ret
        exact ⟨u, ret_bool (decide_eq_false HN.out).symm, Hgr.out.set 1 _, fun h => absurd h HN.out⟩
      have hNO := Lib.hid (show ∀ t : Nat, t = q k → ¬ (S + 1 + (t : Int) ≤ 1200 ∧ (o ++ catN f k).length + (f k).length ≤ 120) → ¬ (s + ((1 + sumN q (hi - lo).toNat : Nat) : Int) ≤ 1200 ∧ o.length + (catN f (hi - lo).toNat).length ≤ 120) by
        rintro t rfl hn hy
        obtain ⟨r, hr⟩ := hpre
        refine hn ⟨by omega, ?_⟩
        have := hy.2
        rw [hr, catN] at this
        simp only [List.length_append] at this ⊢
        omega)
      have hyes := Lib.hid (show S + 1 + (q k : Int) - 1 = s + (sumN q (k + 1) : Int) by rw [hsk]; omega)
      have HS := Lib.hid hS
      clear hS hsk hq1 hpre hqk
      have HPB := Lib.hid (HOK.out.2.2.1.next HOK.out.2.1 (k := k) (by rw [HLO.out.2.2]; exact hlk))
      rw [← HLO.out.1] at HPB
      obtain ⟨x, hv⟩ : ∃ x, x = lo + (k : Int) := ⟨_, rfl⟩
      rw [← hv] at HPB hkv ⊢
      have hvb : -99000 ≤ x ∧ x ≤ 99000 := by omega
      have HV := Lib.hid hv; clear hv
      obtain ⟨W1, hW1⟩ : ∃ W1, W1 = wr.setCell ⟨g, 1, none⟩ (.int .i64 (S + 1)) := ⟨_, rfl⟩
      have HW1 := Lib.hid hW1; clear hW1
      have HK := Lib.hid (show Walk W1 g _ (S + 1) u Bg (o ++ catN f k) by rw [HW1.out]; exact HWr.out.step (S + 1))
      have Hg1 := Lib.hid (show Walked w W1 g v u by rw [HW1.out]; exact Hgr.out.set 1 _)
      have HPr := Lib.hid (HP.out.walked Hg1.out HA.out.2.2.1)
      have HNr := Lib.hid (H.out.walked Hg1.out HA.out.1)
      have HFU := Lib.hid hfu; clear hfu
      go_wp2_with fail
      rw [← HW1.out]
      clear k0 k1 k2 f1 f2
      refine (Clone_int_g HPr.out (by omega)).mono ?_
      rintro e w2 ⟨v2, rfl, hG2, b2⟩
      obtain ⟨A2', c2', hf2, _, _⟩ := hG2.form
      simp only [List.length_map] at hf2
      have HG2 := Lib.hid hG2; clear hG2
      have O2 := Lib.hid (one_int w2 (show I64 x by unfold I64; omega) 3)
      subst hf2
      go_wp2_with (
        at_builtin
        refine wpList_append_more_g (w0 := w2) (B := W1.heap.size) (xs := p.map D.int) (ys := [D.int x]) (by kernel_rfl) (.tmp 68) (.tmp 70) _ rfl _ Tryz.underlying44 Tryz.infoInt rfl (by decide) rfl HG2.out ?hb0 rfl O2.out ?hys ?hn ?hf ?hlen ?hbase ?_
        case hb0 => exact (Below.refl _ _).alloc (Nat.le_refl _) _
        case hys => intro y hy; simp only [List.mem_singleton] at hy; rw [hy]; rfl
        case hn => simp
        case hf => simp
        case hlen => simp; omega
        case hbase => exact b2.size
        intro v3 w4 hG4 hg4)
      rw [show p.map D.int ++ [D.int x] = (p ++ [x]).map D.int by simp] at hG4
      have B4 : Below W1.heap.size W1 w4 := (b2.alloc b2.size _).trans (hg4.below (Nat.le_trans b2.size (by simp)) (fun b hb => (HG2.out.own_ge b hb).1))
      obtain ⟨A4, c4, bs4, rfl, r4, _, hb4, _⟩ := hG4.ints
      have R4 := Lib.hid r4; clear r4 hG4 hg4
      have hgW : g < W1.heap.size := Nat.lt_of_lt_of_le hgB HK.out.le
      have hown : ∀ y ∈ bs4, y ≠ g ∧ u.ownBlock ≠ some y := fun y hy => ⟨fun e => by have := hb4 y hy; omega, fun e => by
        have := (HK.out.grow.own_ge y e).2
        have := hb4 y hy
        omega⟩
      go_wp2_with fail
      refine (IH.out xs _ (p ++ [x]) _ _ _ _ _ _ _ _ _ Bg g (S + 1) u (o ++ catN f k) (show xs = (pre ++ [l]) ++ ls by rw [HX.out.1]; simp) (by simp [HX.out.2.1]) hl4 HOK.out.1 HPB.out (by omega) (by omega) ho12 (HNr.out.below B4) R4.out (HK.out.below B4) (Hg1.out.apart HA.out.1 HA.out.2.1) hown).mono ?_
      rintro e w5 ⟨u5, rfl, hg5, hK5⟩
      have g5 := Lib.hid ((Hg1.out.trans (Walked.of_grew (Grew.of_below B4 u))).trans hg5); clear hg5
      have ef : ptsF ls (p ++ [x]) = f k := by rw [HF.out.1, HV.out]
      have eq : cntF ls (p ++ [x]) = q k := by rw [HF.out.2, HV.out]
      rw [ef, eq] at hK5 ⊢
      by_cases hok5 : S + 1 + (q k : Int) ≤ 1200 ∧ (o ++ catN f k).length + (f k).length ≤ 120
      · have HK5 := Lib.hid (hK5 hok5); clear hK5
        have hq5 := hok5.1
        have hl5 : (o ++ catN f (k + 1)).length ≤ 120 := by
          have := hok5.2
          rw [catN]; simp only [List.length_append] at this ⊢; omega
        rw [decide_eq_true hok5]
        clear hok5
        go_wp2
        go_roundw
        case rel =>
          refine ⟨k + 1, u5, by omega, int_eq (by rw [HV.out]; omega), by have := hyes.out; omega, hl5, ?_, g5.out⟩
          have := HK5.out
          rw [hyes.out, List.append_assoc] at this
          exact this
        case measure => simp [intOf]; omega
      · have HN := Lib.hid (hNO.out _ rfl hok5)
        rw [decide_eq_false hok5]
        clear hK5 hok5
        go_wp2
        go_ret
        exact ⟨u5, ret_bool (decide_eq_false HN.out).symm, g5.out, fun h => absurd h HN.out⟩

end Go.Proofs.YtbhniobgaoncaaaGreatDoor
