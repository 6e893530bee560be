/- Texts of this seat, joined: SqDep, Broken, OrdB. -/
import Derived.Test.YtgimggpmnemkbaaGreatZActs
import Derived.Test.YtgimggpmnemkbaaGreatZCore
import Derived.Test.YtgimggpmnemkbaaGreatZDeps1
import Derived.Test.YtgimggpmnemkbaaGreatZLevs1
import Derived.Test.YtgimggpmnemkbaaGreatZOrder
import Derived.Test.YtgimggpmnemkbaaGreatZFlag
/- Library functions on slices of Dep: slices.IndexFunc, ContainsFunc, EqualFunc. Printed by tygen.py. -/
set_option linter.all false
set_option linter.unusedSimpArgs false
set_option linter.unusedVariables false
namespace Go.Proofs.YtgimggpmnemkbaaGreat
open Go.ChangeShapes Go.WideShapes Go.ChangeAt Go.RowKit Go.Deep

set_option maxHeartbeats 1000000 in
theorem IndexFunc_Dep_c {w : World} {xs : List Dp} {A : Option Addr} {n c : Nat} {bs : List Nat} {g : FuncId} {cap : Array Value} {p : Dp → Bool} (h : Rep w (sls Dp.d xs) [.slice A n c] bs) (hg : Enters Tryz.prog g)
    (hp : ∀ x cs bs W, x ∈ xs → Below w.heap.size w W → Rep W (Dp.d x) cs bs → Calls Tryz.prog g (#[.agg cs.toArray] ++ cap) W fun e w' => e = .returned (.bool (p x)) ∧ Below W.heap.size W w') :
    Calls Tryz.prog 143 #[.slice A n c, .func (.func g) #[] cap] w fun e w' => e = .returned (.int .i64 (idxI p xs 0)) ∧ Below w.heap.size w w' := by
  obtain ⟨rfl, h2, h3⟩ := h.sls_len
  have hn : xs.length ≤ 9223372036854775807 := Nat.le_trans h2 h3
  clear h2 h3
  have H := Lib.hid h; clear h
  have HP := Lib.hid hp; clear hp
  unfold Enters at hg
  go_enter Tryz.func143, Tryz.ntmps143
  go_wp2
  go_loopw [8] (fun i wr => ∃ j : Nat, j ≤ xs.length ∧ i = .int .i64 j ∧ idxI p xs 0 = idxI p (xs.drop j) j ∧ Below w.heap.size w wr) (fun i _ => xs.length - (intOf i).toNat)
  case atStart => exact ⟨0, Nat.zero_le _, rfl, by simp, Below.refl _ _⟩
  case round =>
    obtain ⟨j, hj, rfl, hi, hb⟩ := hrel
    have HI := Lib.hid hi; clear hi
    by_cases hlt : j < xs.length
    · have hd := Lib.hid (idxI_drop p xs j hlt)
      obtain ⟨b, o, cs, l, rfl, hbl, hr, _, _, hc⟩ := (H.out.below hb).sls_at Dp.d_size (k := j) hlt
      have G := Lib.hid hr
      obtain ⟨rfl, rfl, g1, g2, g3⟩ := Rep.dp_iff.1 hr
      have k0 := (hc 0 _ rfl).1; rw [Nat.add_zero] at k0
      have k1 := (hc 1 _ rfl).1
      have k2 := (hc 2 _ rfl).1
      clear hc hr g1 g2 g3
      go_wp2_with fail
      refine (HP.out _ _ _ _ (List.getElem_mem hlt) (by exact hb) G.out).mono ?_
      rintro e w1 ⟨rfl, b1⟩
      have S1 := below_tr hb b1
      by_cases hpx : p xs[j] = true
      · have hd2 := Lib.hid (hd.out.trans (if_pos hpx))
        have HX := Lib.hid hpx; clear hpx
        rw [HX.out]
        go_wp2
        go_ret
        exact ⟨ret_int (by rw [HI.out, hd2.out]), S1⟩
      · have hd2 := Lib.hid (hd.out.trans (if_neg hpx))
        simp only [Bool.not_eq_true] at hpx
        have HX := Lib.hid hpx; clear hpx
        rw [HX.out]
        go_wp2
        go_roundw
        case rel => exact ⟨j + 1, by omega, by go_num, by rw [HI.out, hd2.out], S1⟩
        case measure => simp [intOf]; omega
    · have hjj : j = xs.length := by omega
      subst hjj
      go_wp2
      go_ret
      exact ⟨ret_int (by rw [HI.out]; simp [idxI]), hb⟩

end Go.Proofs.YtgimggpmnemkbaaGreat

/- Orders that keep dependences, on both sides: places, broken, OrderBroken, OrderLegal. -/
namespace Go.Proofs.YtgimggpmnemkbaaGreat
open Go.ChangeShapes Go.WideShapes Go.ChangeAt Go.RowKit Go.Deep

theorem permG_mem {n : Nat} : ∀ (l : List Int) (s : Nat → Bool), permG n l s = true → ∀ x ∈ l, 0 ≤ x ∧ x < (n : Int)
  | [], _, _, x, hx => by cases hx
  | y :: l, s, h, x, hx => by
    simp only [permG, Bool.and_eq_true, decide_eq_true_iff] at h
    obtain ⟨h1, h2, _, h4⟩ := h
    rcases List.mem_cons.1 hx with rfl | hx
    · exact ⟨h1, h2⟩
    · exact permG_mem l _ h4 x hx
theorem permF_mem {l : List Int} {n : Nat} (h : permF l n = true) : (∀ x ∈ l, 0 ≤ x ∧ x < (n : Int)) ∧ l.length = n := by
  simp only [permF, Bool.and_eq_true, decide_eq_true_iff] at h
  exact ⟨permG_mem l _ h.1, h.2⟩
/-- where the number k stands in the list: the last of the first j places that hold it -/
def placeT (l : List Int) : Nat → Nat → Int
  | 0, _ => 0
  | j + 1, k => if gi l j = (k : Int) then (j : Int) else placeT l j k
def placeF (l : List Int) (k : Nat) : Int := placeT l l.length k
theorem placeT_set {l : List Int} {j kc : Nat} (h : gi l j = (kc : Int)) (k : Nat) : placeT l (j + 1) k = if k = kc then (j : Int) else placeT l j k := by
  rw [placeT, h]
  by_cases e : k = kc
  · subst e; simp
  · rw [if_neg e, if_neg (by omega)]
def badD (l : List Int) (d : Dp) : Bool := decide (placeF l d.to_.toNat < placeF l d.from_.toNat)
def brokenF (ds : List Dp) (l : List Int) : Int := idxI (badD l) ds 0
def zeroDp : Dp := ⟨0, 0, 0⟩
def pickD (ds : List Dp) (i : Int) : Dp × Bool := if i < 0 then (zeroDp, false) else (ds.getD i.toNat zeroDp, true)
theorem pickD_no {ds : List Dp} {i : Int} (h : i < 0) : pickD ds i = (zeroDp, false) := if_pos h
theorem pickD_yes {ds : List Dp} {k : Nat} (h : k < ds.length) : pickD ds (k : Int) = (ds[k], true) := by
  unfold pickD
  rw [if_neg (by omega), Int.toNat_natCast]
  simp [List.getD_eq_getElem?_getD, h]
def OrderBrokenF (p : Pgm) (l : List Int) : Dp × Bool := if OrderValidF p l then pickD (depsF (usesF p)) (brokenF (depsF (usesF p)) l) else (zeroDp, false)
theorem OBF_n {p : Pgm} {l : List Int} (h : OrderValidF p l = false) : OrderBrokenF p l = (zeroDp, false) := by unfold OrderBrokenF; rw [h]; rfl
theorem OBF_y {p : Pgm} {l : List Int} (h : OrderValidF p l = true) : OrderBrokenF p l = pickD (depsF (usesF p)) (brokenF (depsF (usesF p)) l) := by unfold OrderBrokenF; rw [h]; rfl
theorem idxI_rng {α : Type} (f : α → Bool) : ∀ (xs : List α) (i : Int), idxI f xs i = -1 ∨ ∃ j : Nat, j < xs.length ∧ idxI f xs i = i + (j : Int)
  | [], i => .inl (by simp [idxI])
  | x :: xs, i => by
    rw [idxI]
    split
    · exact .inr ⟨0, by simp, by omega⟩
    · rcases idxI_rng f xs (i + 1) with h | ⟨j, h1, h2⟩
      · exact .inl h
      · exact .inr ⟨j + 1, by simpa using h1, by omega⟩
theorem OV_get {p : Pgm} {l : List Int} (h : OrderValidF p l = true) : progOk p = true ∧ (∀ x ∈ l, 0 ≤ x ∧ x < (l.length : Int)) ∧ l.length = (usesF p).length ∧ l.length ≤ 120 := by
  simp only [OrderValidF, Bool.and_eq_true] at h
  obtain ⟨h1, h2⟩ := permF_mem h.2
  have := (progOk_all h.1).2.2
  rw [h2]
  exact ⟨h.1, h1, (usesF_len p).symm, this⟩

section
variable {w : World} {l : List Int} {A : Option Addr} {n c : Nat} {bs : List Nat}
set_option maxRecDepth 100000 in
set_option maxHeartbeats 2000000 in
theorem l7Places_c (h : Rep w (ints l) [.slice A n c] bs) (hl : ∀ x ∈ l, 0 ≤ x ∧ x < (l.length : Int)) (hb : l.length ≤ 120) :
    Calls Tryz.prog 96 #[.slice A n c] w fun e w' => e = .returned (.slice (some ⟨w.heap.size, 0, none⟩) l.length l.length) ∧ w'.rowIs w.heap.size 3 l.length (fun k => .int .i64 (placeF l k)) ∧ Below w.heap.size w w' := by
  obtain ⟨rfl, _, _⟩ := h.ints_len
  have H := Lib.hid h; clear h
  have HL := Lib.hid hl; clear hl
  have hmk := fun W => run_make_row' (P := Tryz.prog) 26 3 (.int .i64 0) 8 Tryz.underlying26 Tryz.int3 rfl .i64 .i64 l.length (by omega) (by omega) W
  go_enter Tryz.func96, Tryz.ntmps96
  go_wp2
  clear hmk
  go_loopw [4] (fun i wr => ∃ j : Nat, j ≤ l.length ∧ i = .int .i64 j ∧ wr.rowIs w.heap.size 3 l.length (fun k => .int .i64 (placeT l j k)) ∧ Below w.heap.size w wr) (fun i _ => l.length - (intOf i).toNat)
  case atStart => exact ⟨0, Nat.zero_le _, rfl, World.rowIs_made _ _ _ _, bel⟩
  case round =>
    obtain ⟨j, hj, rfl, hrow, hb⟩ := hrel
    have HROW := Lib.hid hrow; clear hrow
    by_cases hlt : j < l.length
    · obtain ⟨b, o, rfl, _, hbl, hc, _⟩ := (H.out.below hb).ints_at hlt
      obtain ⟨h0, h1⟩ := HL.out _ (List.getElem_mem hlt)
      rw [← gi_eq hlt] at h0 h1
      obtain ⟨kc, hkc⟩ := Int.eq_ofNat_of_zero_le h0
      rw [hkc] at hc h1
      have hkn : kc < l.length := by omega
      have HS := Lib.hid (placeT_set hkc)
      clear h0 hkc
      have hck := HROW.out.cell hkn
      have hfz := HROW.out.frozen kc
      have hlg := HROW.out.lt
      have HR2 := Lib.hid ((HROW.out.set kc (.int .i64 (j : Int))).congr (g := fun k => .int .i64 (placeT l (j + 1) k)) (fun k _ => by rw [HS.out k]; by_cases e : k = kc <;> simp [e]))
      go_wp2
      go_roundw
      case rel => exact ⟨j + 1, by omega, by go_num, HR2.out, hb.setCell (by simp) _⟩
      case measure => simp [intOf]; omega
    · have hjj : j = l.length := by omega
      subst hjj
      go_wp2
      go_ret
      exact ⟨rfl, HROW.out, hb⟩
theorem broken1_e : Enters Tryz.prog 144 := fun args W => by go_simp
set_option maxRecDepth 100000 in
set_option maxHeartbeats 2000000 in
theorem broken1_c {W : World} {x : Dp} {m g bx a b : Nat} {cs : List Value} {bs : List Nat} (hr : Rep W x.d cs bs) (hrow : W.rowIs g 3 m (fun k => .int .i64 (placeF l k))) (hc : W.cell? ⟨bx, 0, none⟩ = some (.slice (some ⟨g, 0, none⟩) m m)) (ha : x.from_ = (a : Int)) (hb : x.to_ = (b : Int)) (ham : a < m) (hbm : b < m) :
    Calls Tryz.prog 144 (#[.agg cs.toArray] ++ #[.pointer (some ⟨bx, 0, none⟩)]) W fun e w' => e = .returned (.bool (badD l x)) ∧ Below W.heap.size W w' := by
  show Calls Tryz.prog 144 #[.agg cs.toArray, .pointer (some ⟨bx, 0, none⟩)] W _
  obtain ⟨rfl, rfl, _⟩ := Rep.dp_iff.1 hr
  have HX := Lib.hid (show badD l x = decide (placeF l b < placeF l a) by unfold badD; rw [ha, hb, Int.toNat_natCast, Int.toNat_natCast])
  have hca := hrow.cell ham
  have hcb := hrow.cell hbm
  have hlg := hrow.lt
  have hlb := lt_of_cell hc
  obtain ⟨u, hu⟩ : ∃ u, u = placeF l a := ⟨_, rfl⟩
  obtain ⟨v, hv⟩ : ∃ v, v = placeF l b := ⟨_, rfl⟩
  rw [← hu] at hca HX
  rw [← hv] at hcb HX
  rw [ha, hb]
  clear hr hrow ha hb hu hv
  go_enter Tryz.func144, Tryz.ntmps144
  go_wp2_with fail
  go_quiet (fail)
  go_wp2
  go_ret
  exact ⟨ret_bool HX.out.symm, bel⟩
set_option maxRecDepth 100000 in
set_option maxHeartbeats 4000000 in
theorem broken_c {ds : List Dp} {us : List Us} {B : Option Addr} {n' c' : Nat} {bs' : List Nat} (h : Rep w (sls Dp.d ds) [.slice B n' c'] bs') (hd : ∀ d ∈ ds, DpOk us d) (hq : Rep w (ints l) [.slice A n c] bs) (hl : ∀ x ∈ l, 0 ≤ x ∧ x < (l.length : Int)) (hu : l.length = us.length) (hb : l.length ≤ 120) :
    Calls Tryz.prog 98 #[.slice B n' c', .slice A n c] w fun e w' => e = .returned (.int .i64 (brokenF ds l)) ∧ Below w.heap.size w w' := by
  obtain ⟨rfl, _, _⟩ := hq.ints_len
  obtain ⟨rfl, _, _⟩ := h.sls_len
  have H := Lib.hid hq; clear hq
  have HDS := Lib.hid h; clear h
  have HL := Lib.hid hl; clear hl
  have HD := Lib.hid hd; clear hd
  have HU := Lib.hid hu; clear hu
  have hmk := fun W => run_make_row' (P := Tryz.prog) 26 3 (.int .i64 0) 8 Tryz.underlying26 Tryz.int3 rfl .i64 .i64 l.length (by omega) (by omega) W
  go_enter Tryz.func98, Tryz.ntmps98
  go_wp2
  clear hmk
  go_loopw [13] (fun i wr => ∃ j : Nat, j ≤ l.length ∧ i = .int .i64 j ∧ wr.rowIs w.heap.size 3 l.length (fun k => .int .i64 (placeT l j k)) ∧ wr.cell? ⟨w.heap.size + 1, 0, none⟩ = some (.slice (some ⟨w.heap.size, 0, none⟩) l.length l.length) ∧ Below w.heap.size w wr) (fun i _ => l.length - (intOf i).toNat)
  case atStart => exact ⟨0, Nat.zero_le _, rfl, (World.rowIs_made _ _ _ _).alloc _, by go_simp, bel⟩
  case round =>
    obtain ⟨j, hj, rfl, hrow, hbx, hb⟩ := hrel
    have HROW := Lib.hid hrow; clear hrow
    have hlx := lt_of_cell hbx
    by_cases hlt : j < l.length
    · obtain ⟨b, o, rfl, _, hbl, hc, _⟩ := (H.out.below hb).ints_at hlt
      obtain ⟨h0, h1⟩ := HL.out _ (List.getElem_mem hlt)
      rw [← gi_eq hlt] at h0 h1
      obtain ⟨kc, hkc⟩ := Int.eq_ofNat_of_zero_le h0
      rw [hkc] at hc h1
      have hkn : kc < l.length := by omega
      have HS := Lib.hid (placeT_set hkc)
      clear h0 hkc
      have hck := HROW.out.cell hkn
      have hfz := HROW.out.frozen kc
      have hlg := HROW.out.lt
      have HR2 := Lib.hid ((HROW.out.set kc (.int .i64 (j : Int))).congr (g := fun k => .int .i64 (placeT l (j + 1) k)) (fun k _ => by rw [HS.out k]; by_cases e : k = kc <;> simp [e]))
      go_wp2
      go_roundw
      case rel => exact ⟨j + 1, by omega, by go_num, HR2.out, by go_simp, hb.setCell (by simp) _⟩
      case measure => simp [intOf]; omega
    · have hjj : j = l.length := by omega
      subst hjj
      go_wp2_with fail
      refine (IndexFunc_Dep_c (p := badD l) (HDS.out.below hb) broken1_e (fun x cs bs W hm hbw r => by
        obtain ⟨a, b, h1, h2, h3, h4⟩ := (HD.out x hm).nat
        rw [← HU.out] at h4
        exact broken1_c r (row_below HROW.out hbw) (cell_to hbx hbw) h1 h2 (by omega) h4)).mono ?_
      rintro e w2 ⟨rfl, b2⟩
      go_wp2
      go_ret
      exact ⟨rfl, below_tr hb b2⟩
end
end Go.Proofs.YtgimggpmnemkbaaGreat

/- OrderBroken, OrderLegal, on both sides. -/
namespace Go.Proofs.YtgimggpmnemkbaaGreat
open Go.ChangeShapes Go.WideShapes Go.ChangeAt Go.RowKit Go.Deep

def dpV (d : Dp) : Value := .agg #[.int .i64 d.from_, .int .i64 d.to_, .int .i64 d.kinds]
section
variable {w : World} {p : Pgm} {l : List Int} {A : Option Addr} {n c : Nat} {cs : List Value} {bs bs' : List Nat}
set_option maxRecDepth 100000 in
set_option maxHeartbeats 4000000 in
theorem implOrderBroken_c (h : Rep w p.d cs bs) (hq : Rep w (ints l) [.slice A n c] bs') :
    Calls Tryz.prog 54 #[.agg cs.toArray, .slice A n c] w fun e w' => e = .returned (.tuple #[dpV (OrderBrokenF p l).1, .bool (OrderBrokenF p l).2]) ∧ Below w.heap.size w w' := by
  have HP := Lib.hid h
  obtain ⟨A1, c1, A2, c2, d1, d2, rfl, rfl, g1, g2⟩ := Rep.pgm_iff.1 h
  have Garrays := Lib.hid g1
  have Gparts := Lib.hid g2
  clear h g1 g2
  obtain ⟨rfl, _, _⟩ := hq.ints_len
  have HQ := Lib.hid hq; clear hq
  go_enter Tryz.func54, Tryz.ntmps54
  go_wp2_with fail
  refine (implOrderValid_c (HP.out.below bel) (HQ.out.below bel)).mono ?_
  rintro e w1 ⟨rfl, b1⟩
  have P1 : Box2 w1 w.heap.size (.slice A1 p.arrays.length c1) (.slice A2 p.parts.length c2) := by
    refine ⟨?_, ?_⟩ <;> (rw [b1.cell (by simp [World.setCell]; try omega)]; go_simp)
  have FZ1 : w1.frozen? ⟨(w.heap.size+1), 0, none⟩ = false ∧ w1.frozen? ⟨(w.heap.size+1), 1, none⟩ = false ∧ w1.frozen? ⟨(w.heap.size+1), 2, none⟩ = false := by
    refine ⟨?_, ?_, ?_⟩ <;> (rw [b1.frozen (by simp [World.setCell]; try omega)]; go_simp)
  have Z1 : Box3 w1 (w.heap.size+1) (.int .i64 0) (.int .i64 0) (.int .i64 0) := by
    refine ⟨?_, ?_, ?_⟩ <;> (rw [b1.cell (by simp [World.setCell]; try omega)]; go_simp)
  have S1 : Below w.heap.size w w1 := bel
  clear b1
  cases hv : OrderValidF p l with
  | false =>
    have HY := Lib.hid (OBF_n hv); clear hv
    go_wp2
    ((try simp only [Exit.inBlock, Exit.then]); refine bodyPost_ret (by simp [results, Tryz.results54, go_sem]; go_simp; try rfl) rfl ?_)
    rw [HY.out]
    exact ⟨rfl, bel⟩
  | true =>
  obtain ⟨hpv, hm, hlu, hl120⟩ := OV_get hv
  have HY := Lib.hid ((OBF_y hv).trans (by rw [← depP_y hpv]))
  have HMM := Lib.hid hm
  have HDD := Lib.hid (show ∀ d ∈ depP p, DpOk (usesF p) d by rw [depP_y hpv]; exact depsF_mem)
  have HLU := Lib.hid hlu
  clear hv hm hpv hlu
  go_wp2_with fail
  refine (implDependences_c (HP.out.below bel)).mono ?_
  rintro e w2 ⟨A3, c3, bs3, rfl, r2, _, _, b2⟩
  have s2 : Below w1.heap.size w1 w2 := bel
  have P2 := P1.to s2; clear P1
  have FZ2 : w2.frozen? ⟨(w.heap.size+1), 0, none⟩ = false ∧ w2.frozen? ⟨(w.heap.size+1), 1, none⟩ = false ∧ w2.frozen? ⟨(w.heap.size+1), 2, none⟩ = false := ⟨(s2.frozen (p := ⟨(w.heap.size+1), 0, none⟩) (lt_of_cell Z1.1)).trans FZ1.1, (s2.frozen (p := ⟨(w.heap.size+1), 1, none⟩) (lt_of_cell Z1.1)).trans FZ1.2.1, (s2.frozen (p := ⟨(w.heap.size+1), 2, none⟩) (lt_of_cell Z1.1)).trans FZ1.2.2⟩; clear FZ1
  have Z2 := Z1.to s2; clear Z1
  have S2 : Below w.heap.size w w2 := below_tr S1 s2
  clear s2
  clear b2
  have R2 := Lib.hid r2; clear r2
  obtain ⟨ds, hds⟩ : ∃ ds, ds = depP p := ⟨_, rfl⟩
  rw [← hds] at R2 HDD HY ⊢
  clear hds
  go_wp2_with fail
  refine (broken_c R2.out HDD.out (HQ.out.below S2) HMM.out HLU.out hl120).mono ?_
  rintro e w3 ⟨rfl, b3⟩
  have s3 : Below w2.heap.size w2 w3 := bel
  have P3 := P2.to s3; clear P2
  have FZ3 : w3.frozen? ⟨(w.heap.size+1), 0, none⟩ = false ∧ w3.frozen? ⟨(w.heap.size+1), 1, none⟩ = false ∧ w3.frozen? ⟨(w.heap.size+1), 2, none⟩ = false := ⟨(s3.frozen (p := ⟨(w.heap.size+1), 0, none⟩) (lt_of_cell Z2.1)).trans FZ2.1, (s3.frozen (p := ⟨(w.heap.size+1), 1, none⟩) (lt_of_cell Z2.1)).trans FZ2.2.1, (s3.frozen (p := ⟨(w.heap.size+1), 2, none⟩) (lt_of_cell Z2.1)).trans FZ2.2.2⟩; clear FZ2
  have Z3 := Z2.to s3; clear Z2
  have S3 : Below w.heap.size w w3 := below_tr S2 s3
  clear s3
  rcases idxI_rng (badD l) ds 0 with hx | ⟨j, hjl, hx⟩
  · have HB := Lib.hid (show brokenF ds l = -1 from hx)
    have HZ := Lib.hid (show OrderBrokenF p l = (zeroDp, false) from HY.out.trans (by rw [HB.out]; exact pickD_no (by omega)))
    rw [HB.out]
    clear hx
    go_wp2
    ((try simp only [Exit.inBlock, Exit.then]); refine bodyPost_ret (by simp [results, Tryz.results54, go_sem]; go_simp; try rfl) rfl ?_)
    rw [HZ.out]
    exact ⟨rfl, bel⟩
  · rw [Int.zero_add] at hx
    have HB := Lib.hid (show brokenF ds l = (j : Int) from hx)
    have HZ := Lib.hid (show OrderBrokenF p l = (ds[j], true) from HY.out.trans (by rw [HB.out]; exact pickD_yes hjl))
    rw [HB.out]
    clear hx
    obtain ⟨be, oe, cse, le, rfl, hble, hre, _, _, hce⟩ := (R2.out.below b3).sls_at Dp.d_size (k := j) hjl
    have Ge := Lib.hid hre
    obtain ⟨rfl, rfl, g1e, g2e, g3e⟩ := Rep.dp_iff.1 hre
    have k0e := (hce 0 _ rfl).1; rw [Nat.add_zero] at k0e
    have k1e := (hce 1 _ rfl).1
    have k2e := (hce 2 _ rfl).1
    have Q1e := Lib.hid g1e
    have Q2e := Lib.hid g2e
    have Q3e := Lib.hid g3e
    clear hce hre g1e g2e g3e
    go_wp2
    ((try simp only [Exit.inBlock, Exit.then]); refine bodyPost_ret (by simp [results, Tryz.results54, go_sem]; go_simp; try rfl) rfl ?_)
    rw [HZ.out]
    exact ⟨rfl, bel⟩
set_option maxRecDepth 100000 in
set_option maxHeartbeats 4000000 in
theorem specOrderBroken_c (h : Rep w p.d cs bs) (hq : Rep w (ints l) [.slice A n c] bs') :
    Calls Tryz.prog 53 #[.agg cs.toArray, .slice A n c] w fun e w' => e = .returned (.tuple #[dpV (OrderBrokenF p l).1, .bool (OrderBrokenF p l).2]) ∧ Below w.heap.size w w' := by
  have HP := Lib.hid h
  obtain ⟨A1, c1, A2, c2, d1, d2, rfl, rfl, g1, g2⟩ := Rep.pgm_iff.1 h
  have Garrays := Lib.hid g1
  have Gparts := Lib.hid g2
  clear h g1 g2
  obtain ⟨rfl, _, _⟩ := hq.ints_len
  have HQ := Lib.hid hq; clear hq
  go_enter Tryz.func53, Tryz.ntmps53
  go_wp2_with fail
  refine (specOrderValid_c (HP.out.below bel) (HQ.out.below bel)).mono ?_
  rintro e w1 ⟨rfl, b1⟩
  have P1 : Box2 w1 w.heap.size (.slice A1 p.arrays.length c1) (.slice A2 p.parts.length c2) := by
    refine ⟨?_, ?_⟩ <;> (rw [b1.cell (by simp [World.setCell]; try omega)]; go_simp)
  have FZ1 : w1.frozen? ⟨(w.heap.size+1), 0, none⟩ = false ∧ w1.frozen? ⟨(w.heap.size+1), 1, none⟩ = false ∧ w1.frozen? ⟨(w.heap.size+1), 2, none⟩ = false := by
    refine ⟨?_, ?_, ?_⟩ <;> (rw [b1.frozen (by simp [World.setCell]; try omega)]; go_simp)
  have Z1 : Box3 w1 (w.heap.size+1) (.int .i64 0) (.int .i64 0) (.int .i64 0) := by
    refine ⟨?_, ?_, ?_⟩ <;> (rw [b1.cell (by simp [World.setCell]; try omega)]; go_simp)
  have S1 : Below w.heap.size w w1 := bel
  clear b1
  cases hv : OrderValidF p l with
  | false =>
    have HY := Lib.hid (OBF_n hv); clear hv
    go_wp2
    ((try simp only [Exit.inBlock, Exit.then]); refine bodyPost_ret (by simp [results, Tryz.results53, go_sem]; go_simp; try rfl) rfl ?_)
    rw [HY.out]
    exact ⟨rfl, bel⟩
  | true =>
  obtain ⟨hpv, hm, hlu, hl120⟩ := OV_get hv
  have HY := Lib.hid (OBF_y hv)
  have HMM := Lib.hid hm
  have HLU := Lib.hid hlu
  have HV := Lib.hid hpv
  clear hv hm hpv hlu
  go_wp2_with fail
  refine (l7Places_c (HQ.out.below bel) HMM.out hl120).mono ?_
  rintro e w2 ⟨rfl, r2, b2⟩
  have s2 : Below w1.heap.size w1 w2 := bel
  have P2 := P1.to s2; clear P1
  have FZ2 : w2.frozen? ⟨(w.heap.size+1), 0, none⟩ = false ∧ w2.frozen? ⟨(w.heap.size+1), 1, none⟩ = false ∧ w2.frozen? ⟨(w.heap.size+1), 2, none⟩ = false := ⟨(s2.frozen (p := ⟨(w.heap.size+1), 0, none⟩) (lt_of_cell Z1.1)).trans FZ1.1, (s2.frozen (p := ⟨(w.heap.size+1), 1, none⟩) (lt_of_cell Z1.1)).trans FZ1.2.1, (s2.frozen (p := ⟨(w.heap.size+1), 2, none⟩) (lt_of_cell Z1.1)).trans FZ1.2.2⟩; clear FZ1
  have Z2 := Z1.to s2; clear Z1
  have S2 : Below w.heap.size w w2 := below_tr S1 s2
  clear s2
  have HR2 := Lib.hid r2; clear r2
  have hz1 := S1.size
  have hz2 := b2.size
  go_wp2_with fail
  refine (l6Deps_c (HP.out.below bel) HV.out).mono ?_
  rintro e w3 ⟨A3, c3, bs3, rfl, r3, _, _, b3⟩
  have s3 : Below w2.heap.size w2 w3 := bel
  have P3 := P2.to s3; clear P2
  have FZ3 : w3.frozen? ⟨(w.heap.size+1), 0, none⟩ = false ∧ w3.frozen? ⟨(w.heap.size+1), 1, none⟩ = false ∧ w3.frozen? ⟨(w.heap.size+1), 2, none⟩ = false := ⟨(s3.frozen (p := ⟨(w.heap.size+1), 0, none⟩) (lt_of_cell Z2.1)).trans FZ2.1, (s3.frozen (p := ⟨(w.heap.size+1), 1, none⟩) (lt_of_cell Z2.1)).trans FZ2.2.1, (s3.frozen (p := ⟨(w.heap.size+1), 2, none⟩) (lt_of_cell Z2.1)).trans FZ2.2.2⟩; clear FZ2
  have Z3 := Z2.to s3; clear Z2
  have S3 : Below w.heap.size w w3 := below_tr S2 s3
  clear s3
  have R3 := Lib.hid r3; clear r3
  have HR3 := Lib.hid (row_below HR2.out b3)
  have hgl : w1.heap.size < w3.heap.size := HR3.out.lt
  clear b2 b3 HR2
  obtain ⟨ds, hds⟩ : ∃ ds, ds = depsF (usesF p) := ⟨_, rfl⟩
  have HDD := Lib.hid (show ∀ d ∈ ds, DpOk (usesF p) d by rw [hds]; exact depsF_mem)
  rw [← hds] at R3 HY ⊢
  clear hds
  obtain ⟨_, hn1, hn2⟩ := R3.out.sls_len
  have hdn : ds.length ≤ 9223372036854775807 := Nat.le_trans hn1 hn2
  clear hn1 hn2
  go_wp2
  go_loopw [8] (fun i wr => ∃ j : Nat, j ≤ ds.length ∧ i = .int .i64 j ∧ brokenF ds l = idxI (badD l) (ds.drop j) j ∧ Below w3.heap.size w3 wr) (fun i _ => ds.length - (intOf i).toNat)
  case atStart => exact ⟨0, Nat.zero_le _, rfl, rfl, Below.refl _ _⟩
  case round =>
    obtain ⟨j, hj, rfl, hi, hbw⟩ := hrel
    have HI := Lib.hid hi; clear hi
    have Zr := Z3.to hbw
    have HR4 := Lib.hid (row_below HR3.out hbw)
    have hgr : w1.heap.size < wr.heap.size := HR4.out.lt
    have lz := lt_of_cell Zr.1
    have f0 := (hbw.frozen (p := ⟨w.heap.size + 1, 0, none⟩) (lt_of_cell Z3.1)).trans FZ3.1
    have f1 := (hbw.frozen (p := ⟨w.heap.size + 1, 1, none⟩) (lt_of_cell Z3.1)).trans FZ3.2.1
    have f2 := (hbw.frozen (p := ⟨w.heap.size + 1, 2, none⟩) (lt_of_cell Z3.1)).trans FZ3.2.2
    by_cases hlt : j < ds.length
    case neg =>
      have hjj : j = ds.length := by omega
      subst hjj
      have HZ := Lib.hid (show OrderBrokenF p l = (zeroDp, false) from HY.out.trans (by rw [HI.out]; exact pickD_no (by simp [idxI])))
      go_wp2
      ((try simp only [Exit.inBlock, Exit.then]); refine bodyPost_ret (by simp [results, Tryz.results53, go_sem]; go_simp; try rfl) rfl ?_)
      rw [HZ.out]
      exact ⟨rfl, bel⟩
    have hd := idxI_drop (badD l) ds j hlt
    obtain ⟨a, b, hfa, htb, hab, hbl⟩ := (HDD.out _ (List.getElem_mem hlt)).nat
    rw [← HLU.out] at hbl
    have hBX := show badD l ds[j] = decide (placeF l b < placeF l a) by unfold badD; rw [hfa, htb, Int.toNat_natCast, Int.toNat_natCast]
    obtain ⟨be, oe, cse, le, rfl, hble, hre, _, _, hce⟩ := (R3.out.below hbw).sls_at Dp.d_size (k := j) hlt
    have Ge := Lib.hid hre
    obtain ⟨rfl, rfl, g1e, g2e, g3e⟩ := Rep.dp_iff.1 hre
    have k0e := (hce 0 _ rfl).1; rw [Nat.add_zero] at k0e
    have k1e := (hce 1 _ rfl).1
    have k2e := (hce 2 _ rfl).1
    have Q1e := Lib.hid g1e
    have Q2e := Lib.hid g2e
    have Q3e := Lib.hid g3e
    clear hce hre g1e g2e g3e
    rw [hfa] at k0e
    rw [htb] at k1e
    have hal : a < l.length := by omega
    have hca := HR4.out.cell hal
    have hcb := HR4.out.cell hbl
    obtain ⟨u, hu⟩ : ∃ u, u = placeF l a := ⟨_, rfl⟩
    obtain ⟨v, hv⟩ : ∃ v, v = placeF l b := ⟨_, rfl⟩
    rw [← hu] at hca hBX
    rw [← hv] at hcb hBX
    clear hu hv
    by_cases hvu : v < u
    · have hXX := hd.trans (if_pos (by rw [hBX]; exact decide_eq_true hvu))
      have HZ := Lib.hid (show OrderBrokenF p l = (ds[j], true) from HY.out.trans (by rw [HI.out, hXX]; exact pickD_yes hlt))
      have HA := Lib.hid hfa
      have HT := Lib.hid htb
      clear hXX hd hBX hfa htb
      go_wp2_with fail
      go_quiet (fail)
      go_wp2
      ((try simp only [Exit.inBlock, Exit.then]); refine bodyPost_ret (by simp [results, Tryz.results53, go_sem]; go_simp; try rfl) rfl ?_)
      rw [HZ.out]
      unfold dpV
      rw [HA.out, HT.out]
      exact ⟨rfl, bel⟩
    · have HX := Lib.hid (HI.out.trans (hd.trans (if_neg (by rw [hBX]; simpa using hvu))))
      clear hd hBX hfa htb
      go_wp2_with fail
      go_quiet (fail)
      go_wp2
      go_roundw
      case rel => exact ⟨j + 1, by omega, by go_num, HX.out, bel⟩
      case measure => simp [intOf]; omega
def OrderLegalF (p : Pgm) (l : List Int) : Bool := OrderValidF p l && !(OrderBrokenF p l).2
theorem OLF_n {p : Pgm} {l : List Int} (h : OrderValidF p l = false) : OrderLegalF p l = false := by unfold OrderLegalF; rw [h, Bool.false_and]
theorem OLF_y {p : Pgm} {l : List Int} (h : OrderValidF p l = true) : OrderLegalF p l = !(OrderBrokenF p l).2 := by unfold OrderLegalF; rw [h, Bool.true_and]
theorem OLF_k {p : Pgm} {l : List Int} (h : OrderValidF p l = true) : OrderLegalF p l = decide (brokenF (depP p) l < 0) := by
  rw [OLF_y h, OBF_y h, depP_y (OV_get h).1]
  unfold pickD
  by_cases hb : brokenF (depsF (usesF p)) l < 0
  · rw [if_pos hb, decide_eq_true hb]; rfl
  · rw [if_neg hb, decide_eq_false hb]; rfl
set_option maxRecDepth 100000 in
set_option maxHeartbeats 4000000 in
theorem legal_c (h : Rep w p.d cs bs) (hq : Rep w (ints l) [.slice A n c] bs') :
    Calls Tryz.prog 94 #[.agg cs.toArray, .slice A n c, .func (.func 28) #[] #[]] w fun e w' => e = .returned (.bool (OrderLegalF p l)) ∧ Below w.heap.size w w' := by
  have HP := Lib.hid h
  obtain ⟨A1, c1, A2, c2, d1, d2, rfl, rfl, g1, g2⟩ := Rep.pgm_iff.1 h
  have Garrays := Lib.hid g1
  have Gparts := Lib.hid g2
  clear h g1 g2
  obtain ⟨rfl, _, _⟩ := hq.ints_len
  have HQ := Lib.hid hq; clear hq
  go_enter Tryz.func94, Tryz.ntmps94
  go_wp2_with fail
  refine (implOrderValid_c (HP.out.below bel) (HQ.out.below bel)).mono ?_
  rintro e w1 ⟨rfl, b1⟩
  have P1 : Box2 w1 w.heap.size (.slice A1 p.arrays.length c1) (.slice A2 p.parts.length c2) := by
    refine ⟨?_, ?_⟩ <;> (rw [b1.cell (by simp [World.setCell]; try omega)]; go_simp)
  have S1 : Below w.heap.size w w1 := bel
  clear b1
  cases hv : OrderValidF p l with
  | false =>
    have HY := Lib.hid (OLF_n hv); clear hv
    go_wp2
    go_ret
    exact ⟨ret_bool HY.out.symm, S1⟩
  | true =>
  obtain ⟨hpv, hm, hlu, hl120⟩ := OV_get hv
  have HY := Lib.hid (OLF_k hv)
  have HMM := Lib.hid hm
  have HDD := Lib.hid (show ∀ d ∈ depP p, DpOk (usesF p) d by rw [depP_y hpv]; exact depsF_mem)
  have HLU := Lib.hid hlu
  clear hv hm hpv hlu
  go_wp2_with fail
  refine (implDependences_c (HP.out.below bel)).mono ?_
  rintro e w2 ⟨A3, c3, bs3, rfl, r2, _, _, b2⟩
  have s2 : Below w1.heap.size w1 w2 := bel
  have P2 := P1.to s2; clear P1
  have S2 : Below w.heap.size w w2 := below_tr S1 s2
  clear s2
  clear b2
  have R2 := Lib.hid r2; clear r2
  go_wp2_with fail
  refine (broken_c R2.out HDD.out (HQ.out.below S2) HMM.out HLU.out hl120).mono ?_
  rintro e w3 ⟨rfl, b3⟩
  have s3 : Below w2.heap.size w2 w3 := bel
  have P3 := P2.to s3; clear P2
  have S3 : Below w.heap.size w w3 := below_tr S2 s3
  clear s3
  clear b3
  go_wp2
  go_ret
  exact ⟨ret_bool HY.out.symm, S3⟩
theorem implOrderLegal_c (h : Rep w p.d cs bs) (hq : Rep w (ints l) [.slice A n c] bs') :
    Calls Tryz.prog 47 #[.agg cs.toArray, .slice A n c] w fun e w' => e = .returned (.bool (OrderLegalF p l)) ∧ Below w.heap.size w w' := by
  have HP := Lib.hid h
  obtain ⟨A1, c1, A2, c2, d1, d2, rfl, rfl, g1, g2⟩ := Rep.pgm_iff.1 h
  have Garrays := Lib.hid g1
  have Gparts := Lib.hid g2
  clear h g1 g2
  have HQ := Lib.hid hq; clear hq
  go_enter Tryz.func47, Tryz.ntmps47
  go_wp2_with fail
  refine (legal_c (HP.out.below bel) (HQ.out.below bel)).mono ?_
  rintro e w1 ⟨rfl, b1⟩
  go_wp2
  go_ret
  exact ⟨rfl, bel⟩
set_option maxRecDepth 100000 in
set_option maxHeartbeats 4000000 in
theorem specOrderLegal_c (h : Rep w p.d cs bs) (hq : Rep w (ints l) [.slice A n c] bs') :
    Calls Tryz.prog 46 #[.agg cs.toArray, .slice A n c] w fun e w' => e = .returned (.bool (OrderLegalF p l)) ∧ Below w.heap.size w w' := by
  have HP := Lib.hid h
  obtain ⟨A1, c1, A2, c2, d1, d2, rfl, rfl, g1, g2⟩ := Rep.pgm_iff.1 h
  have Garrays := Lib.hid g1
  have Gparts := Lib.hid g2
  clear h g1 g2
  have HQ := Lib.hid hq; clear hq
  have HL := Lib.hid (show OrderLegalF p l = (OrderValidF p l && !(OrderBrokenF p l).2) from rfl)
  go_enter Tryz.func46, Tryz.ntmps46
  go_wp2_with fail
  refine (specOrderBroken_c (HP.out.below bel) (HQ.out.below bel)).mono ?_
  rintro e w1 ⟨rfl, b1⟩
  have P1 : Box2 w1 w.heap.size (.slice A1 p.arrays.length c1) (.slice A2 p.parts.length c2) := by
    refine ⟨?_, ?_⟩ <;> (rw [b1.cell (by simp [World.setCell]; try omega)]; go_simp)
  have S1 : Below w.heap.size w w1 := bel
  clear b1
  unfold dpV
  have lp1 := lt_of_cell P1.1
  go_wp2_with fail
  refine (specOrderValid_c (HP.out.below (below_tr S1 bel)) (HQ.out.below (below_tr S1 bel))).mono ?_
  rintro e w2 ⟨rfl, b2⟩
  have S2 : Below w.heap.size w w2 := below_tr S1 bel
  cases hv : OrderValidF p l with
  | false =>
    have HY := Lib.hid (HL.out.trans (by rw [hv, Bool.false_and])); clear hv
    go_wp2
    go_ret
    exact ⟨ret_bool HY.out.symm, S2⟩
  | true =>
    have HY := Lib.hid (HL.out.trans (by rw [hv, Bool.true_and])); clear hv
    go_wp2
    go_ret
    exact ⟨ret_bool HY.out.symm, S2⟩
/-- the call answers a dependence and a truth value -/
def MadeDpB (w : World) (r : Dp × Bool) (e : Ending) (w' : World) : Prop :=
  ∃ bs, e = .returned (.tuple #[.agg #[.int .i64 r.1.from_, .int .i64 r.1.to_, .int .i64 r.1.kinds], .bool r.2]) ∧ Rep w' r.1.d [.int .i64 r.1.from_, .int .i64 r.1.to_, .int .i64 r.1.kinds] bs ∧ bs.Nodup ∧ (∀ b ∈ bs, w.heap.size ≤ b) ∧ Below w.heap.size w w'
theorem DpOk.i64 {us : List Us} {d : Dp} (h : DpOk us d) (hu : us.length ≤ 120) : I64 d.from_ ∧ I64 d.to_ ∧ I64 d.kinds := by
  obtain ⟨h1, h2, h3, h4, h5⟩ := h
  unfold I64; omega
theorem OBF_i64 (p : Pgm) (l : List Int) : I64 (OrderBrokenF p l).1.from_ ∧ I64 (OrderBrokenF p l).1.to_ ∧ I64 (OrderBrokenF p l).1.kinds := by
  have hz : I64 zeroDp.from_ ∧ I64 zeroDp.to_ ∧ I64 zeroDp.kinds := by unfold I64 zeroDp; simp
  cases h : OrderValidF p l with
  | false => rw [OBF_n h]; exact hz
  | true =>
    rw [OBF_y h]
    unfold pickD
    split
    · exact hz
    · show I64 ((depsF (usesF p)).getD _ zeroDp).from_ ∧ _
      obtain ⟨_, _, h3, h4⟩ := OV_get h
      rw [List.getD_eq_getElem?_getD]
      rcases Nat.lt_or_ge (brokenF (depsF (usesF p)) l).toNat (depsF (usesF p)).length with hl | hl
      · rw [List.getElem?_eq_getElem hl]
        exact (depsF_mem _ (List.getElem_mem hl)).i64 (by omega)
      · rw [List.getElem?_eq_none hl]; exact hz
theorem MadeDpB.of {w' : World} {e : Ending} (h : e = .returned (.tuple #[dpV (OrderBrokenF p l).1, .bool (OrderBrokenF p l).2]) ∧ Below w.heap.size w w') : MadeDpB w (OrderBrokenF p l) e w' := by
  obtain ⟨h1, h2, h3⟩ := OBF_i64 p l
  exact ⟨[], h.1, Rep.dp_iff.2 ⟨rfl, rfl, h1, h2, h3⟩, by simp, by simp, h.2⟩
theorem implOrderBroken_k (h : Rep w p.d cs bs) (hq : Rep w (ints l) [.slice A n c] bs') :
    Calls Tryz.prog 54 #[.agg cs.toArray, .slice A n c] w (MadeDpB w (OrderBrokenF p l)) := (implOrderBroken_c h hq).mono fun _ _ h => MadeDpB.of h
theorem specOrderBroken_k (h : Rep w p.d cs bs) (hq : Rep w (ints l) [.slice A n c] bs') :
    Calls Tryz.prog 53 #[.agg cs.toArray, .slice A n c] w (MadeDpB w (OrderBrokenF p l)) := (specOrderBroken_c h hq).mono fun _ _ h => MadeDpB.of h
end
end Go.Proofs.YtgimggpmnemkbaaGreat
