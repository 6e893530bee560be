/- Texts of this seat, joined: ConnF, ConnS, ConnectedPartsW. -/
import Derived.Test.YtimocdpfnncnlaaGreatActs
import Derived.Test.YtimocdpfnncnlaaGreatLevs1
import Derived.Test.YtimocdpfnncnlaaGreatIntSet
import Derived.Test.YtimocdpfnncnlaaGreatLaw
import Derived.Test.YtimocdpfnncnlaaGreatBasic
import Derived.Test.YtimocdpfnncnlaaGreatMark
import Derived.Test.YtimocdpfnncnlaaGreatOps
/- Connected instances in plain Lean: labels that agree along the dependences, lie below their instance and are connected with it are one and the same. -/
set_option linter.all false
set_option linter.unusedSimpArgs false
set_option linter.unusedVariables false
namespace Go.Proofs.YtimocdpfnncnlaaGreat
open Go.ChangeShapes Go.WideShapes Go.ChangeAt Go.RowKit Go.Deep

inductive Cn (ds : List Dp) : Nat → Nat → Prop
  | refl (a : Nat) : Cn ds a a
  | step {a b c : Nat} (d : Dp) (h : d ∈ ds) (e : (d.from_ = (a : Int) ∧ d.to_ = (b : Int)) ∨ (d.from_ = (b : Int) ∧ d.to_ = (a : Int))) (t : Cn ds b c) : Cn ds a c
theorem Cn.trans {ds : List Dp} {a b c : Nat} (h : Cn ds a b) (k : Cn ds b c) : Cn ds a c := by
  induction h with
  | refl a => exact k
  | step d hd e _ ih => exact .step d hd e (ih k)
theorem Cn.one {ds : List Dp} {a b : Nat} (d : Dp) (h : d ∈ ds) (e : (d.from_ = (a : Int) ∧ d.to_ = (b : Int)) ∨ (d.from_ = (b : Int) ∧ d.to_ = (a : Int))) : Cn ds a b := .step d h e (.refl b)
theorem Cn.symm {ds : List Dp} {a b : Nat} (h : Cn ds a b) : Cn ds b a := by
  induction h with
  | refl a => exact .refl a
  | step d hd e _ ih => exact ih.trans (.one d hd e.symm)
theorem Cn.mono {ds ds' : List Dp} {a b : Nat} (h : Cn ds a b) (k : ∀ d ∈ ds, d ∈ ds') : Cn ds' a b := by
  induction h with
  | refl a => exact .refl a
  | step d hd e _ ih => exact .step d (k d hd) e ih
/-- labels that lie below and are connected -/
structure Cpre (ds : List Dp) (L : Nat → Nat) : Prop where
  l : ∀ k, L k ≤ k
  m : ∀ k, Cn ds k (L k)
/-- .. and agree along the dependences -/
structure Cgood (ds : List Dp) (L : Nat → Nat) : Prop extends Cpre ds L where
  c : ∀ d ∈ ds, L d.from_.toNat = L d.to_.toNat
theorem Cgood.const {ds : List Dp} {L : Nat → Nat} (h : Cgood ds L) {a b : Nat} (hc : Cn ds a b) : L a = L b := by
  induction hc with
  | refl a => rfl
  | step d hd e _ ih =>
    have := h.c d hd
    rcases e with ⟨e1, e2⟩ | ⟨e1, e2⟩
    · rw [e1, e2, Int.toNat_natCast, Int.toNat_natCast] at this
      exact this.trans ih
    · rw [e1, e2, Int.toNat_natCast, Int.toNat_natCast] at this
      exact this.symm.trans ih
theorem Cgood.uniq {ds : List Dp} {L M : Nat → Nat} (h : Cgood ds L) (h' : Cgood ds M) (k : Nat) : L k = M k := by
  have h1 : M k = M (L k) := h'.const (h.m k)
  have h2 : L k = L (M k) := h.const (h'.m k)
  have h3 := h'.l (L k)
  have h4 := h.l (M k)
  omega
/-- the reference's way: the greater label gives way to the smaller -/
def relab (L : Nat → Nat) (x y : Nat) : Nat → Nat := fun k => if L k = max x y then min x y else L k
def conS (L : Nat → Nat) (d : Dp) : Nat → Nat := relab L (L d.from_.toNat) (L d.to_.toNat)
def conT (ds : List Dp) (j : Nat) : Nat → Nat := (ds.take j).foldl conS id
def conF (ds : List Dp) : Nat → Nat := conT ds ds.length
theorem conT_succ {ds : List Dp} {j : Nat} (h : j < ds.length) : conT ds (j + 1) = conS (conT ds j) ds[j] := by
  unfold conT
  rw [List.take_succ_eq_append_getElem h, List.foldl_append]; rfl
theorem conS_good {ds : List Dp} {L : Nat → Nat} {d : Dp} (h : Cgood ds L) (h0 : 0 ≤ d.from_) (h1 : 0 ≤ d.to_) : Cgood (ds ++ [d]) (conS L d) := by
  have hmem : d ∈ ds ++ [d] := by simp
  have hs : ∀ x ∈ ds, x ∈ ds ++ [d] := fun x hx => List.mem_append_left _ hx
  obtain ⟨a, ha⟩ := Int.eq_ofNat_of_zero_le h0
  obtain ⟨b, hb⟩ := Int.eq_ofNat_of_zero_le h1
  have hE : Cn (ds ++ [d]) (L a) (L b) := ((h.m a).mono hs).symm.trans ((Cn.one d hmem (.inl ⟨ha, hb⟩)).trans ((h.m b).mono hs))
  have hmm : Cn (ds ++ [d]) (max (L a) (L b)) (min (L a) (L b)) := by
    rcases Nat.le_total (L a) (L b) with hle | hle
    · rw [Nat.max_eq_right hle, Nat.min_eq_left hle]; exact hE.symm
    · rw [Nat.max_eq_left hle, Nat.min_eq_right hle]; exact hE
  have e : conS L d = relab L (L a) (L b) := by unfold conS; rw [ha, hb, Int.toNat_natCast, Int.toNat_natCast]
  rw [e]
  refine ⟨⟨fun k => ?_, fun k => ?_⟩, fun x hx => ?_⟩
  · have := h.l k
    unfold relab
    split <;> omega
  · unfold relab
    split
    · next hk => exact ((h.m k).mono hs).trans (hk ▸ hmm)
    · exact (h.m k).mono hs
  · rcases List.mem_append.1 hx with hx | hx
    · unfold relab; rw [h.c x hx]
    · rw [List.mem_singleton] at hx; subst hx
      rw [ha, hb, Int.toNat_natCast, Int.toNat_natCast]
      unfold relab
      split <;> split <;> omega
theorem conT_good {ds : List Dp} (hd : ∀ d ∈ ds, 0 ≤ d.from_ ∧ 0 ≤ d.to_) : ∀ j, j ≤ ds.length → Cgood (ds.take j) (conT ds j)
  | 0, _ => by
    rw [List.take_zero]
    exact ⟨⟨fun k => Nat.le_refl _, fun k => .refl _⟩, fun d hd => by cases hd⟩
  | j + 1, h => by
    have hlt : j < ds.length := h
    rw [List.take_succ_eq_append_getElem hlt, conT_succ hlt]
    have := hd _ (List.getElem_mem hlt)
    exact conS_good (conT_good hd j (by omega)) this.1 this.2
theorem conF_good {ds : List Dp} (hd : ∀ d ∈ ds, 0 ≤ d.from_ ∧ 0 ≤ d.to_) : Cgood ds (conF ds) := by
  have := conT_good hd ds.length (Nat.le_refl _)
  rwa [List.take_length] at this
theorem conT_le {ds : List Dp} (hd : ∀ d ∈ ds, 0 ≤ d.from_ ∧ 0 ≤ d.to_) {j : Nat} (h : j ≤ ds.length) (k : Nat) : conT ds j k ≤ k := (conT_good hd j h).l k
/-- the program's way: both ends of a dependence take the smaller label -/
def pull (M : Nat → Nat) (a b : Nat) : Nat → Nat := fun k => if k = a then min (M a) (M b) else if k = b then min (M a) (M b) else M k
theorem pull_pre {ds : List Dp} {M : Nat → Nat} {d : Dp} {a b : Nat} (h : Cpre ds M) (hm : d ∈ ds) (ha : d.from_ = (a : Int)) (hb : d.to_ = (b : Int)) : Cpre ds (pull M a b) := by
  have hE : Cn ds (M a) (M b) := (h.m a).symm.trans ((Cn.one d hm (.inl ⟨ha, hb⟩)).trans (h.m b))
  have h1 := h.l a
  have h2 := h.l b
  have hA : Cn ds a (min (M a) (M b)) := by
    rcases Nat.le_total (M a) (M b) with hle | hle
    · rw [Nat.min_eq_left hle]; exact h.m a
    · rw [Nat.min_eq_right hle]; exact (h.m a).trans hE
  have hB : Cn ds b (min (M a) (M b)) := by
    rcases Nat.le_total (M a) (M b) with hle | hle
    · rw [Nat.min_eq_left hle]; exact (h.m b).trans hE.symm
    · rw [Nat.min_eq_right hle]; exact h.m b
  refine ⟨fun k => ?_, fun k => ?_⟩
  · have := h.l k
    unfold pull
    split
    · next e => subst e; omega
    · split
      · next e => subst e; omega
      · exact this
  · unfold pull
    split
    · next e => subst e; exact hA
    · split
      · next e => subst e; exact hB
      · exact h.m k
theorem Cpre.id (ds : List Dp) : Cpre ds id := ⟨fun _ => Nat.le_refl _, fun k => .refl k⟩
/-- the sum of the first n labels -/
def sumL (M : Nat → Nat) : Nat → Nat
  | 0 => 0
  | n + 1 => sumL M n + M n
theorem sumL_le {M N : Nat → Nat} (h : ∀ k, N k ≤ M k) : ∀ n, sumL N n ≤ sumL M n
  | 0 => Nat.le_refl _
  | n + 1 => by have := sumL_le h n; have := h n; rw [sumL, sumL]; omega
theorem sumL_lt {M N : Nat → Nat} (h : ∀ k, N k ≤ M k) {j : Nat} (hj : N j < M j) : ∀ {n}, j < n → sumL N n < sumL M n
  | 0, h0 => by omega
  | n + 1, h0 => by
    have h1 := sumL_le h n
    have h2 := h n
    rw [sumL, sumL]
    rcases Nat.lt_or_ge j n with h3 | h3
    · have := sumL_lt h hj h3; omega
    · have : j = n := by omega
      subst this; omega
theorem pull_le (M : Nat → Nat) (a b k : Nat) : pull M a b k ≤ M k := by
  unfold pull
  split
  · next e => subst e; omega
  · split
    · next e => subst e; omega
    · exact Nat.le_refl _
def labL (M : Nat → Nat) (n : Nat) : List Int := (List.range n).map fun k => ((M k : Nat) : Int)
def connL (ds : List Dp) (n : Nat) : List Int := labL (conF ds) n
theorem labL_len (M : Nat → Nat) (n : Nat) : (labL M n).length = n := by unfold labL; simp
theorem labL_snoc (M : Nat → Nat) (n : Nat) : labL M (n + 1) = labL M n ++ [((M n : Nat) : Int)] := by
  unfold labL; rw [List.range_succ, List.map_append]; rfl
theorem labL_congr {M N : Nat → Nat} {n : Nat} (h : ∀ k, k < n → M k = N k) : labL M n = labL N n :=
  List.map_congr_left fun k hk => by rw [h k (List.mem_range.1 hk)]
theorem pull_lt {M : Nat → Nat} {a b : Nat} (h : M a ≠ M b) : ∃ k, (k = a ∨ k = b) ∧ pull M a b k < M k := by
  rcases Nat.lt_or_ge (M a) (M b) with h1 | h1
  · refine ⟨b, .inr rfl, ?_⟩
    unfold pull
    split
    · next e => subst e; omega
    · rw [if_pos rfl]; omega
  · refine ⟨a, .inl rfl, ?_⟩
    unfold pull
    rw [if_pos rfl]; omega
/-- the reference's inner loop, behind k labels -/
def relT (L : Nat → Nat) (lo hi k q : Nat) : Nat := if q < k then (if L q = hi then lo else L q) else L q
theorem relT_0 (L : Nat → Nat) (lo hi q : Nat) : relT L lo hi 0 q = L q := by unfold relT; rw [if_neg (by omega)]
theorem relT_end {L : Nat → Nat} {lo hi m q : Nat} (h : q < m) : relT L lo hi m q = if L q = hi then lo else L q := by unfold relT; rw [if_pos h]
theorem relT_step (L : Nat → Nat) (lo hi k q : Nat) : relT L lo hi (k + 1) q = if q = k then (if L k = hi then lo else L k) else relT L lo hi k q := by
  unfold relT
  by_cases e : q = k
  · subst e; rw [if_pos (by omega), if_pos rfl]
  · rw [if_neg e]
    by_cases h : q < k
    · rw [if_pos (by omega), if_pos h]
    · rw [if_neg (by omega), if_neg h]
end Go.Proofs.YtimocdpfnncnlaaGreat

/- Connected instances, on both sides. -/
namespace Go.Proofs.YtimocdpfnncnlaaGreat
open Go.ChangeShapes Go.WideShapes Go.ChangeAt Go.RowKit Go.Deep

def ConnF (p : Pgm) : List Int := connL (depP p) (usP p).length
theorem ConnF_len (p : Pgm) : (ConnF p).length ≤ 1000000 := by
  have := usP_le p
  unfold ConnF connL
  rw [labL_len]; omega
theorem labL_gi {M : Nat → Nat} {n k : Nat} (h : k < n) : gi (labL M n) k = ((M k : Nat) : Int) := gi_range h
theorem labL_set {M N : Nat → Nat} {n k v : Nat} (hk : k < n) (h : ∀ j, j < n → N j = if j = k then v else M j) : (labL M n).set k (v : Int) = labL N n :=
  range_set hk fun j hj => by rw [h j hj]; split <;> rfl
theorem i64_lab {M : Nat → Nat} {k n : Nat} (h : ∀ q, M q ≤ q) (hk : k < n) (hn : n ≤ 120) : I64 ((M k : Nat) : Int) := by
  have := h k; unfold I64; omega
theorem dp_conn {us : List Us} {ds : List Dp} (hd : ∀ d ∈ ds, DpOk us d) : ∀ d ∈ ds, 0 ≤ d.from_ ∧ 0 ≤ d.to_ := fun d h => by
  have h1 := (hd d h).f0; have h2 := (hd d h).ft; omega
theorem pull_step {ds : List Dp} {M N : Nat → Nat} {a b m s : Nat} (h : M a ≠ M b) (ha : a < m) (hb : b < m) (hs : sumL M m + s ≤ sumL N m) : sumL (pull M a b) m + 1 ≤ sumL N m := by
  obtain ⟨k, hk, hlt⟩ := pull_lt h
  have := sumL_lt (pull_le M a b) hlt (n := m) (by rcases hk with rfl | rfl <;> assumption)
  omega
theorem pull_set {W : World} {M : Nat → Nat} {n c a b v b6 o6 : Nat} {bs : List Nat} (ha : a < n) (hb : b < n) (hv : v = min (M a) (M b)) (hi : I64 (v : Int)) (h : Rep W (ints (labL M n)) [.slice (some ⟨b6, o6, none⟩) n c] bs) :
    Rep ((W.setCell ⟨b6, o6 + a, none⟩ (.int .i64 (v : Int))).setCell ⟨b6, o6 + b, none⟩ (.int .i64 (v : Int))) (ints (labL (pull M a b) n)) [.slice (some ⟨b6, o6, none⟩) n c] bs := by
  have h1 := h.ints_set (j := a) (v := (v : Int)) (by rw [labL_len]; exact ha) hi
  rw [labL_set (N := fun j => if j = a then v else M j) ha fun j _ => rfl] at h1
  have h2 := h1.ints_set (j := b) (v := (v : Int)) (by rw [labL_len]; exact hb) hi
  rwa [labL_set (N := pull M a b) hb fun j _ => by
    unfold pull
    by_cases e : j = a
    · rw [if_pos e]; subst e
      by_cases e2 : j = b
      · rw [if_pos e2, hv]
      · rw [if_neg e2, if_pos rfl, hv]
    · rw [if_neg e]
      by_cases e2 : j = b
      · rw [if_pos e2, if_pos e2, hv]
      · rw [if_neg e2, if_neg e2, if_neg e]] at h2
theorem agree_snoc {ds : List Dp} {N : Nat → Nat} {j a b : Nat} (hj : j < ds.length) (ha : ds[j].from_ = (a : Int)) (hb : ds[j].to_ = (b : Int)) (h : ∀ d ∈ ds.take j, N d.from_.toNat = N d.to_.toNat) (he : N a = N b) : ∀ d ∈ ds.take (j + 1), N d.from_.toNat = N d.to_.toNat := by
  intro d hd
  rw [List.take_succ_eq_append_getElem hj] at hd
  rcases List.mem_append.1 hd with hd | hd
  · exact h d hd
  · rw [List.mem_singleton.1 hd, ha, hb, Int.toNat_natCast, Int.toNat_natCast, he]

set_option maxRecDepth 100000 in
set_option maxHeartbeats 8000000 in
theorem implConnectedParts_c {w : World} {p : Pgm} {cs : List Value} {bs : List Nat} (h : Rep w p.d cs bs) :
    Calls Tryz.prog 23 #[.agg cs.toArray] w (MadeInts w (ConnF p)) := by
  have HP := Lib.hid h
  obtain ⟨A1, c1, A2, c2, d1, d2, rfl, rfl, g1, g2⟩ := Rep.pgm_iff.1 h
  have Garrays := Lib.hid g1
  have Gparts := Lib.hid g2
  clear h g1 g2
  have HDD := Lib.hid (depP_ok p)
  have hu := usP_le p
  have HL := Lib.hid (usP_len p)
  obtain ⟨m, hm⟩ : ∃ m, m = (usP p).length := ⟨_, rfl⟩
  have HM := Lib.hid hm
  rw [← hm] at hu
  obtain ⟨ds, hds⟩ : ∃ ds, ds = depP p := ⟨_, rfl⟩
  have HDS := Lib.hid hds
  have HF := Lib.hid (show ConnF p = connL ds m by rw [hm, hds]; rfl)
  rw [HF.out]
  rw [← hds] at HDD
  clear hm hds
  go_enter Tryz.func23, Tryz.ntmps23
  go_wp2_with fail
  refine (implProgramInstances_c (HP.out.below bel)).mono ?_
  rintro e w1 ⟨A4, n4, c4, bs4, rfl, r1, _, _, b1⟩
  have P1 : Box2 w1 w.heap.size (.slice A1 p.arrays.length c1) (.slice A2 p.parts.length c2) := by
    refine ⟨?_, ?_⟩ <;> (rw [b1.cell (by simp [World.setCell]; try omega)]; go_simp)
  have S1 : Below w.heap.size w w1 := bel
  obtain ⟨rfl, _, _⟩ := r1.sls_len
  rw [← HL.out, ← HM.out]
  clear r1 b1
  have hz1 := S1.size
  go_wp2
  go_loopw [3, 13] (fun u i wr => ∃ j : Nat, j ≤ m ∧ i = .int .i64 j ∧ Grow wr w1.heap.size 3 1 u ((labL id j).map D.int) ∧ Below w1.heap.size w1 wr) (fun _ i _ => m - (intOf i).toNat)
  case atStart => exact ⟨0, Nat.zero_le _, rfl, Grow.nil _ _ _ _, Below.refl _ _⟩
  case round =>
    obtain ⟨j, hj, rfl, hG, hb⟩ := hrel
    have HG := Lib.hid hG; clear hG
    obtain ⟨Au, cu, hfu, _, _⟩ := HG.out.form
    rw [List.length_map, labL_len] at hfu
    by_cases hlt : j < m
    case pos =>
      have hbz := hb.size
      have HREP := Lib.hid (show labL id (j + 1) = labL id j ++ [(j : Int)] from labL_snoc id j)
      have hI := Lib.hid (show I64 (j : Int) by unfold I64; omega)
      obtain ⟨l, hl⟩ : ∃ l, l = labL id j := ⟨_, rfl⟩
      have hle : l.length ≤ 120 := by rw [hl, labL_len]; omega
      rw [← hl] at HG HREP
      clear hl
      subst hfu
      go_wp2_with (
        at_builtin
        refine wpList_append_more (w0 := wr) (B := w1.heap.size) (xs := l.map D.int) (ys := [D.int (j:Int)]) rfl (.tmp 16) (.tmp 18) _ rfl _ Tryz.underlying35 Tryz.infoInt rfl (by decide) rfl HG.out ?hbw rfl (one_int _ hI.out _) ?hys ?hn ?hf ?hlen ?hba ?_
        case hbw => exact bel
        case hys => intro y hy; simp only [List.mem_singleton] at hy; rw [hy]; rfl
        case hn => simp
        case hf => simp
        case hlen => simp; omega
        case hba => exact hbz
        intro v4 w4 hG4 hg4)
      have HG4 := Lib.hid (show Grow w4 w1.heap.size 3 1 v4 ((labL id (j + 1)).map D.int) by rw [HREP.out, List.map_append]; exact hG4)
      have S4 : Below w1.heap.size w1 w4 := (hb.alloc hb.size _).trans (hg4.below (Nat.le_trans hbz (by simp)) (fun b hb => (HG.out.own_ge b hb).1))
      clear hG4 hg4
      go_wp2
      go_roundw
      case rel => exact ⟨j + 1, by omega, by go_num, HG4.out, S4⟩
      case measure => simp [intOf]; omega
    have hjj : j = m := by omega
    subst hjj
    have Pr := P1.to hb
    have Sr := below_tr S1 hb
    have lp := lt_of_cell Pr.1
    subst hfu
    go_wp2_with fail
    refine (implDependences_c (HP.out.below (below_tr Sr bel))).mono ?_
    rintro e w3 ⟨A5, c5, bs5, rfl, r4, nd4, hb4, b4⟩
    rw [← HDS.out] at r4 ⊢
    obtain ⟨_, h1, h2⟩ := r4.sls_len
    have hn : ds.length ≤ 9223372036854775807 := Nat.le_trans h1 h2
    have R4 := Lib.hid r4
    obtain ⟨A6, c6, bs6, he, h61, h62, h63, _⟩ := (HG.out).ints
    rw [labL_len] at he h61
    obtain ⟨rfl, rfl⟩ : Au = A6 ∧ cu = c6 := by simpa using he
    have h6l := Rep.lt _ h61
    have HAP := Lib.hid (show ∀ y ∈ bs5, y ∉ bs6 from fun y hy h6 => by have := hb4 y hy; have := h6l y h6; omega)
    have H60 := Lib.hid (h61.below b4)
    have S3 : Below w.heap.size w w3 := below_tr Sr b4
    have HGE := Lib.hid (show ∀ y ∈ bs6, w.heap.size ≤ y from fun y hy => Nat.le_trans hz1 (h63 y hy))
    have ND := Lib.hid h62
    have hzr := S3.size
    clear r4 h1 h2 h61 h62 h63 h6l he nd4 hb4 b4 Pr lp hb HG P1
    go_wp2
    go_loopg [6] (2 * sumL id j + 1) (fun g ch wv => ∃ (M : Nat → Nat) (t : Bool), ch = .bool t ∧ g = 2 * sumL M j + t.toNat ∧ Rep wv (ints (labL M j)) [.slice Au j cu] bs6 ∧ Touch bs6 w3 wv ∧ Cpre ds M ∧ (t = false → Cgood ds M))
    case atStart => exact ⟨id, true, rfl, rfl, H60.out, Touch.refl _ _, Cpre.id ds, fun h => by cases h⟩
    case round =>
      obtain ⟨M, t, rfl, hg, hr, ht, hpre, hgood⟩ := hrel
      have HR := Lib.hid hr; clear hr
      have HT := Lib.hid ht; clear ht
      have HPRE := Lib.hid hpre; clear hpre
      have Sq : Below w.heap.size w wr := S3.trans (HT.out.below hzr HGE.out)
      have HGK := Lib.hid hg; clear hg
      cases t with
      | false =>
        have HX := Lib.hid (show labL M j = connL ds j from labL_congr fun k _ => (hgood rfl).uniq (conF_good (dp_conn HDD.out)) k)
        clear hgood
        go_wp2
        go_ret
        exact ⟨_, _, _, bs6, rfl, by rw [← HX.out]; exact HR.out, ND.out, HGE.out, Sq⟩
      | true =>
        clear hgood
        go_wp2
        go_loopw [6, 26] (fun ch i wv => ∃ (q : Nat) (N : Nat → Nat) (t : Bool), q ≤ ds.length ∧ i = .int .i64 q ∧ ch = .bool t ∧ sumL N j + t.toNat ≤ sumL M j ∧ Rep wv (ints (labL N j)) [.slice Au j cu] bs6 ∧ Touch bs6 w3 wv ∧ Cpre ds N ∧ (t = false → ∀ d ∈ ds.take q, N d.from_.toNat = N d.to_.toNat)) (fun _ i _ => ds.length - (intOf i).toNat)
        case atStart => exact ⟨0, M, false, Nat.zero_le _, rfl, rfl, Nat.le_refl _, HR.out, HT.out, HPRE.out, fun _ d hd => by simp at hd⟩
        case round =>
          clear HR HT HPRE Sq
          obtain ⟨q, N, t, hq, rfl, rfl, hs, hr, ht, hpre, hag⟩ := hrel
          have HR := Lib.hid hr; clear hr
          have HT := Lib.hid ht; clear ht
          have HPRE := Lib.hid hpre; clear hpre
          have HAG := Lib.hid hag; clear hag
          have HS := Lib.hid hs; clear hs
          by_cases hqt : q < ds.length
          case neg =>
            have hqq : q = ds.length := by omega
            subst hqq
            have HGO := Lib.hid (show t = false → Cgood ds N from fun e => ⟨HPRE.out, fun d hd => HAG.out e d (by rw [List.take_length]; exact hd)⟩)
            go_wp2
            go_roundg (2 * sumL N j + t.toNat)
            case measure => have h1 := HGK.out; have h2 := HS.out; cases t <;> simp at h1 h2 ⊢ <;> omega
            case rel => exact ⟨N, t, rfl, rfl, HR.out, HT.out, HPRE.out, HGO.out⟩
          have hmem := List.getElem_mem hqt
          obtain ⟨a, b, hfa, htb, hab, hbl⟩ := (HDD.out _ hmem).nat
          rw [← HM.out] at hbl
          have HMEM := Lib.hid hmem
          have HFA := Lib.hid hfa
          have HTB := Lib.hid htb
          have RR := Lib.hid (Rep.keep _ R4.out (HT.out.keeps fun y hy => ⟨Rep.lt _ R4.out y hy, HAP.out y hy⟩))
          obtain ⟨be, oe, cse, le, rfl, hble, hre, _, _, hce⟩ := RR.out.sls_at Dp.d_size (k := q) hqt
          have Ge := Lib.hid hre
          obtain ⟨rfl, rfl, g1e, g2e, g3e⟩ := Rep.dp_iff.1 hre
          have k0e := (hce 0 _ rfl).1; rw [Nat.add_zero] at k0e
          have k1e := (hce 1 _ rfl).1
          have k2e := (hce 2 _ rfl).1
          have Q1e := Lib.hid g1e
          have Q2e := Lib.hid g2e
          have Q3e := Lib.hid g3e
          clear hce hre g1e g2e g3e
          rw [hfa] at k0e
          rw [htb] at k1e
          have hal : a < j := by omega
          obtain ⟨b6, o6, hA6, hb6, hl6, hca, hfz⟩ := HR.out.ints_at (k := a) (by rw [labL_len]; exact hal)
          obtain ⟨b7, o7, hA7, _, _, hcb, hfz7⟩ := HR.out.ints_at (k := b) (by rw [labL_len]; exact hbl)
          subst hA6
          obtain ⟨rfl, rfl⟩ : b6 = b7 ∧ o6 = o7 := by simpa using hA7
          rw [labL_gi hal] at hca
          rw [labL_gi hbl] at hcb
          have HI := Lib.hid (And.intro (i64_lab HPRE.out.l hal hu) (i64_lab HPRE.out.l hbl hu))
          have HCM := Lib.hid (show Cpre ds (pull N a b) from pull_pre HPRE.out hmem hfa htb)
          have HB6 := Lib.hid hb6
          have hne : ¬ a = b := by omega
          obtain ⟨x, hx⟩ : ∃ x, x = N a := ⟨_, rfl⟩
          obtain ⟨y, hy⟩ : ∃ y, y = N b := ⟨_, rfl⟩
          rw [← hx] at hca
          rw [← hy] at hcb
          have HX := Lib.hid hx
          have HY := Lib.hid hy
          clear hx hy hA7 hb6 hmem hfa htb
          rcases Nat.lt_trichotomy x y with hxy | hxy | hxy
          case inr.inl =>
            subst hxy
            have HA2 := Lib.hid (fun e => agree_snoc hqt HFA.out HTB.out (HAG.out e) (HX.out.symm.trans HY.out))
            go_wp2_with fail
            go_quiet (fail)
            go_wp2
            go_roundw
            case rel => exact ⟨q + 1, N, t, by omega, by go_num, rfl, HS.out, HR.out.below bel, HT.out.trans (Touch.of_below bel), HPRE.out, HA2.out⟩
            case measure => simp [intOf]; omega
          case inl =>
            have hmn : min (x : Int) (y : Int) = (x : Int) := by omega
            have q2 : ((y : Int) != (x : Int)) = true := ine_t (by omega)
            have HSM := Lib.hid (pull_step (ds := ds) (a := a) (b := b) (by rw [← HX.out, ← HY.out]; omega) hal hbl HS.out)
            have HST := Lib.hid (fun W (hW : Rep W (ints (labL N j)) [.slice (some ⟨b6, o6, none⟩) j cu] bs6) => pull_set (v := x) hal hbl (by rw [← HX.out, ← HY.out]; omega) (by rw [HX.out]; exact HI.out.1) hW)
            go_wp2_with fail
            go_quiet (fail)
            go_wp2_with fail
            refine wp_region_noPanic ?_
            refine wp_region_held_drew (S := fun w' => w'.cell? ⟨wr.heap.size, 0, none⟩ = some (.int .i64 (a : Int)) ∧ w'.cell? ⟨wr.heap.size, 1, none⟩ = some (.int .i64 (b : Int))) (by kernel_rfl) (⟨by go_simp, by go_simp⟩) (fun hHeld => ?_)
            refine goR 0 hHeld ?_
            refine goR 1 hHeld ?_
            refine goR 2 hHeld ?_
            refine goR 3 hHeld ?_
            refine goR 4 hHeld ?_
            refine goR 5 hHeld ?_
            refine goR 6 hHeld ?_
            refine goR 7 hHeld ?_
            refine goR 8 hHeld ?_
            refine stepR (i := 9) rfl (by kernel_rfl) (wanted_none rfl) (fun K hK => ?_)
            (unfold Oper.wp; go_simp)
            refine hK.out _ _ (⟨by obtain ⟨q1_, q2_⟩ := hHeld; go_simp, by obtain ⟨q1_, q2_⟩ := hHeld; go_simp⟩) (fun hHeld => ?_)
            clear hK K
            try simp only [Act.put, List.setIfInBounds_toArray, List.set_cons_zero, List.set_cons_succ]
            refine goR 10 hHeld ?_
            refine stepR (i := 11) rfl (by kernel_rfl) (wanted_none rfl) (fun K hK => ?_)
            (unfold Oper.wp; go_simp)
            refine hK.out _ _ (⟨by obtain ⟨q1_, q2_⟩ := hHeld; go_simp, by obtain ⟨q1_, q2_⟩ := hHeld; go_simp⟩) (fun hHeld => ?_)
            clear hK K
            try simp only [Act.put, List.setIfInBounds_toArray, List.set_cons_zero, List.set_cons_succ]
            refine goR 12 hHeld ?_
            refine wpAnyH_done (by kernel_rfl) ?_ _
            refine NoPanic.normal ?_
            go_wp2
            go_roundw
            case rel => exact ⟨q + 1, pull N a b, true, by omega, by go_num, rfl, HSM.out, HST.out _ (HR.out.below bel), ((HT.out.trans (Touch.of_below bel)).setCell (by rw [HB6.out]; simp) _).setCell (by rw [HB6.out]; simp) _, HCM.out, fun h => by cases h⟩
            case measure => simp [intOf]; omega
          case inr.inr =>
            have hmn : min (x : Int) (y : Int) = (y : Int) := by omega
            have q2 : ((x : Int) != (y : Int)) = true := ine_t (by omega)
            have HSM := Lib.hid (pull_step (ds := ds) (a := a) (b := b) (by rw [← HX.out, ← HY.out]; omega) hal hbl HS.out)
            have HST := Lib.hid (fun W (hW : Rep W (ints (labL N j)) [.slice (some ⟨b6, o6, none⟩) j cu] bs6) => pull_set (v := y) hal hbl (by rw [← HX.out, ← HY.out]; omega) (by rw [HY.out]; exact HI.out.2) hW)
            go_wp2_with fail
            go_quiet (fail)
            go_wp2_with fail
            refine wp_region_noPanic ?_
            refine wp_region_held_drew (S := fun w' => w'.cell? ⟨wr.heap.size, 0, none⟩ = some (.int .i64 (a : Int)) ∧ w'.cell? ⟨wr.heap.size, 1, none⟩ = some (.int .i64 (b : Int))) (by kernel_rfl) (⟨by go_simp, by go_simp⟩) (fun hHeld => ?_)
            refine goR 0 hHeld ?_
            refine goR 1 hHeld ?_
            refine goR 2 hHeld ?_
            refine goR 3 hHeld ?_
            refine goR 4 hHeld ?_
            refine goR 5 hHeld ?_
            refine goR 6 hHeld ?_
            refine goR 7 hHeld ?_
            refine goR 8 hHeld ?_
            refine stepR (i := 9) rfl (by kernel_rfl) (wanted_none rfl) (fun K hK => ?_)
            (unfold Oper.wp; go_simp)
            refine hK.out _ _ (⟨by obtain ⟨q1_, q2_⟩ := hHeld; go_simp, by obtain ⟨q1_, q2_⟩ := hHeld; go_simp⟩) (fun hHeld => ?_)
            clear hK K
            try simp only [Act.put, List.setIfInBounds_toArray, List.set_cons_zero, List.set_cons_succ]
            refine goR 10 hHeld ?_
            refine stepR (i := 11) rfl (by kernel_rfl) (wanted_none rfl) (fun K hK => ?_)
            (unfold Oper.wp; go_simp)
            refine hK.out _ _ (⟨by obtain ⟨q1_, q2_⟩ := hHeld; go_simp, by obtain ⟨q1_, q2_⟩ := hHeld; go_simp⟩) (fun hHeld => ?_)
            clear hK K
            try simp only [Act.put, List.setIfInBounds_toArray, List.set_cons_zero, List.set_cons_succ]
            refine goR 12 hHeld ?_
            refine wpAnyH_done (by kernel_rfl) ?_ _
            refine NoPanic.normal ?_
            go_wp2
            go_roundw
            case rel => exact ⟨q + 1, pull N a b, true, by omega, by go_num, rfl, HSM.out, HST.out _ (HR.out.below bel), ((HT.out.trans (Touch.of_below bel)).setCell (by rw [HB6.out]; simp) _).setCell (by rw [HB6.out]; simp) _, HCM.out, fun h => by cases h⟩
            case measure => simp [intOf]; omega
set_option maxRecDepth 100000 in
set_option maxHeartbeats 8000000 in
theorem specConnectedParts_c {w : World} {p : Pgm} {cs : List Value} {bs : List Nat} (h : Rep w p.d cs bs) :
    Calls Tryz.prog 22 #[.agg cs.toArray] w (MadeInts w (ConnF p)) := by
  have HP := Lib.hid h
  obtain ⟨A1, c1, A2, c2, d1, d2, rfl, rfl, g1, g2⟩ := Rep.pgm_iff.1 h
  have Garrays := Lib.hid g1
  have Gparts := Lib.hid g2
  clear h g1 g2
  have HDD := Lib.hid (depP_ok p)
  have hu := usP_le p
  have HL := Lib.hid (usP_len p)
  obtain ⟨m, hm⟩ : ∃ m, m = (usP p).length := ⟨_, rfl⟩
  have HM := Lib.hid hm
  rw [← hm] at hu
  have HPI := Lib.hid (show (ProgramInstancesF p).length = m from (usP_len p).symm.trans hm.symm)
  obtain ⟨ds, hds⟩ : ∃ ds, ds = depP p := ⟨_, rfl⟩
  have HDS := Lib.hid hds
  have HF := Lib.hid (show ConnF p = connL ds m by rw [hm, hds]; rfl)
  rw [HF.out]
  rw [← hds] at HDD
  clear hm hds
  go_enter Tryz.func22, Tryz.ntmps22
  go_wp2
  go_loopw [3, 4] (fun u i wr => ∃ j : Nat, j ≤ m ∧ i = .int .i64 j ∧ Grow wr (w.heap.size + 1) 3 1 u ((labL id j).map D.int) ∧ Box2 wr w.heap.size (.slice A1 p.arrays.length c1) (.slice A2 p.parts.length c2) ∧ Below w.heap.size w wr ∧ w.heap.size + 1 ≤ wr.heap.size) (fun _ i _ => m - (intOf i).toNat)
  case atStart => exact ⟨0, Nat.zero_le _, rfl, Grow.madeE _ _ (by simp) (Nat.le_refl _), ⟨by go_simp, by go_simp⟩, bel, by simp⟩
  case round =>
    obtain ⟨j, hj, rfl, hG, Pr, Sr, hwr⟩ := hrel
    have HG0 := Lib.hid hG; clear hG
    have lp := lt_of_cell Pr.1
    go_wp2_with fail
    refine (specProgramInstances_k (HP.out.below bel)).mono ?_
    rintro e w2 ⟨A4, n4, c4, bs4, rfl, r4, _, _, b2⟩
    obtain ⟨rfl, _, _⟩ := r4.sls_len
    rw [HPI.out]
    have P2 := Pr.to b2
    have S2 := below_tr Sr b2
    have HG := Lib.hid (HG0.out.below b2)
    have hbz : w.heap.size + 1 ≤ w2.heap.size := Nat.le_trans hwr b2.size
    clear HG0 r4 b2 Pr Sr lp hwr
    obtain ⟨Au, cu, hfu, _, _⟩ := HG.out.form
    rw [List.length_map, labL_len] at hfu
    by_cases hlt : j < m
    case pos =>
      have HREP := Lib.hid (show labL id (j + 1) = labL id j ++ [(j : Int)] from labL_snoc id j)
      have hI := Lib.hid (show I64 (j : Int) by unfold I64; omega)
      obtain ⟨l, hl⟩ : ∃ l, l = labL id j := ⟨_, rfl⟩
      have hle : l.length ≤ 120 := by rw [hl, labL_len]; omega
      rw [← hl] at HG HREP
      clear hl
      subst hfu
      go_wp2_with (
        at_builtin
        refine wpList_append_more (w0 := w2) (B := (w.heap.size+1)) (xs := l.map D.int) (ys := [D.int (j:Int)]) rfl (.tmp 19) (.tmp 21) _ rfl _ Tryz.underlying35 Tryz.infoInt rfl (by decide) rfl HG.out ?hbw rfl (one_int _ hI.out _) ?hys ?hn ?hf ?hlen ?hba ?_
        case hbw => exact bel
        case hys => intro y hy; simp only [List.mem_singleton] at hy; rw [hy]; rfl
        case hn => simp
        case hf => simp
        case hlen => simp; omega
        case hba => exact hbz
        intro v4 w4 hG4 hg4)
      have HG4 := Lib.hid (show Grow w4 (w.heap.size + 1) 3 1 v4 ((labL id (j + 1)).map D.int) by rw [HREP.out, List.map_append]; exact hG4)
      have B4 : Below (w.heap.size + 1) w2 w4 := ((Below.refl (w.heap.size + 1) w2).alloc hbz _).trans (hg4.below (Nat.le_trans hbz (by simp)) (fun b hb => (HG.out.own_ge b hb).1))
      clear hG4 hg4
      have P4 := P2.toB (Nat.lt_succ_self _) B4
      have S4 : Below w.heap.size w w4 := S2.trans (B4.mono (Nat.le_succ _))
      have hz4 := Nat.le_trans hbz B4.size
      clear P2 S2 B4
      go_wp2
      go_roundw
      case rel => exact ⟨j + 1, by omega, by go_num, HG4.out, P4, S4, hz4⟩
      case measure => simp [intOf]; omega
    have hjj : j = m := by omega
    subst hjj
    have lp := lt_of_cell P2.1
    subst hfu
    go_wp2_with fail
    refine (specDependences_c (HP.out.below bel)).mono ?_
    rintro e w3 ⟨A5, c5, bs5, rfl, r4, nd4, hb4, b4⟩
    rw [← HDS.out] at r4 ⊢
    obtain ⟨_, h1, h2⟩ := r4.sls_len
    have hn : ds.length ≤ 9223372036854775807 := Nat.le_trans h1 h2
    have R4 := Lib.hid r4
    obtain ⟨A6, c6, bs6, he, h61, h62, h63, _⟩ := (HG.out).ints
    rw [labL_len] at he h61
    obtain ⟨rfl, rfl⟩ : Au = A6 ∧ cu = c6 := by simpa using he
    have h6l := Rep.lt _ h61
    have HAP := Lib.hid (show ∀ y ∈ bs5, y ∉ bs6 from fun y hy h6 => by have := hb4 y hy; have := h6l y h6; omega)
    have H60 := Lib.hid (h61.below b4)
    have S3 : Below w.heap.size w w3 := below_tr S2 b4
    have HGE := Lib.hid (show ∀ y ∈ bs6, w.heap.size ≤ y from fun y hy => Nat.le_trans (Nat.le_succ _) (h63 y hy))
    have ND := Lib.hid h62
    have hzr := S3.size
    clear r4 h1 h2 h61 h62 h63 h6l he nd4 hb4 b4 P2 lp HG S2
    go_wp2
    go_loopw [6] (fun i wv => ∃ q : Nat, q ≤ ds.length ∧ i = .int .i64 q ∧ Rep wv (ints (labL (conT ds q) j)) [.slice Au j cu] bs6 ∧ Touch bs6 w3 wv) (fun i _ => ds.length - (intOf i).toNat)
    case atStart => exact ⟨0, Nat.zero_le _, rfl, H60.out, Touch.refl _ _⟩
    case round =>
      obtain ⟨q, hq, rfl, hr, ht⟩ := hrel
      have HR := Lib.hid hr; clear hr
      have HT := Lib.hid ht; clear ht
      by_cases hqt : q < ds.length
      case neg =>
        have hqq : q = ds.length := by omega
        subst hqq
        have Sq : Below w.heap.size w wr := S3.trans (HT.out.below hzr HGE.out)
        go_wp2
        go_ret
        exact ⟨_, _, _, bs6, rfl, HR.out, ND.out, HGE.out, Sq⟩
      have hmem := List.getElem_mem hqt
      obtain ⟨a, b, hfa, htb, hab, hbl⟩ := (HDD.out _ hmem).nat
      rw [← HM.out] at hbl
      have RR := Lib.hid (Rep.keep _ R4.out (HT.out.keeps fun y hy => ⟨Rep.lt _ R4.out y hy, HAP.out y hy⟩))
      obtain ⟨be, oe, cse, le, rfl, hble, hre, _, _, hce⟩ := RR.out.sls_at Dp.d_size (k := q) hqt
      have Ge := Lib.hid hre
      obtain ⟨rfl, rfl, g1e, g2e, g3e⟩ := Rep.dp_iff.1 hre
      have k0e := (hce 0 _ rfl).1; rw [Nat.add_zero] at k0e
      have k1e := (hce 1 _ rfl).1
      have k2e := (hce 2 _ rfl).1
      have Q1e := Lib.hid g1e
      have Q2e := Lib.hid g2e
      have Q3e := Lib.hid g3e
      clear hce hre g1e g2e g3e
      have HSU := Lib.hid (show conT ds (q + 1) = relab (conT ds q) (conT ds q a) (conT ds q b) by rw [conT_succ hqt]; unfold conS; rw [hfa, htb, Int.toNat_natCast, Int.toNat_natCast])
      rw [hfa] at k0e
      rw [htb] at k1e
      have hal : a < j := by omega
      have HLE := Lib.hid (conT_le (dp_conn HDD.out) hq)
      obtain ⟨L, hL⟩ : ∃ L, L = conT ds q := ⟨_, rfl⟩
      rw [← hL] at HR HLE HSU
      clear hL hfa htb hmem
      obtain ⟨b6, o6, hA6, hb6, hl6, hca, hfz⟩ := HR.out.ints_at (k := a) (by rw [labL_len]; exact hal)
      obtain ⟨b7, o7, hA7, _, _, hcb, hfz7⟩ := HR.out.ints_at (k := b) (by rw [labL_len]; exact hbl)
      subst hA6
      obtain ⟨rfl, rfl⟩ : b6 = b7 ∧ o6 = o7 := by simpa using hA7
      rw [labL_gi hal] at hca
      rw [labL_gi hbl] at hcb
      have HB6 := Lib.hid hb6
      have hxa := HLE.out a
      have hyb := HLE.out b
      obtain ⟨x, hx⟩ : ∃ x, x = L a := ⟨_, rfl⟩
      obtain ⟨y, hy⟩ : ∃ y, y = L b := ⟨_, rfl⟩
      rw [← hx] at hca HSU hxa
      rw [← hy] at hcb HSU hyb
      clear hx hy hA7 hb6
      by_cases hxy : y < x
      case pos =>
        have HEND := Lib.hid (show labL (relT L y x j) j = labL (conT ds (q + 1)) j from labL_congr fun k hk => by rw [relT_end hk, HSU.out]; unfold relab; rw [Nat.max_eq_left (by omega), Nat.min_eq_right (by omega)])
        have HI := Lib.hid (show I64 ((y : Nat) : Int) by unfold I64; omega)
        go_wp2
        go_loopw [10] (fun i wv => ∃ k : Nat, k ≤ j ∧ i = .int .i64 k ∧ Rep wv (ints (labL (relT L y x k) j)) [.slice (some ⟨b6, o6, none⟩) j cu] bs6 ∧ Touch bs6 w3 wv) (fun i _ => j - (intOf i).toNat)
        case atStart => exact ⟨0, Nat.zero_le _, rfl, by rw [labL_congr (N := L) fun k _ => relT_0 L _ _ k]; exact HR.out, HT.out⟩
        case round =>
          clear HR HT hca hcb hfz hfz7 k0e k1e RR hl6
          obtain ⟨k, hk, rfl, hr, ht⟩ := hrel
          have HR := Lib.hid hr; clear hr
          have HT := Lib.hid ht; clear ht
          by_cases hkt : k < j
          case neg =>
            have hkk : k = j := by omega
            subst hkk
            have HR2 := Lib.hid (show Rep wr (ints (labL (conT ds (q + 1)) k)) [.slice (some ⟨b6, o6, none⟩) k cu] bs6 by rw [← HEND.out]; exact HR.out)
            go_wp2
            go_roundw
            case rel => exact ⟨q + 1, by omega, by go_num, HR2.out, HT.out⟩
            case measure => simp [intOf]; omega
          obtain ⟨b8, o8, hA8, hb8, hl8, hck, hfk⟩ := HR.out.ints_at (k := k) (by rw [labL_len]; exact hkt)
          obtain ⟨rfl, rfl⟩ : b6 = b8 ∧ o6 = o8 := by simpa using hA8
          rw [labL_gi hkt, show relT L y x k k = L k by unfold relT; rw [if_neg (by omega)]] at hck
          clear hA8 hb8
          have hvk := HLE.out k
          by_cases hv : L k = x
          case pos =>
            have HSET := Lib.hid (show ∀ W : World, Rep W (ints (labL (relT L y x k) j)) [.slice (some ⟨b6, o6, none⟩) j cu] bs6 → Rep (W.setCell ⟨b6, o6 + k, none⟩ (.int .i64 (y : Int))) (ints (labL (relT L y x (k + 1)) j)) [.slice (some ⟨b6, o6, none⟩) j cu] bs6 from fun W hW => by
              have h1 := hW.ints_set (j := k) (v := (y : Int)) (by rw [labL_len]; exact hkt) HI.out
              rwa [labL_set (N := relT L y x (k + 1)) hkt fun q _ => by rw [relT_step, if_pos hv]] at h1)
            obtain ⟨v, hvv⟩ : ∃ v, v = L k := ⟨_, rfl⟩
            rw [← hvv] at hck hvk hv
            have q1 : ((v : Int) == (x : Int)) = true := ieq_t (by omega)
            clear hvv hv
            go_wp2
            go_roundw
            case rel => exact ⟨k + 1, by omega, by go_num, HSET.out _ HR.out, HT.out.setCell (by rw [HB6.out]; simp) _⟩
            case measure => simp [intOf]; omega
          case neg =>
            have HSAME := Lib.hid (show labL (relT L y x (k + 1)) j = labL (relT L y x k) j from labL_congr fun q _ => by
              rw [relT_step]
              by_cases e : q = k
              · subst e; rw [if_pos rfl, if_neg hv]; unfold relT; rw [if_neg (by omega)]
              · rw [if_neg e])
            obtain ⟨v, hvv⟩ : ∃ v, v = L k := ⟨_, rfl⟩
            rw [← hvv] at hck hvk hv
            have q1 : ((v : Int) == (x : Int)) = false := ieq_f (by omega)
            clear hvv hv
            go_wp2
            go_roundw
            case rel => exact ⟨k + 1, by omega, by go_num, by rw [HSAME.out]; exact HR.out, HT.out⟩
            case measure => simp [intOf]; omega
      case neg =>
        have HEND := Lib.hid (show labL (relT L x y j) j = labL (conT ds (q + 1)) j from labL_congr fun k hk => by rw [relT_end hk, HSU.out]; unfold relab; rw [Nat.max_eq_right (by omega), Nat.min_eq_left (by omega)])
        have HI := Lib.hid (show I64 ((x : Nat) : Int) by unfold I64; omega)
        go_wp2
        go_loopw [10] (fun i wv => ∃ k : Nat, k ≤ j ∧ i = .int .i64 k ∧ Rep wv (ints (labL (relT L x y k) j)) [.slice (some ⟨b6, o6, none⟩) j cu] bs6 ∧ Touch bs6 w3 wv) (fun i _ => j - (intOf i).toNat)
        case atStart => exact ⟨0, Nat.zero_le _, rfl, by rw [labL_congr (N := L) fun k _ => relT_0 L _ _ k]; exact HR.out, HT.out⟩
        case round =>
          clear HR HT hca hcb hfz hfz7 k0e k1e RR hl6
          obtain ⟨k, hk, rfl, hr, ht⟩ := hrel
          have HR := Lib.hid hr; clear hr
          have HT := Lib.hid ht; clear ht
          by_cases hkt : k < j
          case neg =>
            have hkk : k = j := by omega
            subst hkk
            have HR2 := Lib.hid (show Rep wr (ints (labL (conT ds (q + 1)) k)) [.slice (some ⟨b6, o6, none⟩) k cu] bs6 by rw [← HEND.out]; exact HR.out)
            go_wp2
            go_roundw
            case rel => exact ⟨q + 1, by omega, by go_num, HR2.out, HT.out⟩
            case measure => simp [intOf]; omega
          obtain ⟨b8, o8, hA8, hb8, hl8, hck, hfk⟩ := HR.out.ints_at (k := k) (by rw [labL_len]; exact hkt)
          obtain ⟨rfl, rfl⟩ : b6 = b8 ∧ o6 = o8 := by simpa using hA8
          rw [labL_gi hkt, show relT L x y k k = L k by unfold relT; rw [if_neg (by omega)]] at hck
          clear hA8 hb8
          have hvk := HLE.out k
          by_cases hv : L k = y
          case pos =>
            have HSET := Lib.hid (show ∀ W : World, Rep W (ints (labL (relT L x y k) j)) [.slice (some ⟨b6, o6, none⟩) j cu] bs6 → Rep (W.setCell ⟨b6, o6 + k, none⟩ (.int .i64 (x : Int))) (ints (labL (relT L x y (k + 1)) j)) [.slice (some ⟨b6, o6, none⟩) j cu] bs6 from fun W hW => by
              have h1 := hW.ints_set (j := k) (v := (x : Int)) (by rw [labL_len]; exact hkt) HI.out
              rwa [labL_set (N := relT L x y (k + 1)) hkt fun q _ => by rw [relT_step, if_pos hv]] at h1)
            obtain ⟨v, hvv⟩ : ∃ v, v = L k := ⟨_, rfl⟩
            rw [← hvv] at hck hvk hv
            have q1 : ((v : Int) == (y : Int)) = true := ieq_t (by omega)
            clear hvv hv
            go_wp2
            go_roundw
            case rel => exact ⟨k + 1, by omega, by go_num, HSET.out _ HR.out, HT.out.setCell (by rw [HB6.out]; simp) _⟩
            case measure => simp [intOf]; omega
          case neg =>
            have HSAME := Lib.hid (show labL (relT L x y (k + 1)) j = labL (relT L x y k) j from labL_congr fun q _ => by
              rw [relT_step]
              by_cases e : q = k
              · subst e; rw [if_pos rfl, if_neg hv]; unfold relT; rw [if_neg (by omega)]
              · rw [if_neg e])
            obtain ⟨v, hvv⟩ : ∃ v, v = L k := ⟨_, rfl⟩
            rw [← hvv] at hck hvk hv
            have q1 : ((v : Int) == (y : Int)) = false := ieq_f (by omega)
            clear hvv hv
            go_wp2
            go_roundw
            case rel => exact ⟨k + 1, by omega, by go_num, by rw [HSAME.out]; exact HR.out, HT.out⟩
            case measure => simp [intOf]; omega
end Go.Proofs.YtimocdpfnncnlaaGreat

/- The law FnExactConnectedParts: its walk. Printed by lawgen.py. -/
namespace Go.Proofs.YtimocdpfnncnlaaGreat
open Go.ChangeShapes Go.WideShapes Go.ChangeAt Go.RowKit Go.Deep

set_option maxRecDepth 100000 in
set_option maxHeartbeats 2000000 in
theorem FnExactConnectedParts_walk {w : World} {x0 : Pgm} {A1_0 : Option Addr} {c1_0 : Nat} {A2_0 : Option Addr} {c2_0 : Nat} {bs0 : List Nat} (h0 : Rep w x0.d [.slice A1_0 x0.arrays.length c1_0, .slice A2_0 x0.parts.length c2_0] bs0) :
    Calls Tryz.prog 6 #[.agg #[.slice A1_0 x0.arrays.length c1_0, .slice A2_0 x0.parts.length c2_0]] w fun e w' => e = .returned (.bool true) ∧ Below w.heap.size w w' := by
  have H0 := Lib.hid h0; clear h0
  by_cases hs0 : (1048576 : Int) - ((szD x0.d : Nat) : Int) < 0
  · have HS0 := Lib.hid (szR_neg hs0)
    go_enter Tryz.func6, Tryz.ntmps6
    go_wp2_with fail
    refine (szProgram_t (H0.out.below bel) (by omega) (by omega)).mono ?_
    rintro e v1 ⟨rfl, bv1⟩
    rw [HS0.out]
    go_wp2
    go_ret
    exact ⟨rfl, bel⟩
  · have HS0 := Lib.hid (szR_pos (left := 1048576) (tot := szD x0.d) (by omega))
    have HN0 := Lib.hid (show szD x0.d ≤ 1048576 by omega)
    have hl0 : 0 ≤ (1048576 : Int) - ((szD x0.d : Nat) : Int) := by omega
    clear hs0
    have HL := Lib.hid (ConnF_len x0)
    go_enter Tryz.func6, Tryz.ntmps6
    have TA0 := Lib.hid (Rep.lt _ H0.out)
    go_wp2_with fail
    refine (szProgram_t (H0.out.below bel) (by omega) (by omega)).mono ?_
    rintro e w1 ⟨rfl, b1⟩
    rw [HS0.out]
    have P0_1n := (Box2.new w _ _ _).to b1
    have s1 : Below w.heap.size w w1 := bel
    have RA0_1 := Lib.hid (H0.out.below s1); clear H0
    have S1 : Below w.heap.size w w1 := s1
    have Z1 := Lib.hid (s1.size)
    have LP0 := Lib.hid (lt_of_cell P0_1n.1)
    go_wp2_with fail
    refine (toProgram_m (RA0_1.out.below bel) HN0.out).mono ?_
    rintro e w2 ⟨A1_2, c1_2, A2_2, c2_2, bs2, rfl, r2, nd2, hb2, b2⟩
    have Tc0 := Lib.hid (show ∀ y ∈ bs2, w1.heap.size + 0 ≤ y ∧ y < w2.heap.size from fun y hy => ⟨by have := hb2 y hy; (try simp at this); omega, Rep.lt _ r2 y hy⟩)
    have P0_2 := P0_1n.to b2; clear P0_1n
    have RA0_2 := Lib.hid (RA0_1.out.below b2); clear RA0_1
    have S2 : Below w.heap.size w w2 := below_tr S1 b2
    have Z2 := Lib.hid (b2.size)
    have r2h := Lib.hid r2; clear r2 hb2
    clear nd2
    go_wp2_with fail
    refine (specConnectedParts_c (r2h.out.below bel)).mono ?_
    rintro e w3 ⟨A3, n3, c3, bs3, rfl, r3, nd3, hb3, b3⟩
    have Tw0 := Lib.hid (show ∀ y ∈ bs3, y < w3.heap.size from Rep.lt _ r3)
    have P0_3 := P0_2.to b3; clear P0_2
    have RA0_3 := Lib.hid (RA0_2.out.below b3); clear RA0_2
    have Rc0_3 := Lib.hid (r2h.out.below b3); clear r2h
    have S3 : Below w.heap.size w w3 := below_tr S2 b3
    have Z3 := Lib.hid (b3.size)
    have r3h := Lib.hid r3; clear r3 hb3 nd3
    go_wp2_with fail
    refine (toProgram_m (RA0_3.out.below bel) HN0.out).mono ?_
    rintro e w4 ⟨A1_4, c1_4, A2_4, c2_4, bs4, rfl, r4, nd4, hb4, b4⟩
    have Tx0 := Lib.hid (show ∀ y ∈ bs4, w3.heap.size + 0 ≤ y ∧ y < w4.heap.size from fun y hy => ⟨by have := hb4 y hy; (try simp at this); omega, Rep.lt _ r4 y hy⟩)
    have P0_4 := P0_3.to b4; clear P0_3
    have RA0_4 := Lib.hid (RA0_3.out.below b4); clear RA0_3
    have Rw0_4 := Lib.hid (r3h.out.below b4); clear r3h
    have S4 : Below w.heap.size w w4 := below_tr S3 b4
    have Z4 := Lib.hid (b4.size)
    have r4h := Lib.hid r4; clear r4 hb4
    have ltP0_4 := lt_of_cell P0_4.1
    go_wp2_with fail
    refine (implConnectedParts_c (r4h.out.below bel)).mono ?_
    rintro e w5 ⟨A5, n5, c5, bs5, rfl, r5, nd5, hb5, b5⟩
    have Tg0 := Lib.hid (show ∀ y ∈ bs5, w4.heap.size + 1 ≤ y ∧ y < w5.heap.size from fun y hy => ⟨by have := hb5 y hy; (try simp at this); omega, Rep.lt _ r5 y hy⟩)
    have X0_5n := (Box2.new w4 _ _ _).to b5
    have s5 : Below w4.heap.size w4 w5 := bel
    have P0_5 := P0_4.to s5; clear P0_4
    have RA0_5 := Lib.hid (RA0_4.out.below s5); clear RA0_4
    have Rw0_5 := Lib.hid (Rw0_4.out.below s5); clear Rw0_4
    have Rx0_5 := Lib.hid (r4h.out.below s5); clear r4h
    have S5 : Below w.heap.size w w5 := below_tr S4 s5
    have Z5 := Lib.hid (s5.size)
    have LX0 := Lib.hid (lt_of_cell X0_5n.1)
    have r5h := Lib.hid r5; clear r5 hb5
    go_wp2_with fail
    refine (eqIntS_b (r5h.out.below bel) (Rw0_5.out.below bel)).mono ?_
    rintro e w6 ⟨rfl, b6⟩
    have P0_6 := P0_5.to b6; clear P0_5
    have X0_6 := X0_5n.to b6; clear X0_5n
    have RA0_6 := Lib.hid (RA0_5.out.below b6); clear RA0_5
    have Rw0_6 := Lib.hid (Rw0_5.out.below b6); clear Rw0_5
    have Rx0_6 := Lib.hid (Rx0_5.out.below b6); clear Rx0_5
    have Rg0_6 := Lib.hid (r5h.out.below b6); clear r5h
    have S6 : Below w.heap.size w w6 := below_tr S5 b6
    have Z6 := Lib.hid (b6.size)
    go_wp2_with fail
    go_region_held3 (fun w' => Box2 w' w.heap.size (.slice A1_0 x0.arrays.length c1_0) (.slice A2_0 x0.parts.length c2_0) ∧ Box2 w' w4.heap.size (.slice A1_4 x0.arrays.length c1_4) (.slice A2_4 x0.parts.length c2_4)) (first | exact ⟨P0_6, X0_6⟩ | exact ⟨P0_6.to (of_drew b7), X0_6.to (of_drew b7)⟩ | exact ⟨(P0_6.to (of_drew b7)).to b8, (X0_6.to (of_drew b7)).to b8⟩ | skip)
      (first | (go_at_call 11; refine (toProgram_m (RA0_6.out.below (Below.refl _ _).drew) HN0.out).mono ?_; rintro e w7 ⟨A1_7, c1_7, A2_7, c2_7, bs7, rfl, r7, nd7, hb7, b7⟩) | (go_at_call 13; refine (eqProgram_c (Rx0_6.out.below (of_drew b7)) r7).mono ?_; rintro e w8 ⟨rfl, b8⟩))
    have t8 : Below w6.heap.size w6 w8 := below_tr (of_drew b7) b8
    clear b7 b8 r7 hb7 nd7
    have P0_8 := P0_6.to t8; clear P0_6
    have X0_8 := X0_6.to t8; clear X0_6
    have RA0_8 := Lib.hid (RA0_6.out.below t8); clear RA0_6
    have Rw0_8 := Lib.hid (Rw0_6.out.below t8); clear Rw0_6
    have Rx0_8 := Lib.hid (Rx0_6.out.below t8); clear Rx0_6
    have Rg0_8 := Lib.hid (Rg0_6.out.below t8); clear Rg0_6
    have S8 : Below w.heap.size w w8 := below_tr S6 t8
    have Z8 := Lib.hid (t8.size)
    have hcnt : (ConnF x0).length ≤ 1000000 := HL.out
    have hn0c : Pgm.cntM x0 ≤ 10000000 := by have := HN0.out; have := Pgm.cntM_le x0; omega
    go_wp2_with fail
    refine (markProgram_n Rx0_8.out nd4 (q := 1) (by omega) (by omega)).mono ?_
    rintro e w9 ⟨rfl, r9, t9⟩
    have m9h := Lib.hid r9; clear r9
    have P0_9 := t9.box2 P0_8 (fun hm => by have h1 := Tx0.out _ hm; have q0 := Z1.out; have q1 := LP0.out; have q2 := Z2.out; have q3 := Z3.out; have q4 := Z4.out; have q5 := Z5.out; have q6 := LX0.out; have q7 := Z6.out; have q8 := Z8.out; omega); clear P0_8
    have X0_9 := t9.box2 X0_8 (fun hm => by have h1 := Tx0.out _ hm; have q0 := Z1.out; have q1 := LP0.out; have q2 := Z2.out; have q3 := Z3.out; have q4 := Z4.out; have q5 := Z5.out; have q6 := LX0.out; have q7 := Z6.out; have q8 := Z8.out; omega); clear X0_8
    have RA0_9 := Lib.hid (Rep.keep _ RA0_8.out (t9.keeps fun y hy => ⟨Rep.lt _ RA0_8.out y hy, fun hm => by have h1 := Tx0.out y hm; have h2 := TA0.out y hy; have q0 := Z1.out; have q1 := LP0.out; have q2 := Z2.out; have q3 := Z3.out; have q4 := Z4.out; have q5 := Z5.out; have q6 := LX0.out; have q7 := Z6.out; have q8 := Z8.out; omega⟩)); clear RA0_8
    have Rw0_9 := Lib.hid (Rep.keep _ Rw0_8.out (t9.keeps fun y hy => ⟨Rep.lt _ Rw0_8.out y hy, fun hm => by have h1 := Tx0.out y hm; have h2 := Tw0.out y hy; have q0 := Z1.out; have q1 := LP0.out; have q2 := Z2.out; have q3 := Z3.out; have q4 := Z4.out; have q5 := Z5.out; have q6 := LX0.out; have q7 := Z6.out; have q8 := Z8.out; omega⟩)); clear Rw0_8
    have Rg0_9 := Lib.hid (Rep.keep _ Rg0_8.out (t9.keeps fun y hy => ⟨Rep.lt _ Rg0_8.out y hy, fun hm => by have h1 := Tx0.out y hm; have h2 := Tg0.out y hy; have q0 := Z1.out; have q1 := LP0.out; have q2 := Z2.out; have q3 := Z3.out; have q4 := Z4.out; have q5 := Z5.out; have q6 := LX0.out; have q7 := Z6.out; have q8 := Z8.out; omega⟩)); clear Rg0_8
    have S9 : Below w.heap.size w w9 := S8.trans (t9.below S8.size (fun y hm => by have h1 := Tx0.out y hm; have q0 := Z1.out; have q1 := LP0.out; have q2 := Z2.out; have q3 := Z3.out; have q4 := Z4.out; have q5 := Z5.out; have q6 := LX0.out; have q7 := Z6.out; have q8 := Z8.out; omega))
    have Z9 := Lib.hid (show w8.heap.size ≤ w9.heap.size from t9.size)
    clear t9
    go_wp2_with fail
    refine (eqIntS_b (Rg0_9.out.below bel) (Rw0_9.out.below bel)).mono ?_
    rintro e w10 ⟨rfl, b10⟩
    have P0_10 := P0_9.to b10; clear P0_9
    have X0_10 := X0_9.to b10; clear X0_9
    have RA0_10 := Lib.hid (RA0_9.out.below b10); clear RA0_9
    have Rw0_10 := Lib.hid (Rw0_9.out.below b10); clear Rw0_9
    have Rg0_10 := Lib.hid (Rg0_9.out.below b10); clear Rg0_9
    have S10 : Below w.heap.size w w10 := below_tr S9 b10
    have Z10 := Lib.hid (b10.size)
    go_wp2_with fail
    refine (markIntS_n Rg0_10.out nd5 (q := 1) (by omega) (by omega)).mono ?_
    rintro e w11 ⟨rfl, r11, t11⟩
    have m11h := Lib.hid r11; clear r11
    have P0_11 := t11.box2 P0_10 (fun hm => by have h1 := Tg0.out _ hm; have q0 := Z1.out; have q1 := LP0.out; have q2 := Z2.out; have q3 := Z3.out; have q4 := Z4.out; have q5 := Z5.out; have q6 := LX0.out; have q7 := Z6.out; have q8 := Z8.out; have q9 := Z9.out; have q10 := Z10.out; omega); clear P0_10
    have X0_11 := t11.box2 X0_10 (fun hm => by have h1 := Tg0.out _ hm; have q0 := Z1.out; have q1 := LP0.out; have q2 := Z2.out; have q3 := Z3.out; have q4 := Z4.out; have q5 := Z5.out; have q6 := LX0.out; have q7 := Z6.out; have q8 := Z8.out; have q9 := Z9.out; have q10 := Z10.out; omega); clear X0_10
    have RA0_11 := Lib.hid (Rep.keep _ RA0_10.out (t11.keeps fun y hy => ⟨Rep.lt _ RA0_10.out y hy, fun hm => by have h1 := Tg0.out y hm; have h2 := TA0.out y hy; have q0 := Z1.out; have q1 := LP0.out; have q2 := Z2.out; have q3 := Z3.out; have q4 := Z4.out; have q5 := Z5.out; have q6 := LX0.out; have q7 := Z6.out; have q8 := Z8.out; have q9 := Z9.out; have q10 := Z10.out; omega⟩)); clear RA0_10
    have Rw0_11 := Lib.hid (Rep.keep _ Rw0_10.out (t11.keeps fun y hy => ⟨Rep.lt _ Rw0_10.out y hy, fun hm => by have h1 := Tg0.out y hm; have h2 := Tw0.out y hy; have q0 := Z1.out; have q1 := LP0.out; have q2 := Z2.out; have q3 := Z3.out; have q4 := Z4.out; have q5 := Z5.out; have q6 := LX0.out; have q7 := Z6.out; have q8 := Z8.out; have q9 := Z9.out; have q10 := Z10.out; omega⟩)); clear Rw0_10
    have S11 : Below w.heap.size w w11 := S10.trans (t11.below S10.size (fun y hm => by have h1 := Tg0.out y hm; have q0 := Z1.out; have q1 := LP0.out; have q2 := Z2.out; have q3 := Z3.out; have q4 := Z4.out; have q5 := Z5.out; have q6 := LX0.out; have q7 := Z6.out; have q8 := Z8.out; have q9 := Z9.out; have q10 := Z10.out; omega))
    have Z11 := Lib.hid (show w10.heap.size ≤ w11.heap.size from t11.size)
    clear t11
    have hmq : ((1 + (((ConnF x0).length : Nat) : Int)) != (1 + (((ConnF x0).length : Nat) : Int))) = false := by simp
    go_wp2_with fail
    refine (heldIntS_n m11h.out (q := 1) (by omega) (by omega)).mono ?_
    rintro e w12 ⟨rfl, b12⟩
    have P0_12 := P0_11.to b12; clear P0_11
    have X0_12 := X0_11.to b12; clear X0_11
    have RA0_12 := Lib.hid (RA0_11.out.below b12); clear RA0_11
    have Rw0_12 := Lib.hid (Rw0_11.out.below b12); clear Rw0_11
    have Rg0_12 := Lib.hid (m11h.out.below b12); clear m11h
    have S12 : Below w.heap.size w w12 := below_tr S11 b12
    have Z12 := Lib.hid (b12.size)
    go_wp2_with fail
    refine (toProgram_m (RA0_12.out.below bel) HN0.out).mono ?_
    rintro e w13 ⟨A1_13, c1_13, A2_13, c2_13, bs13, rfl, r13, nd13, hb13, b13⟩
    have Tz0 := Lib.hid (show ∀ y ∈ bs13, w12.heap.size + 0 ≤ y ∧ y < w13.heap.size from fun y hy => ⟨by have := hb13 y hy; (try simp at this); omega, Rep.lt _ r13 y hy⟩)
    have P0_13 := P0_12.to b13; clear P0_12
    have X0_13 := X0_12.to b13; clear X0_12
    have RA0_13 := Lib.hid (RA0_12.out.below b13); clear RA0_12
    have Rw0_13 := Lib.hid (Rw0_12.out.below b13); clear Rw0_12
    have Rg0_13 := Lib.hid (Rg0_12.out.below b13); clear Rg0_12
    have S13 : Below w.heap.size w w13 := below_tr S12 b13
    have Z13 := Lib.hid (b13.size)
    have r13h := Lib.hid r13; clear r13 hb13
    go_wp2_with fail
    refine (implConnectedParts_c (r13h.out.below bel)).mono ?_
    rintro e w14 ⟨A14, n14, c14, bs14, rfl, r14, nd14, hb14, b14⟩
    have P0_14 := P0_13.to b14; clear P0_13
    have X0_14 := X0_13.to b14; clear X0_13
    have RA0_14 := Lib.hid (RA0_13.out.below b14); clear RA0_13
    have Rw0_14 := Lib.hid (Rw0_13.out.below b14); clear Rw0_13
    have Rg0_14 := Lib.hid (Rg0_13.out.below b14); clear Rg0_13
    have Rz0_14 := Lib.hid (r13h.out.below b14); clear r13h
    have S14 : Below w.heap.size w w14 := below_tr S13 b14
    have Z14 := Lib.hid (b14.size)
    have r14h := Lib.hid r14; clear r14 hb14 nd14
    go_wp2_with fail
    refine (eqIntS_b (r14h.out.below bel) (Rw0_14.out.below bel)).mono ?_
    rintro e w15 ⟨rfl, b15⟩
    have P0_15 := P0_14.to b15; clear P0_14
    have X0_15 := X0_14.to b15; clear X0_14
    have RA0_15 := Lib.hid (RA0_14.out.below b15); clear RA0_14
    have Rw0_15 := Lib.hid (Rw0_14.out.below b15); clear Rw0_14
    have Rg0_15 := Lib.hid (Rg0_14.out.below b15); clear Rg0_14
    have Rh0_15 := Lib.hid (r14h.out.below b15); clear r14h
    have S15 : Below w.heap.size w w15 := below_tr S14 b15
    have Z15 := Lib.hid (b15.size)
    go_wp2_with fail
    refine (heldIntS_n Rg0_15.out (q := 1) (by omega) (by omega)).mono ?_
    rintro e w16 ⟨rfl, b16⟩
    have P0_16 := P0_15.to b16; clear P0_15
    have X0_16 := X0_15.to b16; clear X0_15
    have RA0_16 := Lib.hid (RA0_15.out.below b16); clear RA0_15
    have Rw0_16 := Lib.hid (Rw0_15.out.below b16); clear Rw0_15
    have Rg0_16 := Lib.hid (Rg0_15.out.below b16); clear Rg0_15
    have Rh0_16 := Lib.hid (Rh0_15.out.below b16); clear Rh0_15
    have S16 : Below w.heap.size w w16 := below_tr S15 b16
    have Z16 := Lib.hid (b16.size)
    go_wp2
    go_ret
    exact ⟨rfl, S16⟩
end Go.Proofs.YtimocdpfnncnlaaGreat
