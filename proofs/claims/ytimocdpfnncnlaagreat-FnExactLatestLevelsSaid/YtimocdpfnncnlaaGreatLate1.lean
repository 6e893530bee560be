/- Texts of this seat, joined: LateF, LateS, LatestLevelsW. -/
import Derived.Test.YtimocdpfnncnlaaGreatActs
import Derived.Test.YtimocdpfnncnlaaGreatLevs1
import Derived.Test.YtimocdpfnncnlaaGreatIntSet
import Derived.Test.YtimocdpfnncnlaaGreatLaw
import Derived.Test.YtimocdpfnncnlaaGreatBasic
import Derived.Test.YtimocdpfnncnlaaGreatMark
import Derived.Test.YtimocdpfnncnlaaGreatOps
/- Latest levels in plain Lean. -/
set_option linter.all false
set_option linter.unusedSimpArgs false
set_option linter.unusedVariables false
namespace Go.Proofs.YtimocdpfnncnlaaGreat
open Go.ChangeShapes Go.WideShapes Go.ChangeAt Go.RowKit Go.Deep

/-- what stands at f behind a dependence -/
def latS (g : Nat → Int) (f : Nat) (n : Int) (d : Dp) : Int := if d.from_ = (f : Int) then min n (g d.to_.toNat - 1) else n
def latA (g : Nat → Int) (f : Nat) (n : Int) (ds : List Dp) : Int := ds.foldl (latS g f) n
theorem latA_app {g : Nat → Int} {f : Nat} {n : Int} (xs ys : List Dp) : latA g f n (xs ++ ys) = latA g f (latA g f n xs) ys := List.foldl_append ..
theorem latS_comm (g : Nat → Int) (f : Nat) (n : Int) (d e : Dp) : latS g f (latS g f n d) e = latS g f (latS g f n e) d := by
  unfold latS
  split <;> split <;> first | rfl | omega
theorem latA_swap (g : Nat → Int) (f : Nat) : ∀ (ds : List Dp) (n : Int) (d : Dp), latA g f (latS g f n d) ds = latS g f (latA g f n ds) d
  | [], _, _ => rfl
  | e :: ds, n, d => by
    show latA g f (latS g f (latS g f n d) e) ds = latS g f (latA g f (latS g f n e) ds) d
    rw [latS_comm, latA_swap g f ds]
theorem latA_congr {g g' : Nat → Int} {f : Nat} : ∀ (ds : List Dp) (n : Int), (∀ d ∈ ds, d.from_ = (f : Int) → g d.to_.toNat = g' d.to_.toNat) → latA g f n ds = latA g' f n ds
  | [], _, _ => rfl
  | d :: ds, n, h => by
    show latA g f (latS g f n d) ds = latA g' f (latS g' f n d) ds
    have e : latS g f n d = latS g' f n d := by
      unfold latS
      split
      · next h2 => rw [h d List.mem_cons_self h2]
      · rfl
    rw [e]
    exact latA_congr ds _ fun d' hd => h d' (List.mem_cons_of_mem _ hd)
theorem latA_none {g : Nat → Int} {f : Nat} : ∀ (ds : List Dp) (n : Int), (∀ d ∈ ds, d.from_ ≠ (f : Int)) → latA g f n ds = n
  | [], n, _ => rfl
  | d :: ds, n, h => by
    show latA g f (latS g f n d) ds = n
    rw [show latS g f n d = n from if_neg (h d List.mem_cons_self)]
    exact latA_none ds n fun d' hd => h d' (List.mem_cons_of_mem _ hd)
/-- the latest levels of the last m of n instances, as a function -/
def latG (ds : List Dp) (z : Int) (n : Nat) : Nat → Nat → Int
  | 0 => fun _ => z
  | m + 1 => fun k => if k = n - (m + 1) then latA (latG ds z n m) k z ds else latG ds z n m k
def latF (ds : List Dp) (z : Int) (n : Nat) (k : Nat) : Int := latG ds z n (n - k) k
theorem latG_high (ds : List Dp) (z : Int) (n : Nat) : ∀ (m k : Nat), m ≤ n → n - m ≤ k → k < n → latG ds z n m k = latF ds z n k
  | 0, k, _, h2, h3 => by omega
  | m + 1, k, h1, h2, h3 => by
    rcases Nat.lt_or_ge k (n - m) with h4 | h4
    · have hk : k = n - (m + 1) := by omega
      unfold latF
      rw [show n - k = m + 1 by omega]
    · rw [latG]
      simp only
      rw [if_neg (by omega)]
      exact latG_high ds z n m k (by omega) h4 h3
theorem latG_low (ds : List Dp) (z : Int) (n : Nat) : ∀ (m k : Nat), m ≤ n → k < n - m → latG ds z n m k = z
  | 0, _, _, _ => rfl
  | m + 1, k, h1, h2 => by
    rw [latG]
    simp only
    rw [if_neg (by omega)]
    exact latG_low ds z n m k (by omega) (by omega)
theorem latF_eq {us : List Us} {ds : List Dp} {z : Int} {n : Nat} (hd : ∀ d ∈ ds, DpOk us d) (hn : us.length = n) {k : Nat} (hk : k < n) : latF ds z n k = latA (latF ds z n) k z ds := by
  have h : latF ds z n k = latA (latG ds z n (n - (k + 1))) k z ds := by
    unfold latF
    rw [show n - k = (n - (k + 1)) + 1 by omega, latG]
    simp only
    rw [if_pos (by omega)]
  rw [h]
  refine latA_congr ds z fun d hm hf => ?_
  have h1 := (hd d hm).ft
  have h2 := (hd d hm).t1
  exact latG_high ds z n _ _ (by omega) (by omega) (by omega)
theorem latA_bd {g : Nat → Int} {f : Nat} {lo : Int} : ∀ (ds : List Dp) (n : Int), lo ≤ n → (∀ d ∈ ds, d.from_ = (f : Int) → lo ≤ g d.to_.toNat - 1) → lo ≤ latA g f n ds ∧ latA g f n ds ≤ n
  | [], n, h, _ => ⟨h, Int.le_refl _⟩
  | d :: ds, n, h, h2 => by
    have hs : lo ≤ latS g f n d ∧ latS g f n d ≤ n := by
      unfold latS
      split
      · next e => have := h2 d List.mem_cons_self e; omega
      · omega
    have := latA_bd (g := g) (f := f) ds (latS g f n d) hs.1 fun d' hd => h2 d' (List.mem_cons_of_mem _ hd)
    show lo ≤ latA g f (latS g f n d) ds ∧ latA g f (latS g f n d) ds ≤ n
    omega
theorem latF_bd {us : List Us} {ds : List Dp} {z : Int} {n : Nat} (hd : ∀ d ∈ ds, DpOk us d) (hn : us.length = n) : ∀ m k, k < n → n - k ≤ m → z - (n : Int) + (k : Int) ≤ latF ds z n k ∧ latF ds z n k ≤ z
  | 0, k, h1, h2 => by omega
  | m + 1, k, h1, h2 => by
    rw [latF_eq hd hn h1]
    refine latA_bd ds z (by omega) fun d hm hf => ?_
    have h3 := (hd d hm).ft
    have h4 := (hd d hm).t1
    have h5 := (hd d hm).f0
    have := latF_bd (z := z) hd hn m d.to_.toNat (by omega) (by omega)
    omega
theorem latF_rng {us : List Us} {ds : List Dp} {z : Int} {n : Nat} (hd : ∀ d ∈ ds, DpOk us d) (hn : us.length = n) {k : Nat} (h : k < n) : z - (n : Int) ≤ latF ds z n k ∧ latF ds z n k ≤ z := by
  have := latF_bd (z := z) hd hn n k h (by omega)
  omega
/-- .. and what stands there on the way, of any of the dependences -/
theorem latA_rng {us : List Us} {ds es : List Dp} {z : Int} {n : Nat} (hd : ∀ d ∈ ds, DpOk us d) (hn : us.length = n) (he : ∀ d ∈ es, d ∈ ds) {k : Nat} (h : k < n) : z - (n : Int) ≤ latA (latF ds z n) k z es ∧ latA (latF ds z n) k z es ≤ z := by
  refine latA_bd es z (by omega) fun d hm hf => ?_
  have h3 := (hd d (he d hm)).ft
  have h4 := (hd d (he d hm)).t1
  have h5 := (hd d (he d hm)).f0
  have := latF_bd (z := z) hd hn n d.to_.toNat (by omega) (by omega)
  omega
theorem latA_snoc {g : Nat → Int} {f : Nat} {z : Int} {ds : List Dp} {j : Nat} (h : j < ds.length) : latA g f z (ds.take (j + 1)) = latS g f (latA g f z (ds.take j)) ds[j] := by
  rw [List.take_succ_eq_append_getElem h]
  exact latA_app _ _
theorem latA_back {g : Nat → Int} {f : Nat} {z : Int} {ds : List Dp} {j : Nat} (h : j < ds.length) : latA g f z (ds.drop j) = latS g f (latA g f z (ds.drop (j + 1))) ds[j] := by
  rw [← List.getElem_cons_drop h]
  exact latA_swap g f _ z _
theorem latS_eq {g : Nat → Int} {f : Nat} {n : Int} {d : Dp} {b : Nat} (h : d.from_ = (f : Int)) (h2 : d.to_ = (b : Int)) : latS g f n d = min n (g b - 1) := by
  unfold latS; rw [if_pos h, h2, Int.toNat_natCast]
theorem latS_ne {g : Nat → Int} {f : Nat} {n : Int} {d : Dp} (h : ¬ d.from_ = (f : Int)) : latS g f n d = n := if_neg h
/-- when a dependence comes from behind, the level that it leads to is known -/
theorem late_known {us : List Us} {ds : List Dp} {z : Int} {n : Nat} (hd : ∀ d ∈ ds, DpOk us d) (hn : us.length = n) (hs : ds.Pairwise (fun a b => a.from_ ≤ b.from_)) {j : Nat} (h : j < ds.length) : latA (latF ds z n) ds[j].to_.toNat z (ds.drop (j + 1)) = latF ds z n ds[j].to_.toNat := by
  have h0 := (hd _ (List.getElem_mem h)).f0
  have h1 := (hd _ (List.getElem_mem h)).ft
  have h2 := (hd _ (List.getElem_mem h)).t1
  obtain ⟨t, ht⟩ : ∃ t, t = ds[j].to_.toNat := ⟨_, rfl⟩
  rw [← ht, latF_eq hd hn (show t < n by omega)]
  have e0 : latA (latF ds z n) t z ds = latA (latF ds z n) t z (ds.take (j + 1) ++ ds.drop (j + 1)) := by rw [List.take_append_drop]
  rw [e0, latA_app, latA_none (ds.take (j + 1))]
  intro d hm e
  have h3 : d.from_ ≤ ds[j].from_ := by
    obtain ⟨i, hi, rfl⟩ := List.getElem_of_mem hm
    rw [List.getElem_take]
    rw [List.length_take] at hi
    rcases Nat.lt_or_ge i j with h4 | h4
    · exact List.pairwise_iff_getElem.1 hs i j (by omega) h h4
    · have : i = j := by omega
      subst this; exact Int.le_refl _
  omega
def latesF (ds : List Dp) (z : Int) (n : Nat) : List Int := (List.range n).map (latF ds z n)
end Go.Proofs.YtimocdpfnncnlaaGreat

/- Latest levels, on both sides. -/
namespace Go.Proofs.YtimocdpfnncnlaaGreat
open Go.ChangeShapes Go.WideShapes Go.ChangeAt Go.RowKit Go.Deep

def LateF (p : Pgm) : List Int := latesF (depP p) (critF (LevelsOfF p) - 1) (usP p).length
theorem LateF_len (p : Pgm) : (LateF p).length ≤ 1000000 := by
  have := usP_le p
  unfold LateF latesF
  simp; omega
theorem crit_bd (p : Pgm) : 0 ≤ critF (LevelsOfF p) ∧ critF (LevelsOfF p) ≤ 121 :=
  critF_bd (by omega) (fun x hx => by have := LevelsOfF_bd p x hx; omega)
theorem LevelsOfF_n' (p : Pgm) : (LevelsOfF p).length = (usP p).length := by unfold LevelsOfF levelsF; simp
def lateRow (ds : List Dp) (z : Int) (n k q : Nat) : Int := if q < k then 0 else latF ds z n q
def lateIn (ds : List Dp) (z : Int) (n k j q : Nat) : Int := if q < k then 0 else if q = k then latA (latF ds z n) k z (ds.take j) else latF ds z n q
theorem lateIn_0 (ds : List Dp) (z : Int) (n k q : Nat) : (if q = k then z else lateRow ds z n (k + 1) q) = lateIn ds z n k 0 q := by
  unfold lateIn lateRow
  rw [List.take_zero]
  by_cases e : q = k
  · subst e; rw [if_pos rfl, if_neg (by omega), if_pos rfl]; rfl
  · rw [if_neg e]
    by_cases h : q < k
    · rw [if_pos (by omega), if_pos h]
    · rw [if_neg (by omega), if_neg h, if_neg e]
theorem lateIn_end {us : List Us} {ds : List Dp} {z : Int} {n : Nat} (hd : ∀ d ∈ ds, DpOk us d) (hn : us.length = n) {k : Nat} (hk : k < n) (q : Nat) : lateIn ds z n k ds.length q = lateRow ds z n k q := by
  unfold lateIn lateRow
  rw [List.take_length]
  by_cases h : q < k
  · rw [if_pos h, if_pos h]
  · rw [if_neg h, if_neg h]
    by_cases e : q = k
    · subst e; rw [if_pos rfl, ← latF_eq hd hn hk]
    · rw [if_neg e]
/-- what stands behind the dependences from j on, from behind -/
def lateL (ds : List Dp) (z : Int) (n j : Nat) : List Int := (List.range n).map fun k => latA (latF ds z n) k z (ds.drop j)
theorem lateL_top (ds : List Dp) (z : Int) (n : Nat) : lateL ds z n ds.length = List.replicate n z := by
  unfold lateL
  rw [List.drop_length, List.eq_replicate_iff]
  refine ⟨by simp, fun x hx => ?_⟩
  obtain ⟨k, _, rfl⟩ := List.mem_map.1 hx
  rfl
theorem lateL_0 {us : List Us} {ds : List Dp} {z : Int} {n : Nat} (hd : ∀ d ∈ ds, DpOk us d) (hn : us.length = n) : lateL ds z n 0 = latesF ds z n := by
  unfold lateL latesF
  rw [List.drop_zero]
  exact range_congr fun k hk => (latF_eq hd hn hk).symm

set_option maxRecDepth 100000 in
set_option maxHeartbeats 8000000 in
theorem implLatestLevels_c {w : World} {p : Pgm} {cs : List Value} {bs : List Nat} (h : Rep w p.d cs bs) :
    Calls Tryz.prog 28 #[.agg cs.toArray] w (MadeInts w (LateF p)) := by
  have HP := Lib.hid h
  obtain ⟨A1, c1, A2, c2, d1, d2, rfl, rfl, g1, g2⟩ := Rep.pgm_iff.1 h
  have Garrays := Lib.hid g1
  have Gparts := Lib.hid g2
  clear h g1 g2
  have HDD := Lib.hid (depP_ok p)
  have hu := usP_le p
  have HL := Lib.hid (usP_len p)
  have hcb := crit_bd p
  obtain ⟨m, hm⟩ : ∃ m, m = (usP p).length := ⟨_, rfl⟩
  have HM := Lib.hid hm
  rw [← hm] at hu
  obtain ⟨ds, hds⟩ : ∃ ds, ds = depP p := ⟨_, rfl⟩
  have HDS := Lib.hid hds
  obtain ⟨z, hz⟩ : ∃ z, z = critF (LevelsOfF p) := ⟨_, rfl⟩
  have HZ := Lib.hid hz
  have HF := Lib.hid (show LateF p = latesF ds (z - 1) m by rw [hm, hds, hz]; rfl)
  rw [HF.out]
  rw [← hds] at HDD
  rw [← hz] at hcb
  clear hm hds hz
  have hmk := fun W => run_make_row' (P := Tryz.prog) 35 3 (.int .i64 0) 8 Tryz.underlying35 Tryz.int3 rfl .i64 .i64 m (by omega) (by omega) W
  go_enter Tryz.func28, Tryz.ntmps28
  go_wp2_with fail
  refine (implDependences_c (HP.out.below bel)).mono ?_
  rintro e w1 ⟨A3, c3, bs3, rfl, r1, nd1, hb13, b1⟩
  have P1 : Box2 w1 w.heap.size (.slice A1 p.arrays.length c1) (.slice A2 p.parts.length c2) := by
    refine ⟨?_, ?_⟩ <;> (rw [b1.cell (by simp [World.setCell]; try omega)]; go_simp)
  have S1 : Below w.heap.size w w1 := bel
  rw [← HDS.out] at r1 ⊢
  obtain ⟨_, h1, h2⟩ := r1.sls_len
  have hn : ds.length ≤ 9223372036854775807 := Nat.le_trans h1 h2
  have R1 := Lib.hid r1; clear r1 h1 h2 b1
  go_wp2_with fail
  refine (implCriticalLength_c (HP.out.below bel)).mono ?_
  rintro e w2 ⟨rfl, b2⟩
  have s2 : Below w1.heap.size w1 w2 := bel
  have P2 := P1.to s2; clear P1
  have S2 : Below w.heap.size w w2 := below_tr S1 s2
  clear s2
  rw [← HZ.out]
  have R2 := Lib.hid (R1.out.below b2); clear b2
  go_wp2_with fail
  refine (implProgramInstances_c (HP.out.below bel)).mono ?_
  rintro e w3 ⟨A4, n4, c4, bs4, rfl, r3, _, _, b3⟩
  have s3 : Below w2.heap.size w2 w3 := bel
  have P3 := P2.to s3; clear P2
  have S3 : Below w.heap.size w w3 := below_tr S2 s3
  clear s3
  obtain ⟨rfl, _, _⟩ := r3.sls_len
  rw [← HL.out, ← HM.out]
  have H := Lib.hid (R2.out.below b3); clear b3 r3
  go_wp2
  clear hmk
  go_loopw [6] (fun i wr => ∃ k : Nat, k ≤ m ∧ i = .int .i64 ((k : Int) - 1) ∧ wr.rowIs w3.heap.size 3 m (fun q => .int .i64 (lateRow ds (z - 1) m k q)) ∧ Below w3.heap.size w3 wr) (fun i _ => (intOf i + 1).toNat)
  case atStart => exact ⟨m, Nat.le_refl _, rfl, (World.rowIs_made _ _ _ _).congr (fun i hi => by simp [lateRow, hi]), bel⟩
  case round =>
    obtain ⟨k, hk, rfl, hrow, hb⟩ := hrel
    have HROW := Lib.hid hrow; clear hrow
    rcases k with _ | k
    case zero =>
      rw [show ((0 : Nat) : Int) - 1 = -1 from rfl]
      have HR := Lib.hid (HROW.out.congr (g := fun q => .int .i64 (latF ds (z - 1) m q)) (fun q hq => by simp [lateRow]))
      go_wp2
      go_ret
      refine ⟨_, _, _, _, rfl, row_ints HR.out (by unfold maxLen; omega) (fun q hq => by have := latF_rng (z := z - 1) HDD.out HM.out.symm hq; unfold I64; omega), by simp, by simpa using S3.size, below_tr S3 hb⟩
    case succ =>
      rw [show (((k + 1 : Nat) : Int) - 1) = (k : Int) by omega]
      have hlt : k < m := by omega
      have hck0 := HROW.out.cell hlt
      have hfz0 := HROW.out.frozen k
      have hlg0 := HROW.out.lt
      have HR0 := Lib.hid ((HROW.out.set k (.int .i64 (z - 1))).congr (g := fun q => .int .i64 (lateIn ds (z - 1) m k 0 q)) (fun q _ => by rw [← lateIn_0]; by_cases e : q = k <;> simp [e]))
      go_wp2
      clear hck0 hfz0 hlg0 HROW
      go_loopw [31] (fun i wv => ∃ j : Nat, j ≤ ds.length ∧ i = .int .i64 j ∧ wv.rowIs w3.heap.size 3 m (fun q => .int .i64 (lateIn ds (z - 1) m k j q)) ∧ Below w3.heap.size w3 wv) (fun i _ => ds.length - (intOf i).toNat)
      case atStart => exact ⟨0, Nat.zero_le _, rfl, HR0.out, bel⟩
      case round =>
        obtain ⟨j, hj, rfl, hrow, hb2⟩ := hrel
        have HROW := Lib.hid hrow; clear hrow
        by_cases hjt : j < ds.length
        case neg =>
          have hjj : j = ds.length := by omega
          subst hjj
          have HR := Lib.hid (HROW.out.congr (g := fun q => .int .i64 (lateRow ds (z - 1) m k q)) (fun q _ => by rw [lateIn_end HDD.out HM.out.symm hlt]))
          go_wp2
          go_roundw
          case rel => exact ⟨k, by omega, rfl, HR.out, hb2⟩
          case measure => simp [intOf]
        have hmem := List.getElem_mem hjt
        obtain ⟨a, b, hfa, htb, hab, hbl⟩ := (HDD.out _ hmem).nat
        rw [← HM.out] at hbl
        obtain ⟨be, oe, cse, le, rfl, hble, hre, _, _, hce⟩ := (H.out.below hb2).sls_at Dp.d_size (k := j) hjt
        have Ge := Lib.hid hre
        obtain ⟨rfl, rfl, g1e, g2e, g3e⟩ := Rep.dp_iff.1 hre
        have k0e := (hce 0 _ rfl).1; rw [Nat.add_zero] at k0e
        have k1e := (hce 1 _ rfl).1
        have k2e := (hce 2 _ rfl).1
        have Q1e := Lib.hid g1e
        have Q2e := Lib.hid g2e
        have Q3e := Lib.hid g3e
        clear hce hre g1e g2e g3e
        rw [hfa] at k0e
        rw [htb] at k1e
        have hlg := HROW.out.lt
        by_cases he : a = k
        · subst he
          have HSN := Lib.hid (show latA (latF ds (z - 1) m) a (z - 1) (ds.take (j + 1)) = min (latA (latF ds (z - 1) m) a (z - 1) (ds.take j)) (latF ds (z - 1) m b - 1) from (latA_snoc hjt).trans (latS_eq hfa htb))
          have hck := HROW.out.cell hlt
          have hca := HROW.out.cell hbl
          have hfz := HROW.out.frozen a
          rw [show lateIn ds (z - 1) m a j a = latA (latF ds (z - 1) m) a (z - 1) (ds.take j) by unfold lateIn; rw [if_neg (by omega), if_pos rfl]] at hck
          rw [show lateIn ds (z - 1) m a j b = latF ds (z - 1) m b by unfold lateIn; rw [if_neg (by omega), if_neg (by omega)]] at hca
          have hb1 := latF_rng (z := z - 1) HDD.out HM.out.symm hbl
          have hb3 := latA_rng (z := z - 1) (es := ds.take j) HDD.out HM.out.symm (fun d hd => List.mem_of_mem_take hd) hlt
          obtain ⟨x, hx⟩ : ∃ x, x = latF ds (z - 1) m b := ⟨_, rfl⟩
          obtain ⟨y, hy⟩ : ∃ y, y = latA (latF ds (z - 1) m) a (z - 1) (ds.take j) := ⟨_, rfl⟩
          rw [← hx] at hca hb1 HSN
          rw [← hy] at hck hb3 HSN
          clear hx hy hfa htb hmem
          have HR2 := Lib.hid (show ∀ W : World, W.rowIs w3.heap.size 3 m (fun q => .int .i64 (lateIn ds (z - 1) m a j q)) → (W.setCell ⟨w3.heap.size, a, none⟩ (.int .i64 (min y (x - 1)))).rowIs w3.heap.size 3 m (fun q => .int .i64 (lateIn ds (z - 1) m a (j + 1) q)) from fun W hW => (hW.set a (.int .i64 (min y (x - 1)))).congr (fun q _ => by
            by_cases e : q = a
            · subst e; rw [if_pos rfl]; unfold lateIn; rw [if_neg (by omega), if_pos rfl, HSN.out]
            · rw [if_neg e]; unfold lateIn; rw [if_neg e, if_neg e]))
          go_wp2_with fail
          refine still_tail_drew 14 (by kernel_rfl) (by kernel_rfl) ?_
          simp only [List.take_succ_cons, List.take_zero, List.drop_succ_cons, List.drop_zero]
          repeat still_step
          try refine wpStill_nil ?_
          go_wp2
          go_roundw
          case rel => exact ⟨j + 1, by omega, by go_num, ((HR2.out _ HROW.out).alloc _).drew, bel⟩
          case measure => simp [intOf]; omega
        · have q1 : ((a : Int) == (k : Int)) = false := ieq_f (by omega)
          have HR2 := Lib.hid (HROW.out.congr (g := fun q => .int .i64 (lateIn ds (z - 1) m k (j + 1) q)) (fun q _ => by
            unfold lateIn
            rw [latA_snoc hjt, latS_ne (by rw [hfa]; omega)]))
          clear hfa htb hmem
          go_wp2
          go_roundw
          case rel => exact ⟨j + 1, by omega, by go_num, HR2.out.alloc _, bel⟩
          case measure => simp [intOf]; omega
set_option maxRecDepth 100000 in
set_option maxHeartbeats 8000000 in
theorem specLatestLevels_c {w : World} {p : Pgm} {cs : List Value} {bs : List Nat} (h : Rep w p.d cs bs) :
    Calls Tryz.prog 27 #[.agg cs.toArray] w (MadeInts w (LateF p)) := by
  have HP := Lib.hid h
  obtain ⟨A1, c1, A2, c2, d1, d2, rfl, rfl, g1, g2⟩ := Rep.pgm_iff.1 h
  have Garrays := Lib.hid g1
  have Gparts := Lib.hid g2
  clear h g1 g2
  have HDD := Lib.hid (depP_ok p)
  have HSO := Lib.hid (depP_sorted p)
  have hu := usP_le p
  have HLN := Lib.hid (LevelsOfF_n' p)
  have hcb := crit_bd p
  have HBD := Lib.hid (LevelsOfF_bd p)
  obtain ⟨m, hm⟩ : ∃ m, m = (usP p).length := ⟨_, rfl⟩
  have HM := Lib.hid hm
  rw [← hm] at hu
  obtain ⟨ds, hds⟩ : ∃ ds, ds = depP p := ⟨_, rfl⟩
  have HDS := Lib.hid hds
  obtain ⟨z, hz⟩ : ∃ z, z = critF (LevelsOfF p) := ⟨_, rfl⟩
  have HZ := Lib.hid hz
  have HF := Lib.hid (show LateF p = latesF ds (z - 1) m by rw [hm, hds, hz]; rfl)
  rw [HF.out]
  rw [← hds] at HDD HSO
  rw [← hz] at hcb
  clear hm hds hz
  go_enter Tryz.func27, Tryz.ntmps27
  go_wp2_with fail
  refine (specLevelsOf_c (HP.out.below bel)).mono ?_
  rintro e w1 ⟨A3, n3, c3, bs3, rfl, r1, nd1, hb13, b1⟩
  have P1 : Box2 w1 w.heap.size (.slice A1 p.arrays.length c1) (.slice A2 p.parts.length c2) := by
    refine ⟨?_, ?_⟩ <;> (rw [b1.cell (by simp [World.setCell]; try omega)]; go_simp)
  have S1 : Below w.heap.size w w1 := bel
  obtain ⟨rfl, _, _⟩ := r1.ints_len
  have R1 := Lib.hid r1; clear r1 nd1 hb13 b1
  go_wp2_with fail
  refine (l7Length_c R1.out HBD.out).mono ?_
  rintro e w' ⟨rfl, rfl⟩
  rw [← HZ.out, HLN.out, ← HM.out]
  have hI := Lib.hid (show I64 (z - 1) by unfold I64; omega)
  have hz1 := S1.size
  go_wp2
  go_loopw [5, 6] (fun u i wr => ∃ j : Nat, j ≤ m ∧ i = .int .i64 j ∧ Grow wr w1.heap.size 3 1 u ((List.replicate j (z - 1)).map D.int) ∧ Below w1.heap.size w1 wr) (fun _ i _ => m - (intOf i).toNat)
  case atStart => exact ⟨0, Nat.zero_le _, rfl, Grow.madeE _ _ rfl (Nat.le_refl _), bel⟩
  case round =>
    obtain ⟨j, hj, rfl, hG, hb⟩ := hrel
    have HG := Lib.hid hG; clear hG
    obtain ⟨Au, cu, hfu, _, _⟩ := HG.out.form
    rw [List.length_map, List.length_replicate] at hfu
    by_cases hlt : j < m
    case pos =>
      have hbz := hb.size
      have HREP := Lib.hid (show List.replicate (j + 1) (z - 1) = List.replicate j (z - 1) ++ [z - 1] from List.replicate_succ')
      obtain ⟨l, hl⟩ : ∃ l, l = List.replicate j (z - 1) := ⟨_, rfl⟩
      have hle : l.length ≤ 120 := by rw [hl]; simp; omega
      rw [← hl] at HG HREP
      clear hl
      subst hfu
      go_wp2_with (
        at_builtin
        refine wpList_append_more (w0 := wr) (B := w1.heap.size) (xs := l.map D.int) (ys := [D.int (z-1)]) rfl (.tmp 21) (.tmp 23) _ rfl _ Tryz.underlying35 Tryz.infoInt rfl (by decide) rfl HG.out ?hbw rfl (one_int _ hI.out _) ?hys ?hn ?hf ?hlen ?hba ?_
        case hbw => exact bel
        case hys => intro y hy; simp only [List.mem_singleton] at hy; rw [hy]; rfl
        case hn => simp
        case hf => simp
        case hlen => simp; omega
        case hba => exact hbz
        intro v4 w4 hG4 hg4)
      have HG4 := Lib.hid (show Grow w4 w1.heap.size 3 1 v4 ((List.replicate (j + 1) (z - 1)).map D.int) by rw [HREP.out, List.map_append]; exact hG4)
      have S4 : Below w1.heap.size w1 w4 := (hb.alloc hb.size _).trans (hg4.below (Nat.le_trans hbz (by simp)) (fun b hb => (HG.out.own_ge b hb).1))
      clear hG4 hg4
      go_wp2
      go_roundw
      case rel => exact ⟨j + 1, by omega, by go_num, HG4.out, S4⟩
      case measure => simp [intOf]; omega
    have hjj : m = j := by omega
    subst hjj
    have Pr := P1.to hb
    have Sr := below_tr S1 hb
    have lp := lt_of_cell Pr.1
    subst hfu
    go_wp2_with fail
    refine (specDependences_c (HP.out.below (below_tr Sr bel))).mono ?_
    rintro e w3 ⟨A4, c4, bs4, rfl, r4, nd4, hb4, b4⟩
    rw [← HDS.out] at r4 ⊢
    obtain ⟨_, h1, h2⟩ := r4.sls_len
    have hn : ds.length ≤ 9223372036854775807 := Nat.le_trans h1 h2
    have R4 := Lib.hid r4
    obtain ⟨A6, c6, bs6, he, h61, h62, h63, _⟩ := (HG.out).ints
    rw [List.length_replicate] at he h61
    obtain ⟨rfl, rfl⟩ : Au = A6 ∧ cu = c6 := by simpa using he
    have h6l := Rep.lt _ h61
    have HAP := Lib.hid (show ∀ y ∈ bs4, y ∉ bs6 from fun y hy h6 => by have := hb4 y hy; have := h6l y h6; omega)
    have H60 := Lib.hid (h61.below b4)
    have S3 : Below w.heap.size w w3 := below_tr Sr b4
    have HGE := Lib.hid (show ∀ y ∈ bs6, w.heap.size ≤ y from fun y hy => Nat.le_trans hz1 (h63 y hy))
    have ND := Lib.hid h62
    have hzr := S3.size
    clear r4 h1 h2 h61 h62 h63 h6l he nd4 hb4 b4 Pr lp hb HG P1
    go_wp2
    go_loopw [8] (fun i wv => ∃ j : Nat, j ≤ ds.length ∧ i = .int .i64 ((j : Int) - 1) ∧ Rep wv (ints (lateL ds (z - 1) m j)) [.slice Au m cu] bs6 ∧ Touch bs6 w3 wv) (fun i _ => (intOf i + 1).toNat)
    case atStart => exact ⟨ds.length, Nat.le_refl _, rfl, by rw [lateL_top]; exact H60.out, Touch.refl _ _⟩
    case round =>
      obtain ⟨j, hj, rfl, hr, ht⟩ := hrel
      have HR := Lib.hid hr; clear hr
      have Sr : Below w.heap.size w wr := S3.trans (ht.below hzr HGE.out)
      rcases j with _ | j
      case zero =>
        rw [show ((0 : Nat) : Int) - 1 = -1 from rfl]
        have HX := Lib.hid (lateL_0 (z := z - 1) HDD.out HM.out.symm)
        go_wp2
        go_ret
        exact ⟨_, _, _, bs6, rfl, by rw [← HX.out]; exact HR.out, ND.out, HGE.out, Sr⟩
      case succ =>
        rw [show (((j + 1 : Nat) : Int) - 1) = (j : Int) by omega]
        have hlt : j < ds.length := hj
        have hmem := List.getElem_mem hlt
        obtain ⟨a, b, hfa, htb, hab, hbl⟩ := (HDD.out _ hmem).nat
        rw [← HM.out] at hbl
        have RR := Lib.hid (Rep.keep _ R4.out (ht.keeps fun y hy => ⟨Rep.lt _ R4.out y hy, HAP.out y hy⟩))
        obtain ⟨be, oe, cse, le, rfl, hble, hre, _, _, hce⟩ := RR.out.sls_at Dp.d_size (k := j) hlt
        have Ge := Lib.hid hre
        obtain ⟨rfl, rfl, g1e, g2e, g3e⟩ := Rep.dp_iff.1 hre
        have k0e := (hce 0 _ rfl).1; rw [Nat.add_zero] at k0e
        have k1e := (hce 1 _ rfl).1
        have k2e := (hce 2 _ rfl).1
        have Q1e := Lib.hid g1e
        have Q2e := Lib.hid g2e
        have Q3e := Lib.hid g3e
        clear hce hre g1e g2e g3e
        have hkn := late_known (z := z - 1) HDD.out HM.out.symm HSO.out hlt
        rw [htb, Int.toNat_natCast] at hkn
        have HSN := Lib.hid (show latA (latF ds (z - 1) m) a (z - 1) (ds.drop j) = min (latA (latF ds (z - 1) m) a (z - 1) (ds.drop (j + 1))) (latF ds (z - 1) m b - 1) from (latA_back hlt).trans (latS_eq hfa htb))
        have HSO2 := Lib.hid (fun (k : Nat) (hk : ¬ k = a) => show latA (latF ds (z - 1) m) k (z - 1) (ds.drop j) = latA (latF ds (z - 1) m) k (z - 1) (ds.drop (j + 1)) from (latA_back hlt).trans (latS_ne (by rw [hfa]; omega)))
        rw [hfa] at k0e
        rw [htb] at k1e
        have hal : a < m := by omega
        obtain ⟨b6, o6, hA6, hb6, hl6, hca, hfz⟩ := HR.out.ints_at (k := a) (by unfold lateL; simpa using hal)
        obtain ⟨b7, o7, hA7, _, _, hcb7, _⟩ := HR.out.ints_at (k := b) (by unfold lateL; simpa using hbl)
        have HA6 := Lib.hid hA6
        subst hA6
        obtain ⟨rfl, rfl⟩ : b6 = b7 ∧ o6 = o7 := by simpa using hA7
        rw [show gi (lateL ds (z - 1) m (j + 1)) a = latA (latF ds (z - 1) m) a (z - 1) (ds.drop (j + 1)) from gi_range hal] at hca
        rw [show gi (lateL ds (z - 1) m (j + 1)) b = latF ds (z - 1) m b from (gi_range hbl).trans hkn] at hcb7
        have hb1 := latF_rng (z := z - 1) HDD.out HM.out.symm hbl
        have hb3 := latA_rng (z := z - 1) (es := ds.drop (j + 1)) HDD.out HM.out.symm (fun d hd => List.mem_of_mem_drop hd) hal
        obtain ⟨x, hx⟩ : ∃ x, x = latF ds (z - 1) m b := ⟨_, rfl⟩
        obtain ⟨y, hy⟩ : ∃ y, y = latA (latF ds (z - 1) m) a (z - 1) (ds.drop (j + 1)) := ⟨_, rfl⟩
        rw [← hx] at hcb7 hb1 HSN
        rw [← hy] at hca hb3 HSN
        have HY := Lib.hid hy
        have HB6 := Lib.hid hb6
        clear hx hy hfa htb hmem hkn hA7 hb6
        have HT := Lib.hid ht; clear ht
        by_cases hxy : x - 1 < y
        · have HR2 := Lib.hid (show ∀ W : World, Rep W (ints (lateL ds (z - 1) m (j + 1))) [.slice (some ⟨b6, o6, none⟩) m cu] bs6 → Rep (W.setCell ⟨b6, o6 + a, none⟩ (.int .i64 (x - 1))) (ints (lateL ds (z - 1) m j)) [.slice (some ⟨b6, o6, none⟩) m cu] bs6 from fun W hW => by
            have := hW.ints_set (j := a) (v := x - 1) (by unfold lateL; simpa using hal) (by unfold I64; omega)
            rwa [show (lateL ds (z - 1) m (j + 1)).set a (x - 1) = lateL ds (z - 1) m j from range_set hal fun q hq => by
              by_cases e : q = a
              · subst e; rw [if_pos rfl, HSN.out]; omega
              · rw [if_neg e, HSO2.out q e]] at this)
          go_wp2_with fail
          go_quiet (fail)
          go_wp2_with fail
          refine still_tail_drew 16 (by kernel_rfl) (by kernel_rfl) ?_
          simp only [List.take_succ_cons, List.take_zero, List.drop_succ_cons, List.drop_zero]
          repeat still_step
          try refine wpStill_nil ?_
          go_wp2
          go_roundw
          case rel => exact ⟨j, by omega, rfl, HR2.out _ (HR.out.below bel), (HT.out.trans (Touch.of_below (b := (wr.drewN _).drew) bel)).setCell (by rw [HB6.out]; simp) _⟩
          case measure => simp [intOf]
        · have HR2 := Lib.hid (show Rep wr (ints (lateL ds (z - 1) m j)) [.slice (some ⟨b6, o6, none⟩) m cu] bs6 by
            rw [show lateL ds (z - 1) m j = lateL ds (z - 1) m (j + 1) from range_congr fun q hq => by
              by_cases e : q = a
              · subst e; rw [HSN.out, ← HY.out]; omega
              · rw [HSO2.out q e]]
            exact HR.out)
          go_wp2_with fail
          go_quiet (fail)
          go_wp2
          go_roundw
          case rel => exact ⟨j, by omega, rfl, HR2.out.below bel, HT.out.trans (Touch.of_below bel)⟩
          case measure => simp [intOf]
end Go.Proofs.YtimocdpfnncnlaaGreat

/- The law FnExactLatestLevels: its walk. Printed by lawgen.py. -/
namespace Go.Proofs.YtimocdpfnncnlaaGreat
open Go.ChangeShapes Go.WideShapes Go.ChangeAt Go.RowKit Go.Deep

set_option maxRecDepth 100000 in
set_option maxHeartbeats 2000000 in
theorem FnExactLatestLevels_walk {w : World} {x0 : Pgm} {A1_0 : Option Addr} {c1_0 : Nat} {A2_0 : Option Addr} {c2_0 : Nat} {bs0 : List Nat} (h0 : Rep w x0.d [.slice A1_0 x0.arrays.length c1_0, .slice A2_0 x0.parts.length c2_0] bs0) :
    Calls Tryz.prog 8 #[.agg #[.slice A1_0 x0.arrays.length c1_0, .slice A2_0 x0.parts.length c2_0]] w fun e w' => e = .returned (.bool true) ∧ Below w.heap.size w w' := by
  have H0 := Lib.hid h0; clear h0
  by_cases hs0 : (1048576 : Int) - ((szD x0.d : Nat) : Int) < 0
  · have HS0 := Lib.hid (szR_neg hs0)
    go_enter Tryz.func8, Tryz.ntmps8
    go_wp2_with fail
    refine (szProgram_t (H0.out.below bel) (by omega) (by omega)).mono ?_
    rintro e v1 ⟨rfl, bv1⟩
    rw [HS0.out]
    go_wp2
    go_ret
    exact ⟨rfl, bel⟩
  · have HS0 := Lib.hid (szR_pos (left := 1048576) (tot := szD x0.d) (by omega))
    have HN0 := Lib.hid (show szD x0.d ≤ 1048576 by omega)
    have hl0 : 0 ≤ (1048576 : Int) - ((szD x0.d : Nat) : Int) := by omega
    clear hs0
    have HL := Lib.hid (LateF_len x0)
    go_enter Tryz.func8, Tryz.ntmps8
    have TA0 := Lib.hid (Rep.lt _ H0.out)
    go_wp2_with fail
    refine (szProgram_t (H0.out.below bel) (by omega) (by omega)).mono ?_
    rintro e w1 ⟨rfl, b1⟩
    rw [HS0.out]
    have P0_1n := (Box2.new w _ _ _).to b1
    have s1 : Below w.heap.size w w1 := bel
    have RA0_1 := Lib.hid (H0.out.below s1); clear H0
    have S1 : Below w.heap.size w w1 := s1
    have Z1 := Lib.hid (s1.size)
    have LP0 := Lib.hid (lt_of_cell P0_1n.1)
    go_wp2_with fail
    refine (toProgram_m (RA0_1.out.below bel) HN0.out).mono ?_
    rintro e w2 ⟨A1_2, c1_2, A2_2, c2_2, bs2, rfl, r2, nd2, hb2, b2⟩
    have Tc0 := Lib.hid (show ∀ y ∈ bs2, w1.heap.size + 0 ≤ y ∧ y < w2.heap.size from fun y hy => ⟨by have := hb2 y hy; (try simp at this); omega, Rep.lt _ r2 y hy⟩)
    have P0_2 := P0_1n.to b2; clear P0_1n
    have RA0_2 := Lib.hid (RA0_1.out.below b2); clear RA0_1
    have S2 : Below w.heap.size w w2 := below_tr S1 b2
    have Z2 := Lib.hid (b2.size)
    have r2h := Lib.hid r2; clear r2 hb2
    clear nd2
    go_wp2_with fail
    refine (specLatestLevels_c (r2h.out.below bel)).mono ?_
    rintro e w3 ⟨A3, n3, c3, bs3, rfl, r3, nd3, hb3, b3⟩
    have Tw0 := Lib.hid (show ∀ y ∈ bs3, y < w3.heap.size from Rep.lt _ r3)
    have P0_3 := P0_2.to b3; clear P0_2
    have RA0_3 := Lib.hid (RA0_2.out.below b3); clear RA0_2
    have Rc0_3 := Lib.hid (r2h.out.below b3); clear r2h
    have S3 : Below w.heap.size w w3 := below_tr S2 b3
    have Z3 := Lib.hid (b3.size)
    have r3h := Lib.hid r3; clear r3 hb3 nd3
    go_wp2_with fail
    refine (toProgram_m (RA0_3.out.below bel) HN0.out).mono ?_
    rintro e w4 ⟨A1_4, c1_4, A2_4, c2_4, bs4, rfl, r4, nd4, hb4, b4⟩
    have Tx0 := Lib.hid (show ∀ y ∈ bs4, w3.heap.size + 0 ≤ y ∧ y < w4.heap.size from fun y hy => ⟨by have := hb4 y hy; (try simp at this); omega, Rep.lt _ r4 y hy⟩)
    have P0_4 := P0_3.to b4; clear P0_3
    have RA0_4 := Lib.hid (RA0_3.out.below b4); clear RA0_3
    have Rw0_4 := Lib.hid (r3h.out.below b4); clear r3h
    have S4 : Below w.heap.size w w4 := below_tr S3 b4
    have Z4 := Lib.hid (b4.size)
    have r4h := Lib.hid r4; clear r4 hb4
    have ltP0_4 := lt_of_cell P0_4.1
    go_wp2_with fail
    refine (implLatestLevels_c (r4h.out.below bel)).mono ?_
    rintro e w5 ⟨A5, n5, c5, bs5, rfl, r5, nd5, hb5, b5⟩
    have Tg0 := Lib.hid (show ∀ y ∈ bs5, w4.heap.size + 1 ≤ y ∧ y < w5.heap.size from fun y hy => ⟨by have := hb5 y hy; (try simp at this); omega, Rep.lt _ r5 y hy⟩)
    have X0_5n := (Box2.new w4 _ _ _).to b5
    have s5 : Below w4.heap.size w4 w5 := bel
    have P0_5 := P0_4.to s5; clear P0_4
    have RA0_5 := Lib.hid (RA0_4.out.below s5); clear RA0_4
    have Rw0_5 := Lib.hid (Rw0_4.out.below s5); clear Rw0_4
    have Rx0_5 := Lib.hid (r4h.out.below s5); clear r4h
    have S5 : Below w.heap.size w w5 := below_tr S4 s5
    have Z5 := Lib.hid (s5.size)
    have LX0 := Lib.hid (lt_of_cell X0_5n.1)
    have r5h := Lib.hid r5; clear r5 hb5
    go_wp2_with fail
    refine (eqIntS_b (r5h.out.below bel) (Rw0_5.out.below bel)).mono ?_
    rintro e w6 ⟨rfl, b6⟩
    have P0_6 := P0_5.to b6; clear P0_5
    have X0_6 := X0_5n.to b6; clear X0_5n
    have RA0_6 := Lib.hid (RA0_5.out.below b6); clear RA0_5
    have Rw0_6 := Lib.hid (Rw0_5.out.below b6); clear Rw0_5
    have Rx0_6 := Lib.hid (Rx0_5.out.below b6); clear Rx0_5
    have Rg0_6 := Lib.hid (r5h.out.below b6); clear r5h
    have S6 : Below w.heap.size w w6 := below_tr S5 b6
    have Z6 := Lib.hid (b6.size)
    go_wp2_with fail
    go_region_held3 (fun w' => Box2 w' w.heap.size (.slice A1_0 x0.arrays.length c1_0) (.slice A2_0 x0.parts.length c2_0) ∧ Box2 w' w4.heap.size (.slice A1_4 x0.arrays.length c1_4) (.slice A2_4 x0.parts.length c2_4)) (first | exact ⟨P0_6, X0_6⟩ | exact ⟨P0_6.to (of_drew b7), X0_6.to (of_drew b7)⟩ | exact ⟨(P0_6.to (of_drew b7)).to b8, (X0_6.to (of_drew b7)).to b8⟩ | skip)
      (first | (go_at_call 11; refine (toProgram_m (RA0_6.out.below (Below.refl _ _).drew) HN0.out).mono ?_; rintro e w7 ⟨A1_7, c1_7, A2_7, c2_7, bs7, rfl, r7, nd7, hb7, b7⟩) | (go_at_call 13; refine (eqProgram_c (Rx0_6.out.below (of_drew b7)) r7).mono ?_; rintro e w8 ⟨rfl, b8⟩))
    have t8 : Below w6.heap.size w6 w8 := below_tr (of_drew b7) b8
    clear b7 b8 r7 hb7 nd7
    have P0_8 := P0_6.to t8; clear P0_6
    have X0_8 := X0_6.to t8; clear X0_6
    have RA0_8 := Lib.hid (RA0_6.out.below t8); clear RA0_6
    have Rw0_8 := Lib.hid (Rw0_6.out.below t8); clear Rw0_6
    have Rx0_8 := Lib.hid (Rx0_6.out.below t8); clear Rx0_6
    have Rg0_8 := Lib.hid (Rg0_6.out.below t8); clear Rg0_6
    have S8 : Below w.heap.size w w8 := below_tr S6 t8
    have Z8 := Lib.hid (t8.size)
    have hcnt : (LateF x0).length ≤ 1000000 := HL.out
    have hn0c : Pgm.cntM x0 ≤ 10000000 := by have := HN0.out; have := Pgm.cntM_le x0; omega
    go_wp2_with fail
    refine (markProgram_n Rx0_8.out nd4 (q := 1) (by omega) (by omega)).mono ?_
    rintro e w9 ⟨rfl, r9, t9⟩
    have m9h := Lib.hid r9; clear r9
    have P0_9 := t9.box2 P0_8 (fun hm => by have h1 := Tx0.out _ hm; have q0 := Z1.out; have q1 := LP0.out; have q2 := Z2.out; have q3 := Z3.out; have q4 := Z4.out; have q5 := Z5.out; have q6 := LX0.out; have q7 := Z6.out; have q8 := Z8.out; omega); clear P0_8
    have X0_9 := t9.box2 X0_8 (fun hm => by have h1 := Tx0.out _ hm; have q0 := Z1.out; have q1 := LP0.out; have q2 := Z2.out; have q3 := Z3.out; have q4 := Z4.out; have q5 := Z5.out; have q6 := LX0.out; have q7 := Z6.out; have q8 := Z8.out; omega); clear X0_8
    have RA0_9 := Lib.hid (Rep.keep _ RA0_8.out (t9.keeps fun y hy => ⟨Rep.lt _ RA0_8.out y hy, fun hm => by have h1 := Tx0.out y hm; have h2 := TA0.out y hy; have q0 := Z1.out; have q1 := LP0.out; have q2 := Z2.out; have q3 := Z3.out; have q4 := Z4.out; have q5 := Z5.out; have q6 := LX0.out; have q7 := Z6.out; have q8 := Z8.out; omega⟩)); clear RA0_8
    have Rw0_9 := Lib.hid (Rep.keep _ Rw0_8.out (t9.keeps fun y hy => ⟨Rep.lt _ Rw0_8.out y hy, fun hm => by have h1 := Tx0.out y hm; have h2 := Tw0.out y hy; have q0 := Z1.out; have q1 := LP0.out; have q2 := Z2.out; have q3 := Z3.out; have q4 := Z4.out; have q5 := Z5.out; have q6 := LX0.out; have q7 := Z6.out; have q8 := Z8.out; omega⟩)); clear Rw0_8
    have Rg0_9 := Lib.hid (Rep.keep _ Rg0_8.out (t9.keeps fun y hy => ⟨Rep.lt _ Rg0_8.out y hy, fun hm => by have h1 := Tx0.out y hm; have h2 := Tg0.out y hy; have q0 := Z1.out; have q1 := LP0.out; have q2 := Z2.out; have q3 := Z3.out; have q4 := Z4.out; have q5 := Z5.out; have q6 := LX0.out; have q7 := Z6.out; have q8 := Z8.out; omega⟩)); clear Rg0_8
    have S9 : Below w.heap.size w w9 := S8.trans (t9.below S8.size (fun y hm => by have h1 := Tx0.out y hm; have q0 := Z1.out; have q1 := LP0.out; have q2 := Z2.out; have q3 := Z3.out; have q4 := Z4.out; have q5 := Z5.out; have q6 := LX0.out; have q7 := Z6.out; have q8 := Z8.out; omega))
    have Z9 := Lib.hid (show w8.heap.size ≤ w9.heap.size from t9.size)
    clear t9
    go_wp2_with fail
    refine (eqIntS_b (Rg0_9.out.below bel) (Rw0_9.out.below bel)).mono ?_
    rintro e w10 ⟨rfl, b10⟩
    have P0_10 := P0_9.to b10; clear P0_9
    have X0_10 := X0_9.to b10; clear X0_9
    have RA0_10 := Lib.hid (RA0_9.out.below b10); clear RA0_9
    have Rw0_10 := Lib.hid (Rw0_9.out.below b10); clear Rw0_9
    have Rg0_10 := Lib.hid (Rg0_9.out.below b10); clear Rg0_9
    have S10 : Below w.heap.size w w10 := below_tr S9 b10
    have Z10 := Lib.hid (b10.size)
    go_wp2_with fail
    refine (markIntS_n Rg0_10.out nd5 (q := 1) (by omega) (by omega)).mono ?_
    rintro e w11 ⟨rfl, r11, t11⟩
    have m11h := Lib.hid r11; clear r11
    have P0_11 := t11.box2 P0_10 (fun hm => by have h1 := Tg0.out _ hm; have q0 := Z1.out; have q1 := LP0.out; have q2 := Z2.out; have q3 := Z3.out; have q4 := Z4.out; have q5 := Z5.out; have q6 := LX0.out; have q7 := Z6.out; have q8 := Z8.out; have q9 := Z9.out; have q10 := Z10.out; omega); clear P0_10
    have X0_11 := t11.box2 X0_10 (fun hm => by have h1 := Tg0.out _ hm; have q0 := Z1.out; have q1 := LP0.out; have q2 := Z2.out; have q3 := Z3.out; have q4 := Z4.out; have q5 := Z5.out; have q6 := LX0.out; have q7 := Z6.out; have q8 := Z8.out; have q9 := Z9.out; have q10 := Z10.out; omega); clear X0_10
    have RA0_11 := Lib.hid (Rep.keep _ RA0_10.out (t11.keeps fun y hy => ⟨Rep.lt _ RA0_10.out y hy, fun hm => by have h1 := Tg0.out y hm; have h2 := TA0.out y hy; have q0 := Z1.out; have q1 := LP0.out; have q2 := Z2.out; have q3 := Z3.out; have q4 := Z4.out; have q5 := Z5.out; have q6 := LX0.out; have q7 := Z6.out; have q8 := Z8.out; have q9 := Z9.out; have q10 := Z10.out; omega⟩)); clear RA0_10
    have Rw0_11 := Lib.hid (Rep.keep _ Rw0_10.out (t11.keeps fun y hy => ⟨Rep.lt _ Rw0_10.out y hy, fun hm => by have h1 := Tg0.out y hm; have h2 := Tw0.out y hy; have q0 := Z1.out; have q1 := LP0.out; have q2 := Z2.out; have q3 := Z3.out; have q4 := Z4.out; have q5 := Z5.out; have q6 := LX0.out; have q7 := Z6.out; have q8 := Z8.out; have q9 := Z9.out; have q10 := Z10.out; omega⟩)); clear Rw0_10
    have S11 : Below w.heap.size w w11 := S10.trans (t11.below S10.size (fun y hm => by have h1 := Tg0.out y hm; have q0 := Z1.out; have q1 := LP0.out; have q2 := Z2.out; have q3 := Z3.out; have q4 := Z4.out; have q5 := Z5.out; have q6 := LX0.out; have q7 := Z6.out; have q8 := Z8.out; have q9 := Z9.out; have q10 := Z10.out; omega))
    have Z11 := Lib.hid (show w10.heap.size ≤ w11.heap.size from t11.size)
    clear t11
    have hmq : ((1 + (((LateF x0).length : Nat) : Int)) != (1 + (((LateF x0).length : Nat) : Int))) = false := by simp
    go_wp2_with fail
    refine (heldIntS_n m11h.out (q := 1) (by omega) (by omega)).mono ?_
    rintro e w12 ⟨rfl, b12⟩
    have P0_12 := P0_11.to b12; clear P0_11
    have X0_12 := X0_11.to b12; clear X0_11
    have RA0_12 := Lib.hid (RA0_11.out.below b12); clear RA0_11
    have Rw0_12 := Lib.hid (Rw0_11.out.below b12); clear Rw0_11
    have Rg0_12 := Lib.hid (m11h.out.below b12); clear m11h
    have S12 : Below w.heap.size w w12 := below_tr S11 b12
    have Z12 := Lib.hid (b12.size)
    go_wp2_with fail
    refine (toProgram_m (RA0_12.out.below bel) HN0.out).mono ?_
    rintro e w13 ⟨A1_13, c1_13, A2_13, c2_13, bs13, rfl, r13, nd13, hb13, b13⟩
    have Tz0 := Lib.hid (show ∀ y ∈ bs13, w12.heap.size + 0 ≤ y ∧ y < w13.heap.size from fun y hy => ⟨by have := hb13 y hy; (try simp at this); omega, Rep.lt _ r13 y hy⟩)
    have P0_13 := P0_12.to b13; clear P0_12
    have X0_13 := X0_12.to b13; clear X0_12
    have RA0_13 := Lib.hid (RA0_12.out.below b13); clear RA0_12
    have Rw0_13 := Lib.hid (Rw0_12.out.below b13); clear Rw0_12
    have Rg0_13 := Lib.hid (Rg0_12.out.below b13); clear Rg0_12
    have S13 : Below w.heap.size w w13 := below_tr S12 b13
    have Z13 := Lib.hid (b13.size)
    have r13h := Lib.hid r13; clear r13 hb13
    go_wp2_with fail
    refine (implLatestLevels_c (r13h.out.below bel)).mono ?_
    rintro e w14 ⟨A14, n14, c14, bs14, rfl, r14, nd14, hb14, b14⟩
    have P0_14 := P0_13.to b14; clear P0_13
    have X0_14 := X0_13.to b14; clear X0_13
    have RA0_14 := Lib.hid (RA0_13.out.below b14); clear RA0_13
    have Rw0_14 := Lib.hid (Rw0_13.out.below b14); clear Rw0_13
    have Rg0_14 := Lib.hid (Rg0_13.out.below b14); clear Rg0_13
    have Rz0_14 := Lib.hid (r13h.out.below b14); clear r13h
    have S14 : Below w.heap.size w w14 := below_tr S13 b14
    have Z14 := Lib.hid (b14.size)
    have r14h := Lib.hid r14; clear r14 hb14 nd14
    go_wp2_with fail
    refine (eqIntS_b (r14h.out.below bel) (Rw0_14.out.below bel)).mono ?_
    rintro e w15 ⟨rfl, b15⟩
    have P0_15 := P0_14.to b15; clear P0_14
    have X0_15 := X0_14.to b15; clear X0_14
    have RA0_15 := Lib.hid (RA0_14.out.below b15); clear RA0_14
    have Rw0_15 := Lib.hid (Rw0_14.out.below b15); clear Rw0_14
    have Rg0_15 := Lib.hid (Rg0_14.out.below b15); clear Rg0_14
    have Rh0_15 := Lib.hid (r14h.out.below b15); clear r14h
    have S15 : Below w.heap.size w w15 := below_tr S14 b15
    have Z15 := Lib.hid (b15.size)
    go_wp2_with fail
    refine (heldIntS_n Rg0_15.out (q := 1) (by omega) (by omega)).mono ?_
    rintro e w16 ⟨rfl, b16⟩
    have P0_16 := P0_15.to b16; clear P0_15
    have X0_16 := X0_15.to b16; clear X0_15
    have RA0_16 := Lib.hid (RA0_15.out.below b16); clear RA0_15
    have Rw0_16 := Lib.hid (Rw0_15.out.below b16); clear Rw0_15
    have Rg0_16 := Lib.hid (Rg0_15.out.below b16); clear Rg0_15
    have Rh0_16 := Lib.hid (Rh0_15.out.below b16); clear Rh0_15
    have S16 : Below w.heap.size w w16 := below_tr S15 b16
    have Z16 := Lib.hid (b16.size)
    go_wp2
    go_ret
    exact ⟨rfl, S16⟩
end Go.Proofs.YtimocdpfnncnlaaGreat
