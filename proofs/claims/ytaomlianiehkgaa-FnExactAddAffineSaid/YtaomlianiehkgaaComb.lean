/- Sums of multiples in the reference: l1Combine. -/
import Derived.Test.YtaomlianiehkgaaSum
import Derived.Test.YtaomlianiehkgaaRegion
import Derived.Test.YtaomlianiehkgaaSlices
import Derived.Deep.AppendLies
set_option linter.all false
set_option linter.unusedSimpArgs false
set_option linter.unusedVariables false
namespace Go.Proofs.Ytaomlianiehkgaa
open Go.ChangeShapes Go.WideShapes Go.ChangeAt Go.RowKit Go.Deep

def combTo (xs : List Int) (p : Int) (ys : List Int) (q : Int) (j : Nat) : List Int := (List.range j).map fun i => p * gi xs i + q * gi ys i
def combF (a : Aff) (p : Int) (b : Aff) (q : Int) : Aff := ⟨combTo a.coefs p b.coefs q 4, p * a.const + q * b.const⟩
theorem combTo_succ (xs : List Int) (p : Int) (ys : List Int) (q : Int) (j : Nat) : combTo xs p ys q (j + 1) = combTo xs p ys q j ++ [p * gi xs j + q * gi ys j] := by
  simp [combTo, List.range_succ]
theorem combTo_len (xs : List Int) (p : Int) (ys : List Int) (q : Int) (j : Nat) : (combTo xs p ys q j).length = j := by simp [combTo]

/-- bounds under which l1Combine does not wrap -/
structure CombBd (a : Aff) (p : Int) (b : Aff) (q : Int) : Prop where
  la : a.coefs.length = 4
  lb : b.coefs.length = 4
  p : -10000 ≤ p ∧ p ≤ 10000
  q : -10000 ≤ q ∧ q ≤ 10000
  ca : -1000000000 ≤ a.const ∧ a.const ≤ 1000000000
  cb : -1000000000 ≤ b.const ∧ b.const ≤ 1000000000
  xa : ∀ x ∈ a.coefs, -1000000000 ≤ x ∧ x ≤ 1000000000
  xb : ∀ x ∈ b.coefs, -1000000000 ≤ x ∧ x ≤ 1000000000

/-- what stands at the head of a round -/
structure CombI (w : World) (a : Aff) (p : Int) (A : Option Addr) (na ca : Nat) (bsa : List Nat) (b : Aff) (q : Int) (B : Option Addr) (nb cb : Nat) (bsb : List Nat) (j : Nat) (v : Value) (wr : World) : Prop where
  bel : Below w.heap.size w wr
  size : w.heap.size + 4 ≤ wr.heap.size
  pa : Box2 wr w.heap.size (.slice A na ca) (.int .i64 a.const)
  pb : Box2 wr (w.heap.size + 1) (.slice B nb cb) (.int .i64 b.const)
  pr : Box2 wr (w.heap.size + 2) (.slice none 0 0) (.int .i64 0)
  po : Box2 wr (w.heap.size + 3) v (.int .i64 (p * a.const + q * b.const))
  fr : ∀ g i, w.heap.size ≤ g → g < w.heap.size + 4 → wr.frozen? ⟨g, i, none⟩ = false
  own : wr.ownsRow (w.heap.size + 4) 3 1 v j ((combTo a.coefs p b.coefs q j).map (.int .i64 ·))
  ra : Rep wr (ints a.coefs) [.slice A na ca] bsa
  rb : Rep wr (ints b.coefs) [.slice B nb cb] bsb

/-- what no operation of the round's statement turns -/
structure CombB (w : World) (a : Aff) (p : Int) (ba oa na ca : Nat) (bsa : List Nat) (b : Aff) (q : Int) (bb ob nb cb : Nat) (bsb : List Nat) (j : Nat) (W : World) : Prop where
  bel : Below w.heap.size w W
  size : w.heap.size + 4 ≤ W.heap.size
  pa : Box2 W w.heap.size (.slice (some ⟨ba, oa, none⟩) na ca) (.int .i64 a.const)
  pb : Box2 W (w.heap.size + 1) (.slice (some ⟨bb, ob, none⟩) nb cb) (.int .i64 b.const)
  pr : Box2 W (w.heap.size + 2) (.slice none 0 0) (.int .i64 0)
  po1 : W.cell? ⟨w.heap.size + 3, 1, none⟩ = some (.int .i64 (p * a.const + q * b.const))
  fr : ∀ g i, w.heap.size ≤ g → g < w.heap.size + 4 → W.frozen? ⟨g, i, none⟩ = false
  ra : Rep W (ints a.coefs) [.slice (some ⟨ba, oa, none⟩) na ca] bsa
  rb : Rep W (ints b.coefs) [.slice (some ⟨bb, ob, none⟩) nb cb] bsb
  la : ∀ x ∈ bsa, x < w.heap.size
  lb : ∀ x ∈ bsb, x < w.heap.size
  ca : W.cell? ⟨ba, oa + j, none⟩ = some (.int .i64 (gi a.coefs j))
  cb : W.cell? ⟨bb, ob + j, none⟩ = some (.int .i64 (gi b.coefs j))
  ha : ba < w.heap.size
  hb : bb < w.heap.size
theorem CombB.to {w : World} {a : Aff} {p : Int} {ba oa na ca : Nat} {bsa : List Nat} {b : Aff} {q : Int} {bb ob nb cb : Nat} {bsb : List Nat} {j : Nat} {W W' : World} (h : CombB w a p ba oa na ca bsa b q bb ob nb cb bsb j W)
    (k : Below (w.heap.size + 4) W W') : CombB w a p ba oa na ca bsa b q bb ob nb cb bsb j W' := by
  have hc : ∀ g i, g < w.heap.size + 4 → W'.cell? ⟨g, i, none⟩ = W.cell? ⟨g, i, none⟩ := fun g i hg => k.cell (p := ⟨g, i, none⟩) hg
  refine ⟨h.bel.trans (k.mono (by omega)), Nat.le_trans h.size k.size, ⟨by rw [hc _ _ (by omega)]; exact h.pa.1, by rw [hc _ _ (by omega)]; exact h.pa.2⟩, ⟨by rw [hc _ _ (by omega)]; exact h.pb.1, by rw [hc _ _ (by omega)]; exact h.pb.2⟩,
    ⟨by rw [hc _ _ (by omega)]; exact h.pr.1, by rw [hc _ _ (by omega)]; exact h.pr.2⟩, by rw [hc _ _ (by omega)]; exact h.po1, fun g i h1 h2 => by rw [k.frozen (p := ⟨g, i, none⟩) h2]; exact h.fr g i h1 h2,
    Rep.keep _ h.ra ⟨k.size, fun x hx => k.block x (by have := h.la x hx; omega)⟩, Rep.keep _ h.rb ⟨k.size, fun x hx => k.block x (by have := h.lb x hx; omega)⟩, h.la, h.lb,
    by have := h.ha; rw [hc _ _ (by omega)]; exact h.ca, by have := h.hb; rw [hc _ _ (by omega)]; exact h.cb, h.ha, h.hb⟩
theorem CombB.set {w : World} {a : Aff} {p : Int} {ba oa na ca : Nat} {bsa : List Nat} {b : Aff} {q : Int} {bb ob nb cb : Nat} {bsb : List Nat} {j : Nat} {W : World} (h : CombB w a p ba oa na ca bsa b q bb ob nb cb bsb j W)
    (u : Value) : CombB w a p ba oa na ca bsa b q bb ob nb cb bsb j (W.setCell ⟨w.heap.size + 3, 0, none⟩ u) := by
  have hc : ∀ g i, g ≠ w.heap.size + 3 ∨ i ≠ 0 → (W.setCell ⟨w.heap.size + 3, 0, none⟩ u).cell? ⟨g, i, none⟩ = W.cell? ⟨g, i, none⟩ := fun g i hg => World.cell?_setCell_other _ _ _ _ (by intro e; cases e; simp at hg)
  have hk : ∀ l : List Nat, (∀ x ∈ l, x < w.heap.size) → Keeps W (W.setCell ⟨w.heap.size + 3, 0, none⟩ u) l := fun l hl => (Keeps.refl _ _).setCell (fun hx => by have := hl _ hx; simp at this; omega) _
  have ha := h.ha
  have hb := h.hb
  exact ⟨h.bel.setCell (by simp) _, by simpa [World.setCell] using h.size, ⟨by rw [hc _ _ (.inl (by omega))]; exact h.pa.1, by rw [hc _ _ (.inl (by omega))]; exact h.pa.2⟩, ⟨by rw [hc _ _ (.inl (by omega))]; exact h.pb.1, by rw [hc _ _ (.inl (by omega))]; exact h.pb.2⟩,
    ⟨by rw [hc _ _ (.inl (by omega))]; exact h.pr.1, by rw [hc _ _ (.inl (by omega))]; exact h.pr.2⟩, by rw [hc _ _ (.inr (by omega))]; exact h.po1, fun g i h1 h2 => by rw [World.frozen?_setCell]; exact h.fr g i h1 h2,
    Rep.keep _ h.ra (hk _ h.la), Rep.keep _ h.rb (hk _ h.lb), h.la, h.lb, by rw [hc _ _ (.inl (by omega))]; exact h.ca, by rw [hc _ _ (.inl (by omega))]; exact h.cb, ha, hb⟩

/-- what the statement's operations find and leave; d18, d20: is the append, the store done? -/
structure CombJ (w : World) (a : Aff) (p : Int) (ba oa na ca : Nat) (bsa : List Nat) (b : Aff) (q : Int) (bb ob nb cb : Nat) (bsb : List Nat) (j : Nat) (v : Value) (d18 d20 : Bool) (W : World) : Prop where
  base : CombB w a p ba oa na ca bsa b q bb ob nb cb bsb j W
  po0 : d20 = false → W.cell? ⟨w.heap.size + 3, 0, none⟩ = some v
  own : d18 = false → W.ownsRow (w.heap.size + 4) 3 1 v j ((combTo a.coefs p b.coefs q j).map (.int .i64 ·))
  fin : d20 = true → ∃ g cap, W.cell? ⟨w.heap.size + 3, 0, none⟩ = some (.slice (some ⟨g, 0, none⟩) (j + 1) cap) ∧ W.ownsRow (w.heap.size + 4) 3 1 (.slice (some ⟨g, 0, none⟩) (j + 1) cap) (j + 1) ((combTo a.coefs p b.coefs q (j + 1)).map (.int .i64 ·))

/-- what each operation's slot holds -/
def combV (w : World) (a : Aff) (p : Int) (ba oa na ca : Nat) (b : Aff) (q : Int) (bb ob nb cb : Nat) (j : Nat) (v : Value) (i : Nat) (u : Value) (W : World) : Prop :=
  match i with
  | 0 => u = .pointer (some ⟨w.heap.size + 1 + 1 + 1, 0, none⟩)
  | 1 => u = v
  | 2 => u = .int .i64 p
  | 3 => u = .pointer (some ⟨w.heap.size, 0, none⟩)
  | 4 => u = .slice (some ⟨ba, oa, none⟩) na ca
  | 5 => u = .int .i64 j
  | 6 => u = .pointer (some ⟨ba, oa + j, none⟩)
  | 7 => u = .int .i64 (gi a.coefs j)
  | 8 => u = .int .i64 (p * gi a.coefs j)
  | 9 => u = .int .i64 q
  | 10 => u = .pointer (some ⟨w.heap.size + 1, 0, none⟩)
  | 11 => u = .slice (some ⟨bb, ob, none⟩) nb cb
  | 12 => u = .int .i64 j
  | 13 => u = .pointer (some ⟨bb, ob + j, none⟩)
  | 14 => u = .int .i64 (gi b.coefs j)
  | 15 => u = .int .i64 (q * gi b.coefs j)
  | 16 => u = .int .i64 (p * gi a.coefs j + q * gi b.coefs j)
  | 19 => u = .pointer (some ⟨w.heap.size + 1 + 1 + 1, 0, none⟩)
  | 17 => ∃ g, u = .slice (some ⟨g, 0, none⟩) 1 1 ∧ W.cell? ⟨g, 0, none⟩ = some (.int .i64 (p * gi a.coefs j + q * gi b.coefs j)) ∧ w.heap.size + 4 ≤ g ∧ g < W.heap.size ∧ v.ownBlock ≠ some g
  | 18 => ∃ g cap, u = .slice (some ⟨g, 0, none⟩) (j + 1) cap ∧ W.ownsRow (w.heap.size + 4) 3 1 u (j + 1) ((combTo a.coefs p b.coefs q (j + 1)).map (.int .i64 ·))
  | _ => True

theorem combV_pure {w : World} {a : Aff} {p : Int} {ba oa na ca : Nat} {b : Aff} {q : Int} {bb ob nb cb j : Nat} {v u : Value} {i : Nat} {W W' : World} (h1 : i ≠ 17) (h2 : i ≠ 18) (h : combV w a p ba oa na ca b q bb ob nb cb j v i u W) : combV w a p ba oa na ca b q bb ob nb cb j v i u W' := by
  unfold combV at h ⊢
  split at h <;> first | exact h | (exact absurd rfl h1) | (exact absurd rfl h2)
theorem own_lt {w : World} {base : Nat} {e : TypeId} {size n g : Nat} {v : Value} {xs : List Value} (h : w.ownsRow base e size v n xs) (hg : v.ownBlock = some g) : g < w.heap.size := by
  rcases h.2 with ⟨rfl, _⟩ | ⟨g', cap, cur, rfl, _, hh, _⟩
  · cases hg
  · have : g' = g := by simpa [Value.ownBlock] using hg
    subst this
    rcases Nat.lt_or_ge g' w.heap.size with h | h
    · exact h
    · rw [Array.getElem?_eq_none h] at hh; cases hh
theorem own_ge {w : World} {base : Nat} {e : TypeId} {size n g : Nat} {v : Value} {xs : List Value} (h : w.ownsRow base e size v n xs) (hg : v.ownBlock = some g) : base ≤ g := by
  rcases h.2 with ⟨rfl, _⟩ | ⟨g', cap, cur, rfl, hb, hh, _⟩
  · cases hg
  · have : g' = g := by simpa [Value.ownBlock] using hg
    subst this
    exact hb

section
variable {w : World} {a b : Aff} {A B : Option Addr} {na ca nb cb : Nat} {ka kb p q : Int} {bsa bsb : List Nat}

set_option maxHeartbeats 4000000 in
theorem l1Combine_c (h : Rep w a.d [.slice A na ca, .int .i64 ka] bsa) (hb : Rep w b.d [.slice B nb cb, .int .i64 kb] bsb) (hbd : CombBd a p b q) :
    Calls Try.prog 37 #[.agg #[.slice A na ca, .int .i64 ka], .int .i64 p, .agg #[.slice B nb cb, .int .i64 kb], .int .i64 q] w (MadeAff w (combF a p b q)) := by
  obtain ⟨rfl, ha1, _⟩ := h.aff
  obtain ⟨rfl, hb1, _⟩ := hb.aff
  have H := Lib.hid (And.intro ha1 hb1); clear h hb ha1 hb1
  obtain ⟨x1, x2⟩ := mul_bd hbd.p hbd.ca
  obtain ⟨y1, y2⟩ := mul_bd hbd.q hbd.cb
  have HBD := Lib.hid hbd; clear hbd
  go_enter Try.func37, Try.ntmps37
  go_wp2
  go_loopw [10] (fun i wr => ∃ (j : Nat) (v : Value), j ≤ 4 ∧ i = .int .i64 j ∧ CombI w a p A na ca bsa b q B nb cb bsb j v wr) (fun i _ => 4 - (intOf i).toNat)
  case atStart =>
    refine ⟨0, .slice none 0 0, by omega, rfl, (by repeat (first | with_reducible exact Below.refl _ _ | refine Below.setCell ?_ (by simp; try omega) _ | refine below_al ?_ _ | refine Below.alloc ?_ (by simp [World.setCell]; try omega) _ | refine below_drewN ?_ _ | refine Below.drew ?_ | refine below_tr ?_ ‹Below _ _ _›)), by simp, ⟨by go_simp, by go_simp⟩, ⟨by go_simp, by go_simp⟩, ⟨by go_simp, by go_simp⟩, ⟨by go_simp, by go_simp⟩, fun g i h1 h2 => ?_, ⟨rfl, .inl ⟨rfl, rfl⟩⟩, H.out.1.below (by repeat (first | with_reducible exact Below.refl _ _ | refine Below.setCell ?_ (by simp; try omega) _ | refine below_al ?_ _ | refine Below.alloc ?_ (by simp [World.setCell]; try omega) _ | refine below_drewN ?_ _ | refine Below.drew ?_ | refine below_tr ?_ ‹Below _ _ _›)), H.out.2.below (by repeat (first | with_reducible exact Below.refl _ _ | refine Below.setCell ?_ (by simp; try omega) _ | refine below_al ?_ _ | refine Below.alloc ?_ (by simp [World.setCell]; try omega) _ | refine below_drewN ?_ _ | refine Below.drew ?_ | refine below_tr ?_ ‹Below _ _ _›))⟩
    rcases (show g = w.heap.size ∨ g = w.heap.size + 1 ∨ g = w.heap.size + 1 + 1 ∨ g = w.heap.size + 1 + 1 + 1 by omega) with rfl | rfl | rfl | rfl <;> go_simp
  case round =>
    obtain ⟨j, v, hj, rfl, hI⟩ := hrel
    by_cases hlt : j < 4
    · obtain ⟨ba, oa, rfl, hbsa, hba, hca, _⟩ := hI.ra.ints_at (k := j) (by rw [HBD.out.la]; exact hlt)
      obtain ⟨bb, ob, rfl, hbsb, hbb, hcb, _⟩ := hI.rb.ints_at (k := j) (by rw [HBD.out.lb]; exact hlt)
      have hna := hI.ra.ints_len.1
      have hnb := hI.rb.ints_len.1
      rw [HBD.out.la] at hna
      rw [HBD.out.lb] at hnb
      have n1 : (0 : Int) ≤ (j : Int) := by omega
      have n2 : (j : Int) < (na : Int) := by omega
      have n3 : (j : Int) < (nb : Int) := by omega
      obtain ⟨p1, p2⟩ := mul_bd HBD.out.p (gi_bd (by omega) HBD.out.xa j)
      obtain ⟨q1, q2⟩ := mul_bd HBD.out.q (gi_bd (by omega) HBD.out.xb j)
      have m1 : IntKind.i64.wrap (p * gi a.coefs j) = p * gi a.coefs j := IntWalk.i64_in _ (by omega)
      have m2 : IntKind.i64.wrap (q * gi b.coefs j) = q * gi b.coefs j := IntWalk.i64_in _ (by omega)
      have m3 : IntKind.i64.wrap (p * gi a.coefs j + q * gi b.coefs j) = p * gi a.coefs j + q * gi b.coefs j := IntWalk.i64_in _ (by omega)
      have hJ0 : CombJ w a p ba oa na ca bsa b q bb ob nb cb bsb j v false false wr.drew := by
        have hA0 := Rep.lt _ H.out.1
        have hB0 := Rep.lt _ H.out.2
        exact ⟨⟨hI.bel.drew, hI.size, hI.pa, hI.pb, hI.pr, hI.po.2, hI.fr, hI.ra.drewN 1, hI.rb.drewN 1, hA0, hB0, hca, hcb, hA0 _ (by rw [hbsa]; simp), hB0 _ (by rw [hbsb]; simp)⟩, fun _ => hI.po.1, fun _ => hI.own, fun h => by cases h⟩
      have HJ0 := Lib.hid hJ0
      have HX := Lib.hid (And.intro hna (And.intro hnb (And.intro hbsa hbsb)))
      clear hJ0 hna hnb hbsa hbsb hI hca hcb hba hbb
      go_wp2
      refine region_by_ops (by kernel_rfl) (by kernel_rfl) (combV w a p ba oa na ca b q bb ob nb cb j v) (fun d W => CombJ w a p ba oa na ca bsa b q bb ob nb cb bsb j v (d 18) (d 20) W) HJ0.out ?_ ?_
      · intro i o ho d a' W hR hd hdeps
        have hi : i < 21 := (Array.getElem?_eq_some_iff.1 ho).1
        have hJ := hR.inv
        rcases (show i = 0 ∨ i = 1 ∨ i = 2 ∨ i = 3 ∨ i = 4 ∨ i = 5 ∨ i = 6 ∨ i = 7 ∨ i = 8 ∨ i = 9 ∨ i = 10 ∨ i = 11 ∨ i = 12 ∨ i = 13 ∨ i = 14 ∨ i = 15 ∨ i = 16 ∨ i = 17 ∨ i = 18 ∨ i = 19 ∨ i = 20 by omega) with rfl | rfl | rfl | rfl | rfl | rfl | rfl | rfl | rfl | rfl | rfl | rfl | rfl | rfl | rfl | rfl | rfl | rfl | rfl | rfl | rfl
        · cases ho
          have e9 := hR.old_ 9 rfl
          unfold Oper.wp
          go_simp
          exact leaves_pure (show _ = _ from rfl) (by simpa using hJ)
        · cases ho
          have e25 : a'.tmps.getD 25 undef = .pointer (some ⟨w.heap.size + 1 + 1 + 1, 0, none⟩) := hR.val 0 _ 25 rfl rfl (hdeps ⟨0, .data⟩ (by simp) rfl)
          have h20 : d 20 = false := by cases h : d 20 with | false => rfl | true => exact absurd (hR.closed 18 _ rfl (hR.closed 20 _ rfl h ⟨18, .data⟩ (by simp) rfl) ⟨1, .data⟩ (by simp) rfl) (by simp [hd])
          have hc := hJ.po0 h20
          unfold Oper.wp
          go_simp
          exact leaves_pure (show _ = _ from rfl) (by simpa using hJ)
        · cases ho
          have e1 := hR.old_ 1 rfl
          unfold Oper.wp
          go_simp
          exact leaves_pure (show _ = _ from rfl) (by simpa using hJ)
        · cases ho
          have e4 := hR.old_ 4 rfl
          unfold Oper.wp
          go_simp
          exact leaves_pure (show _ = _ from rfl) (by simpa using hJ)
        · cases ho
          have e28 : a'.tmps.getD 28 undef = .pointer (some ⟨w.heap.size, 0, none⟩) := hR.val 3 _ 28 rfl rfl (hdeps ⟨3, .data⟩ (by simp) rfl)
          have hc := hJ.base.pa.1
          unfold Oper.wp
          go_simp
          exact leaves_pure (show _ = _ from rfl) (by simpa using hJ)
        · cases ho
          have e10 := hR.old_ 10 rfl
          unfold Oper.wp
          go_simp
          exact leaves_pure (show _ = _ from rfl) (by simpa using hJ)
        · cases ho
          have e29 : a'.tmps.getD 29 undef = .slice (some ⟨ba, oa, none⟩) na ca := hR.val 4 _ 29 rfl rfl (hdeps ⟨4, .data⟩ (by simp) rfl)
          have e30 : a'.tmps.getD 30 undef = .int .i64 j := hR.val 5 _ 30 rfl rfl (hdeps ⟨5, .data⟩ (by simp) rfl)
          unfold Oper.wp
          go_simp
          exact leaves_pure (show _ = _ from rfl) (by simpa using hJ)
        · cases ho
          have e31 : a'.tmps.getD 31 undef = .pointer (some ⟨ba, oa + j, none⟩) := hR.val 6 _ 31 rfl rfl (hdeps ⟨6, .data⟩ (by simp) rfl)
          have hc := hJ.base.ca
          unfold Oper.wp
          go_simp
          exact leaves_pure (show _ = _ from rfl) (by simpa using hJ)
        · cases ho
          have e27 : a'.tmps.getD 27 undef = .int .i64 p := hR.val 2 _ 27 rfl rfl (hdeps ⟨2, .data⟩ (by simp) rfl)
          have e32 : a'.tmps.getD 32 undef = .int .i64 (gi a.coefs j) := hR.val 7 _ 32 rfl rfl (hdeps ⟨7, .data⟩ (by simp) rfl)
          unfold Oper.wp
          go_simp
          exact leaves_pure (show _ = _ from rfl) (by simpa using hJ)
        · cases ho
          have e3 := hR.old_ 3 rfl
          unfold Oper.wp
          go_simp
          exact leaves_pure (show _ = _ from rfl) (by simpa using hJ)
        · cases ho
          have e6 := hR.old_ 6 rfl
          unfold Oper.wp
          go_simp
          exact leaves_pure (show _ = _ from rfl) (by simpa using hJ)
        · cases ho
          have e35 : a'.tmps.getD 35 undef = .pointer (some ⟨w.heap.size + 1, 0, none⟩) := hR.val 10 _ 35 rfl rfl (hdeps ⟨10, .data⟩ (by simp) rfl)
          have hc := hJ.base.pb.1
          unfold Oper.wp
          go_simp
          exact leaves_pure (show _ = _ from rfl) (by simpa using hJ)
        · cases ho
          have e10 := hR.old_ 10 rfl
          unfold Oper.wp
          go_simp
          exact leaves_pure (show _ = _ from rfl) (by simpa using hJ)
        · cases ho
          have e36 : a'.tmps.getD 36 undef = .slice (some ⟨bb, ob, none⟩) nb cb := hR.val 11 _ 36 rfl rfl (hdeps ⟨11, .data⟩ (by simp) rfl)
          have e37 : a'.tmps.getD 37 undef = .int .i64 j := hR.val 12 _ 37 rfl rfl (hdeps ⟨12, .data⟩ (by simp) rfl)
          unfold Oper.wp
          go_simp
          exact leaves_pure (show _ = _ from rfl) (by simpa using hJ)
        · cases ho
          have e38 : a'.tmps.getD 38 undef = .pointer (some ⟨bb, ob + j, none⟩) := hR.val 13 _ 38 rfl rfl (hdeps ⟨13, .data⟩ (by simp) rfl)
          have hc := hJ.base.cb
          unfold Oper.wp
          go_simp
          exact leaves_pure (show _ = _ from rfl) (by simpa using hJ)
        · cases ho
          have e34 : a'.tmps.getD 34 undef = .int .i64 q := hR.val 9 _ 34 rfl rfl (hdeps ⟨9, .data⟩ (by simp) rfl)
          have e39 : a'.tmps.getD 39 undef = .int .i64 (gi b.coefs j) := hR.val 14 _ 39 rfl rfl (hdeps ⟨14, .data⟩ (by simp) rfl)
          unfold Oper.wp
          go_simp
          exact leaves_pure (show _ = _ from rfl) (by simpa using hJ)
        · cases ho
          have e33 : a'.tmps.getD 33 undef = .int .i64 (p * gi a.coefs j) := hR.val 8 _ 33 rfl rfl (hdeps ⟨8, .data⟩ (by simp) rfl)
          have e40 : a'.tmps.getD 40 undef = .int .i64 (q * gi b.coefs j) := hR.val 15 _ 40 rfl rfl (hdeps ⟨15, .data⟩ (by simp) rfl)
          unfold Oper.wp
          go_simp
          exact leaves_pure (show _ = _ from rfl) (by simpa using hJ)
        · cases ho
          have e41 : a'.tmps.getD 41 undef = .int .i64 (p * gi a.coefs j + q * gi b.coefs j) := hR.val 16 _ 41 rfl rfl (hdeps ⟨16, .data⟩ (by simp) rfl)
          have h18 : d 18 = false := by cases h : d 18 with | false => rfl | true => exact absurd (hR.closed 18 _ rfl h ⟨17, .data⟩ (by simp) rfl) (by simp [hd])
          have h20 : d 20 = false := by cases h : d 20 with | false => rfl | true => exact absurd (hR.closed 20 _ rfl h ⟨18, .data⟩ (by simp) rfl) (by simp [h18])
          have ho := hJ.own h18
          have hb := (Below.refl (w.heap.size + 4) W).alloc hJ.base.size (.cells #[.int .i64 (p * gi a.coefs j + q * gi b.coefs j)] 3)
          have e41' : a'.tmps[41]?.getD undef = .int .i64 (p * gi a.coefs j + q * gi b.coefs j) := by rw [← Array.getD_eq_getD_getElem?]; exact e41
          unfold Oper.wp
          go_simp
          refine ⟨_, rfl, fun _ => ⟨W.heap.size, rfl, by simp, hJ.base.size, by simp, fun h => ?_⟩, ⟨hJ.base.to hb, fun _ => ?_, fun _ => ho.alloc _, fun h => by simp [h20] at h⟩, fun k u hk hF => combV_pure (by rintro rfl; rw [hd] at hk; cases hk) (by rintro rfl; rw [h18] at hk; cases hk) hF⟩
          · have := own_lt ho h; omega
          · rw [hb.cell (p := ⟨w.heap.size + 3, 0, none⟩) (by simp)]; exact hJ.po0 h20
        · cases ho
          have e26 : a'.tmps.getD 26 undef = v := hR.val 1 _ 26 rfl rfl (hdeps ⟨1, .data⟩ (by simp) rfl)
          have e42 := hR.val 17 _ 42 rfl rfl (hdeps ⟨17, .data⟩ (by simp) rfl)
          obtain ⟨g, e42, hg1, hg2, hg3, hg4⟩ := e42
          have h20 : d 20 = false := by cases h : d 20 with | false => rfl | true => exact absurd (hR.closed 20 _ rfl h ⟨18, .data⟩ (by simp) rfl) (by simp [hd])
          have ho := hJ.own hd
          obtain ⟨i0, hi0, hz0, hz1, hz2⟩ := Try.info3
          refine wp_append_lies W (.tmp 26) (.tmp 42) 22 rfl (w.heap.size + 4) 3 i0 (.int .i64 0) 1 8 Try.underlying22 hi0 hz0 hz1 hz2 rfl (by decide) v j _ e26 ho ⟨g, 0, none⟩ 1 1 [.int .i64 (p * gi a.coefs j + q * gi b.coefs j)] e42 rfl ?_ ?_ (by decide) (by unfold maxLen; omega) (by omega) hJ.base.size W.heap.size rfl ?_
          · intro k u hu
            rcases k with _ | k
            · simp only [List.getElem?_cons_zero, Option.some.injEq] at hu
              subst hu; simpa [Addr.add] using hg1
            · simp at hu
          · intro u hu
            rw [List.mem_singleton.1 hu]; rfl
          · intro g' cap w' hown hgrow hat hlt'
            have hb : Below (w.heap.size + 4) W w' := (Below.refl _ _).grown hgrow hJ.base.size fun k hk => own_ge ho hk
            have hown' : w'.ownsRow (w.heap.size + 4) 3 1 (.slice (some ⟨g', 0, none⟩) (j + 1) cap) (j + 1) ((combTo a.coefs p b.coefs q (j + 1)).map (.int .i64 ·)) := by
              rw [combTo_succ, List.map_append]; exact hown
            refine ⟨_, rfl, fun _ => ⟨g', cap, rfl, hown'⟩, ⟨hJ.base.to hb, fun _ => ?_, fun h => by simp at h, fun h => by simp [h20] at h⟩, fun k u hk hF => ?_⟩
            · rw [hb.cell (p := ⟨w.heap.size + 3, 0, none⟩) (by simp)]; exact hJ.po0 h20
            · by_cases e17 : k = 17
              · subst e17
                obtain ⟨y, f1, f2, f3, f4, f5⟩ := hF
                exact ⟨y, f1, by rw [World.cell?_of_block (w := W) (a := ⟨y, 0, none⟩) (hgrow.block y f4 (fun e => f5 e.symm))]; exact f2, f3, Nat.lt_of_lt_of_le f4 hgrow.size, f5⟩
              · exact combV_pure e17 (by rintro rfl; rw [hd] at hk; cases hk) hF
        · cases ho
          have e9 := hR.old_ 9 rfl
          unfold Oper.wp
          go_simp
          exact leaves_pure (show _ = _ from rfl) (by simpa using hJ)
        · cases ho
          have e43 := hR.val 18 _ 43 rfl rfl (hdeps ⟨18, .data⟩ (by simp) rfl)
          have e44 : a'.tmps.getD 44 undef = .pointer (some ⟨w.heap.size + 1 + 1 + 1, 0, none⟩) := hR.val 19 _ 44 rfl rfl (hdeps ⟨19, .data⟩ (by simp) rfl)
          obtain ⟨g, cap, e43, hown⟩ := e43
          have h18 : d 18 = true := hdeps ⟨18, .data⟩ (by simp) rfl
          have hc := hJ.po0 hd
          have hf := hJ.base.fr (w.heap.size + 3) 0 (by omega) (by omega)
          unfold Oper.wp
          go_simp
          have hne : ∀ y, w.heap.size + 4 ≤ y → (⟨w.heap.size + 3, 0, none⟩ : Addr) ≠ ⟨y, 0, none⟩ := fun y hy e => by cases e; omega
          refine ⟨undef, rfl, fun h => absurd rfl h, ⟨hJ.base.set _, fun h => by simp at h, fun h => by simp [h18] at h, fun _ => ⟨g, cap, World.cell?_setCell_same _ _ _ hc, ownsRow_setCell_below (e43 ▸ hown) (by simp) _⟩⟩, fun k u hk hF => ?_⟩
          by_cases e17 : k = 17
          · subst e17
            obtain ⟨y, f1, f2, f3, f4, f5⟩ := hF
            exact ⟨y, f1, by rw [World.cell?_setCell_other _ _ _ _ (hne y f3)]; exact f2, f3, by simpa [World.setCell] using f4, f5⟩
          · by_cases e18 : k = 18
            · subst e18
              obtain ⟨y, cap', f1, f2⟩ := hF
              exact ⟨y, cap', f1, ownsRow_setCell_below f2 (by simp) _⟩
            · exact combV_pure e17 e18 hF
      · intro d a' W hR hall
        have hJ := hR.inv
        have h20 : d 20 = true := hall 20 (by decide)
        have hA := act_mix hR [25, 26, 27, 28, 29, 30, 31, 32, 33, 34, 35, 36, 37, 38, 39, 40, 41, 42, 43, 44] rfl
        simp only [mixF, Nat.reduceAdd, List.contains_cons, List.contains_nil, Nat.reduceBEq, Bool.or_false, Bool.or_true, Bool.true_or, Bool.false_or, if_true, if_false, Bool.false_eq_true] at hA
        have hb0 := hJ.base
        obtain ⟨g, cap, hfc, hfo⟩ := hJ.fin h20
        have HB := Lib.hid (And.intro hb0 (And.intro hfc hfo))
        clear hR hJ hall hb0 hfc hfo HJ0
        generalize a'.tmps.getD 25 undef = y25 at hA
        generalize a'.tmps.getD 26 undef = y26 at hA
        generalize a'.tmps.getD 27 undef = y27 at hA
        generalize a'.tmps.getD 28 undef = y28 at hA
        generalize a'.tmps.getD 29 undef = y29 at hA
        generalize a'.tmps.getD 30 undef = y30 at hA
        generalize a'.tmps.getD 31 undef = y31 at hA
        generalize a'.tmps.getD 32 undef = y32 at hA
        generalize a'.tmps.getD 33 undef = y33 at hA
        generalize a'.tmps.getD 34 undef = y34 at hA
        generalize a'.tmps.getD 35 undef = y35 at hA
        generalize a'.tmps.getD 36 undef = y36 at hA
        generalize a'.tmps.getD 37 undef = y37 at hA
        generalize a'.tmps.getD 38 undef = y38 at hA
        generalize a'.tmps.getD 39 undef = y39 at hA
        generalize a'.tmps.getD 40 undef = y40 at hA
        generalize a'.tmps.getD 41 undef = y41 at hA
        generalize a'.tmps.getD 42 undef = y42 at hA
        generalize a'.tmps.getD 43 undef = y43 at hA
        generalize a'.tmps.getD 44 undef = y44 at hA
        subst hA
        go_wp2
        go_roundw
        case rel =>
          obtain ⟨hb0, hfc, hfo⟩ := HB.out
          exact ⟨j + 1, _, by omega, by go_num, hb0.bel, hb0.size, hb0.pa, hb0.pb, hb0.pr, ⟨hfc, hb0.po1⟩, hb0.fr, hfo, hb0.ra, hb0.rb⟩
        case measure => simp [intOf]; omega
    · have hjj : j = 4 := by omega
      subst hjj
      have hfit : ∀ x ∈ combTo a.coefs p b.coefs q 4, I64 x := by
        intro x hx
        obtain ⟨k, _, rfl⟩ := List.mem_map.1 hx
        obtain ⟨p1, p2⟩ := mul_bd HBD.out.p (gi_bd (by omega) HBD.out.xa k)
        obtain ⟨q1, q2⟩ := mul_bd HBD.out.q (gi_bd (by omega) HBD.out.xb k)
        unfold I64; omega
      obtain ⟨A', c', bs', hv, hr, hbs⟩ := Rep.of_own (xs := (combTo a.coefs p b.coefs q 4).map .int) hI.own (by simp [combTo_len]) ((reps_ints _).2 ⟨rfl, rfl, hfit⟩)
      have hlo := fun g hg => own_ge (g := g) hI.own hg
      have hbs' : (bs' = [] ∨ ∃ g, bs' = [g] ∧ w.heap.size + 4 ≤ g) := by
        rcases hbs with ⟨_, h⟩ | ⟨g, h1, h2, _⟩
        · exact .inl h
        · exact .inr ⟨g, h1, h2⟩
      subst hv
      obtain ⟨po1, po2⟩ := hI.po
      obtain ⟨pr1, pr2⟩ := hI.pr
      have f1 := hI.fr (w.heap.size + 2) 0 (by omega) (by omega)
      have f2 := hI.fr (w.heap.size + 2) 1 (by omega) (by omega)
      have HI := Lib.hid (And.intro hI.bel (And.intro hr hbs')); clear hI hr hbs hbs' hlo hfit
      go_wp2
      obtain ⟨h1, h2, h3⟩ := HI.out
      have hn : w.heap.size + 2 ∉ bs' := by
        rcases h3 with rfl | ⟨g, rfl, hg⟩
        · simp
        · simp; omega
      exact bodyPost_ret (v := .agg #[.slice A' 4 c', .int .i64 (p * a.const + q * b.const)]) (by simp [results, Try.results37, go_sem, pr1, pr2]) rfl
        ⟨_, _, _, _, bs', rfl, Rep.aff_iff.2 ⟨_, _, _, rfl, Rep.keep _ h2 (((Keeps.refl _ _).setCell hn _).setCell hn _), by unfold I64; simp only [combF]; omega⟩,
          by rcases h3 with rfl | ⟨g, rfl, hg⟩ <;> simp, fun x hx => by rcases h3 with rfl | ⟨g, rfl, hg⟩ <;> simp at hx; omega, (h1.setCell (by simp; omega) _).setCell (by simp; omega) _⟩
end
end Go.Proofs.Ytaomlianiehkgaa
