/- A transformation's beginning: begun with no loop asked for. -/
import Derived.Test.YtgogjbnneoadkaaGreatZdOrder
import Derived.Test.YtgogjbnneoadkaaGreatZdDeps1
import Derived.Test.YtgogjbnneoadkaaGreatZdCore
import Derived.Test.YtgogjbnneoadkaaGreatZdPgF
import Derived.Test.YtgogjbnneoadkaaGreatZdFin
import Derived.Test.YtgogjbnneoadkaaGreatZdWith
import Derived.Test.YtgogjbnneoadkaaGreatZdActs
set_option linter.all false
set_option maxHeartbeats 4000000
set_option maxRecDepth 100000
namespace Go.Proofs.YtgogjbnneoadkaaGreat
open Go.ChangeShapes Go.WideShapes Go.ChangeAt Go.RowKit Go.Deep
end Go.Proofs.YtgogjbnneoadkaaGreat
namespace Go.Proofs.YtgogjbnneoadkaaGreat
end Go.Proofs.YtgogjbnneoadkaaGreat
namespace Go.Proofs.YtgogjbnneoadkaaGreat
open Go.ChangeShapes Go.WideShapes Go.ChangeAt Go.RowKit Go.Deep
end Go.Proofs.YtgogjbnneoadkaaGreat
namespace Go.Proofs.YtgogjbnneoadkaaGreat
def loopThere (p : Pgm) (part loop : Int) : Prop := (0 ≤ part ∧ part < (p.parts.length : Int)) ∧ 0 ≤ loop ∧ loop < ((p.parts.getD part.toNat ⟨[], []⟩).nest.length : Int)
instance (p : Pgm) (part loop : Int) : Decidable (loopThere p part loop) := by unfold loopThere; infer_instance
end Go.Proofs.YtgogjbnneoadkaaGreat
namespace Go.Proofs.YtgogjbnneoadkaaGreat
open Go.ChangeShapes Go.WideShapes Go.ChangeAt Go.RowKit Go.Deep
def nthIn (xs : List In) (i : Int) : In := xs.getD i.toNat ⟨0, 0, []⟩
theorem nthIn_eq {xs : List In} {i : Nat} (h : i < xs.length) : nthIn xs (i : Int) = xs[i] := by simp [nthIn, List.getD_eq_getElem?_getD, h]
def hitF (k m : Int) (a b : In) : Bool := decide (a.part = k) && (decide (b.part = k) && (decide (b.stmt < m) && decide (m ≤ a.stmt)))
def hitD (p : Pgm) (k m : Int) (d : Dp) : Bool := hitF k m (nthIn (instsF p) d.from_) (nthIn (instsF p) d.to_)
def badF (p : Pgm) (k m : Int) : Bool := (depsF (usesF p)).any (hitD p k m)
theorem any_at {α : Type} {l : List α} {f : α → Bool} {j : Nat} (h : j < l.length) : (l.drop j).any f = (f l[j] || (l.drop (j + 1)).any f) := by
 rw [List.drop_eq_getElem_cons h, List.any_cons]
theorem any_end {α : Type} {l : List α} {f : α → Bool} : (l.drop l.length).any f = false := by simp
def distQ (p : Pgm) (k m : Nat) : Pgm := withQ p k 1 [⟨(prtF p k).nest, (prtF p k).body.take m⟩, ⟨(prtF p k).nest, (prtF p k).body.drop m⟩]
def distB (p : Pgm) (k m : Int) : Bool := progOk p && (inB k 0 ((p.parts.length : Int) - 1) && inB m 1 (((prtF p k).body.length : Int) - 1))
def DistributePartF (p : Pgm) (k m : Int) : Pgm × Bool :=
 if distB p k m = true then (if badF p k m = true then (⟨[], []⟩, false) else finF (distQ p k.toNat m.toNat)) else (⟨[], []⟩, false)
theorem dist_no {p : Pgm} {k m : Int} (h : distB p k m = false) : DistributePartF p k m = (⟨[], []⟩, false) := by
 unfold DistributePartF; rw [h]; rfl
theorem dist_bad {p : Pgm} {k m : Int} (h : badF p k m = true) : DistributePartF p k m = (⟨[], []⟩, false) := by
 unfold DistributePartF; rw [h]; split <;> rfl
theorem dist_y {p : Pgm} {k m : Nat} (h : distB p k m = true) (hb : badF p k m = false) : DistributePartF p (k : Int) (m : Int) = finF (distQ p k m) := by
 unfold DistributePartF; rw [if_pos h, hb, Int.toNat_natCast, Int.toNat_natCast]; rfl
theorem distB_y {p : Pgm} {k m : Int} (h : distB p k m = true) : progOk p = true ∧ ∃ q n : Nat, k = (q : Int) ∧ m = (n : Int) ∧ ∃ hq : q < p.parts.length, 1 ≤ n ∧ n < p.parts[q].body.length := by
 simp only [distB, Bool.and_eq_true] at h
 obtain ⟨h1, h2, h3⟩ := h
 have h2 := inB_iff.1 h2
 have h3 := inB_iff.1 h3
 obtain ⟨q, rfl⟩ := Int.eq_ofNat_of_zero_le h2.1
 have hq : q < p.parts.length := by omega
 obtain ⟨n, rfl⟩ := Int.eq_ofNat_of_zero_le (show 0 ≤ m by omega)
 rw [prtF_eq hq] at h3
 exact ⟨h1, q, n, rfl, rfl, hq, by omega, by omega⟩
def All3 {α β γ : Type} (R : α → β → γ → Prop) : List α → List β → List γ → Prop
 | [], [], [] => True
 | a :: us, b :: bs, c :: cs => R a b c ∧ All3 R us bs cs
 | _, _, _ => False
abbrev Lies (α : Type) := World → Value → α → List Nat → Prop
def LI (B : Nat) (e : TypeId) : Lies (List Int) := fun w v xs bs => w.ownsRow B e 1 v xs.length (xs.map (Value.int .i64 ·)) ∧ (∀ x ∈ xs, I64 x) ∧ bs = ownL v
def LL {α : Type} (B : Nat) (e : TypeId) (T : Lies α) : Lies (List α) := fun w v xs bs => ∃ vs bss, w.ownsRow B e 1 v xs.length vs ∧ All3 (T w) vs xs bss ∧ bs = ownL v ++ bss.flatten
abbrev T1 (B : Nat) : Lies (List (List Int)) := LL B 39 (LI B 3)
abbrev T2 (B : Nat) : Lies (List (List (List Int))) := LL B 91 (T1 B)
theorem isPart_c {w : World} {p : Pgm} {cs : List Value} {bs : List Nat} {k : Int} (h : Rep w p.d cs bs) :
  Calls Tryz.prog 80 #[.agg cs.toArray, .int .i64 k] w fun e w' => e = .returned (.bool (inB k 0 ((p.parts.length : Int) - 1))) ∧ Below w.heap.size w w' := by
 obtain ⟨A1, c1, A2, c2, d1, d2, rfl, rfl, g1, g2⟩ := Rep.pgm_iff.1 h
 have Garrays := Lib.hid g1
 have Gparts := Lib.hid g2
 clear h g1 g2
 have hn : p.parts.length ≤ 9223372036854775807 := Nat.le_trans Gparts.out.sls_len.2.1 Gparts.out.sls_len.2.2
 go_enter Tryz.func80, Tryz.ntmps80
 go_wp2_with fail
 refine (within_c _ _ _ _).mono ?_
 rintro e w' ⟨rfl, rfl⟩
 go_wp2
 go_ret
 exact ⟨rfl, bel⟩
def Begun (w : World) (p : Pgm) (k : Nat) (e : Ending) (w' : World) : Prop := ∃ (A1 : Option Addr) (c1 g c2 : Nat) (d1 : List Nat) (B : Nat), e = .returned (.tuple #[.agg #[.slice A1 p.arrays.length c1, .slice (some ⟨g, 0, none⟩) p.parts.length c2], .pointer (some ⟨g, k * 2, none⟩), .bool true]) ∧ Rep w' (sls Ar.d p.arrays) [.slice A1 p.arrays.length c1] d1 ∧ (∀ y ∈ d1, w.heap.size ≤ y ∧ y < B) ∧ EGrow PrtO w' B 54 2 (.slice (some ⟨g, 0, none⟩) p.parts.length c2) p.parts ∧ w.heap.size ≤ B ∧ Below w.heap.size w w'
theorem begun_n {w : World} {p : Pgm} {k : Int} {cs : List Value} {bs : List Nat} (h : Rep w p.d cs bs) (hk : (progOk p && inB k 0 ((p.parts.length : Int) - 1)) = false) :
  Calls Tryz.prog 36 #[.agg cs.toArray, .int .i64 k, .int .i64 (-1)] w fun e w' => e = .returned (.tuple #[.agg #[.slice none 0 0, .slice none 0 0], .pointer none, .bool false]) ∧ Below w.heap.size w w' := by
 have HH := Lib.hid h
 obtain ⟨A1, c1, A2, c2, d1, d2, rfl, rfl, g1, g2⟩ := Rep.pgm_iff.1 h
 clear g1 g2 h
 cases hv : progOk p with
 | false =>
  have HV := Lib.hid hv; clear hv hk
  go_enter Tryz.func36, Tryz.ntmps36
  go_wp2_with fail
  refine (implProgramValid_c (HH.out.below bel)).mono ?_
  rintro e w1 ⟨rfl, b1⟩
  rw [HV.out]
  have X1 : BoxW w1 (w.heap.size + 1) (.slice none 0 0) (.slice none 0 0) := BoxW.to ⟨⟨by go_simp, by go_simp⟩, by go_simp, by go_simp⟩ b1
  have S1 : Below w.heap.size w w1 := bel
  clear b1
  obtain ⟨⟨m1, m2⟩, m3, m4⟩ := X1
  have lt1 := lt_of_cell m1
  go_wp2
  exact bodyPost_ret (v := .tuple #[.agg #[.slice none 0 0, .slice none 0 0], .pointer none, .bool false]) (by simp [results, Tryz.results36, go_sem, m1, m2]) rfl ⟨rfl, (S1.setCell (by simp) _).setCell (by simp) _⟩
 | true =>
  rw [hv, Bool.true_and] at hk
  have HV := Lib.hid hv; have HK := Lib.hid hk; clear hv hk
  go_enter Tryz.func36, Tryz.ntmps36
  go_wp2_with fail
  refine (implProgramValid_c (HH.out.below bel)).mono ?_
  rintro e w1 ⟨rfl, b1⟩
  rw [HV.out]
  have X0 : BoxW w1 w.heap.size (.slice A1 p.arrays.length c1) (.slice A2 p.parts.length c2) := BoxW.to ⟨⟨by go_simp, by go_simp⟩, by go_simp, by go_simp⟩ b1
  have X1 : BoxW w1 (w.heap.size + 1) (.slice none 0 0) (.slice none 0 0) := BoxW.to ⟨⟨by go_simp, by go_simp⟩, by go_simp, by go_simp⟩ b1
  have S1 : Below w.heap.size w w1 := bel
  clear b1
  have HX1 := Lib.hid X1; clear X1
  obtain ⟨⟨p1, p2⟩, _, _⟩ := X0
  have lt0 := lt_of_cell p1
  go_wp2_with fail
  refine (isPart_c (HH.out.below S1)).mono ?_
  rintro e w2 ⟨rfl, b2⟩
  rw [HK.out]
  have S2 : Below w.heap.size w w2 := below_tr S1 b2
  obtain ⟨⟨m1, m2⟩, m3, m4⟩ := HX1.out.to b2
  have lt1 := lt_of_cell m1
  clear b2
  go_wp2
  exact bodyPost_ret (v := .tuple #[.agg #[.slice none 0 0, .slice none 0 0], .pointer none, .bool false]) (by simp [results, Tryz.results36, go_sem, m1, m2]) rfl ⟨rfl, (S2.setCell (by simp) _).setCell (by simp) _⟩
theorem begun_y {w : World} {p : Pgm} {k : Nat} {cs : List Value} {bs : List Nat} (h : Rep w p.d cs bs) (hv : progOk p = true) (hk : k < p.parts.length) :
  Calls Tryz.prog 36 #[.agg cs.toArray, .int .i64 (k : Int), .int .i64 (-1)] w (Begun w p k) := by
 have HH := Lib.hid h
 obtain ⟨A1, c1, A2, c2, d1, d2, rfl, rfl, g1, g2⟩ := Rep.pgm_iff.1 h
 clear g1 g2 h
 have HK := Lib.hid (show inB (k : Int) 0 ((p.parts.length : Int) - 1) = true from inB_true (by omega) (by omega))
 have HS := Lib.hid (pgm_sm hv)
 have hpn : p.parts.length ≤ 1000000 := HS.out.2.2.1
 have HV := Lib.hid hv; clear hv
 go_enter Tryz.func36, Tryz.ntmps36
 go_wp2_with fail
 refine (implProgramValid_c (HH.out.below bel)).mono ?_
 rintro e w1 ⟨rfl, b1⟩
 rw [HV.out]
 have X0 : BoxW w1 w.heap.size (.slice A1 p.arrays.length c1) (.slice A2 p.parts.length c2) := BoxW.to ⟨⟨by go_simp, by go_simp⟩, by go_simp, by go_simp⟩ b1
 have X1 : BoxW w1 (w.heap.size + 1) (.slice none 0 0) (.slice none 0 0) := BoxW.to ⟨⟨by go_simp, by go_simp⟩, by go_simp, by go_simp⟩ b1
 have S1 : Below w.heap.size w w1 := bel
 clear b1
 have HX1 := Lib.hid X1; clear X1
 have HX0 := Lib.hid X0
 obtain ⟨⟨p1, p2⟩, _, _⟩ := X0
 have lt0 := lt_of_cell p1
 go_wp2_with fail
 refine (isPart_c (HH.out.below S1)).mono ?_
 rintro e w2 ⟨rfl, b2⟩
 rw [HK.out]
 have S2 : Below w.heap.size w w2 := below_tr S1 b2
 have HY1 := Lib.hid (HX1.out.to b2); clear HX1
 clear p1 p2 lt0
 obtain ⟨⟨p1, p2⟩, _, _⟩ := HX0.out.to b2
 have lt0 := lt_of_cell p1
 clear b2 HX0
 go_wp2_with fail
 refine (own_g (HH.out.below S2) HS.out).mono ?_
 rintro e w3 ⟨A1r, c1r, d1, vv, BB, rfl, r3, nd3, hd3, hG3, hBB, b3⟩
 obtain ⟨bb, c2r, rfl⟩ : ∃ bb c2r, vv = .slice (some ⟨bb, 0, none⟩) p.parts.length c2r := by
  obtain ⟨es, cb, h1, _⟩ := hG3
  rcases h1.2 with ⟨_, h0⟩ | ⟨g, cap, cur, h0, _⟩
  ·omega
  ·exact ⟨g, cap, h0⟩
 obtain ⟨⟨m1, m2⟩, m3, m4⟩ := HY1.out.to b3
 have z1 : w.heap.size + 2 ≤ w2.heap.size := lt_of_cell HY1.out.1.1
 have lt1 := lt_of_cell m1
 have S3 : Below w.heap.size w w3 := below_tr S2 b3
 have hnb : w.heap.size + 1 ∉ d1 := fun hm => by have := (hd3 _ hm).1; omega
 have HY3 := Lib.hid (HY1.out.to b3)
 clear m1 m2 m3 m4
 have R3 := Lib.hid r3
 obtain ⟨w4, hw4⟩ : ∃ w4, w4 = w3.alloc (.cells #[.slice A1r p.arrays.length c1r, .slice (some ⟨bb, 0, none⟩) p.parts.length c2r] 30) := ⟨_, rfl⟩
 have b4 : Below w3.heap.size w3 w4 := by rw [hw4]; exact (Below.refl _ _).alloc (Nat.le_refl _) _
 have Q3 : Box2 w4 w3.heap.size (.slice A1r p.arrays.length c1r) (.slice (some ⟨bb, 0, none⟩) p.parts.length c2r) := by rw [hw4]; exact Box2.new w3 _ _ _
 have Q1 := HY3.out.to b4
 have R4 := Lib.hid (R3.out.below b4)
 have G4 := Lib.hid (hG3.below PrtO.ek b4)
 have HB := Lib.hid (And.intro hd3 hBB)
 have S4 : Below w.heap.size w w4 := below_tr S3 b4
 clear hG3 hd3 hBB nd3
 clear r3 b3 R3 HY3 b4
 go_wp2_with fail
 rw [← hw4]
 clear hw4
 obtain ⟨⟨m1, m2⟩, m3, m4⟩ := Q1
 have lt1 := lt_of_cell m1
 obtain ⟨g, hg⟩ : ∃ g, g = w3.heap.size := ⟨_, rfl⟩
 have hne : w.heap.size + 1 ≠ g := by have := lt_of_cell HY1.out.1.1; have := S3.size; omega
 have hne2 : ¬ g = w.heap.size + 1 := fun h => hne h.symm
 rw [← hg] at Q3 ⊢
 clear hg
 refine wp_region_noPanic ?_
 refine wp_region_held_drew (S := fun w' => Box2 w' g (.slice A1r p.arrays.length c1r) (.slice (some ⟨bb, 0, none⟩) p.parts.length c2r)) (by kernel_rfl) (Q3) (fun hHeld => ?_)
 refine goR 0 hHeld ?_
 refine goR 1 hHeld ?_
 refine goR 2 hHeld ?_
 refine goR 3 hHeld ?_
 refine goR 4 hHeld ?_
 refine stepR (i := 5) rfl (by kernel_rfl) (wanted_none rfl) (fun K hK => ?_)
 (unfold Oper.wp; go_simp)
 refine hK.out _ _ ((Box2.set (Box2.set hHeld (by simp; omega) _) (by simp; omega) _)) (fun hHeld => ?_)
 clear hK K
 try simp only [Act.put, aq0, aq1, aq2]
 refine goR 6 hHeld ?_
 refine goR 7 hHeld ?_
 refine wpAnyH_done (by kernel_rfl) ?_ _
 refine NoPanic.normal ?_
 go_wp2
 exact bodyPost_ret (v := .tuple #[.agg #[.slice A1r p.arrays.length c1r, .slice (some ⟨bb, 0, none⟩) p.parts.length c2r], .pointer (some ⟨bb, k * 2, none⟩), .bool true]) (by simp [results, Tryz.results36, go_sem, m1, m2]) rfl ⟨A1r, c1r, bb, c2r, d1, BB, rfl, Rep.drewN (Rep.keep _ R4.out (((Keeps.refl _ _).setCell hnb _).setCell hnb _)) 1, fun y hy => ⟨by have := (HB.out.1 y hy).1; omega, (HB.out.1 y hy).2⟩, ((G4.out.set_low PrtO.ek (p := ⟨w.heap.size + 1, 0, none⟩) (by have := HB.out.2; simp; omega) _).set_low PrtO.ek (p := ⟨w.heap.size + 1, 1, none⟩) (by have := HB.out.2; simp; omega) _).kept PrtO.ek (Nat.le_refl _) (fun _ _ _ => rfl), by have := HB.out.2; omega, ((S4.setCell (by simp) _).setCell (by simp) _).drew⟩
end Go.Proofs.YtgogjbnneoadkaaGreat
