/- Programs in plain Lean: which are valid, their instances, what the instances touch. -/
import Derived.Test.YtbhniobgaoncaaaGreatDoorZpNestPoints
import Derived.Test.YtbhniobgaoncaaaGreatDoorZpBasic
import Derived.Test.YtbhniobgaoncaaaGreatDoorZpCells
import Derived.Test.YtbhniobgaoncaaaGreatDoorZpTyProgram
set_option linter.all false
set_option linter.unusedSimpArgs false
set_option linter.unusedVariables false
namespace Go.Proofs.YtbhniobgaoncaaaGreatDoor
open Go.ChangeShapes Go.WideShapes Go.ChangeAt Go.RowKit Go.Deep

set_option maxRecDepth 100000 in
set_option maxHeartbeats 4000000 in
theorem implNestPoints_c {w : World} {xs : List Lp} {A : Option Addr} {n c : Nat} {bs : List Nat} (h : Rep w (sls Lp.d xs) [.slice A n c] bs) :
    Calls Tryz.prog 128 #[.slice A n c] w (MadePtsB w (NestPointsF xs)) := by
  have HLT := Lib.hid (Rep.lt _ h)
  obtain ⟨rfl, _, _⟩ := h.sls_len
  have H := Lib.hid h; clear h
  cases hv : NestValidF xs with
  | false =>
    rw [NestPointsF_1 hv]
    have HV := Lib.hid hv; clear hv
    go_enter Tryz.func128, Tryz.ntmps128
    go_wp2_with fail
    refine (implNestValid_c H.out).mono ?_
    rintro e w1 ⟨rfl, b1⟩
    rw [HV.out]
    go_wp2
    go_ret2
    exact MadePtsB.of_grow (e := 44) (r := ([], false)) (Grow.nil _ _ _ _) b1
  | true =>
  have hok := nest_ok hv
  have HV := Lib.hid hv; clear hv
  have HOK := Lib.hid hok.2
  have h4 := hok.1; clear hok
  go_enter Tryz.func128, Tryz.ntmps128
  go_wp2_with fail
  refine (implNestValid_c H.out).mono ?_
  rintro e w1 ⟨rfl, b1⟩
  rw [HV.out]
  go_wp2_with fail
  go_at_call 178
  refine (walk_c xs xs [] [] _ A none xs.length c 0 0 bs [] (w1.heap.size + 1) w1.heap.size 0 (.slice none 0 0) [] rfl rfl h4 HOK.out PtB.nil (by omega) (by omega) (by simp) ?h1 (Rep.ints_nil (Nat.zero_le _)) ?h2 ?h3 (by simp)).mono ?_
  case h1 => exact H.out.below (b1.alloc b1.size _)
  case h2 => exact ⟨⟨by go_simp, by go_simp, by go_simp⟩, by go_simp, by go_simp, Grow.nil _ _ _ _, by omega, by simp⟩
  case h3 => exact fun y hy => ⟨fun e => by have := HLT.out y hy; have := b1.size; omega, fun e => by cases e⟩
  rintro e w2 ⟨u2, rfl, hg2, hK2⟩
  have B2 : Below w.heap.size w w2 := (b1.alloc b1.size _).trans (hg2.touch.below (by have := b1.size; simp; omega) (fun y hy => by
    rcases List.mem_cons.1 hy with rfl | hy
    · exact b1.size
    · have := mem_ownL.1 hy; cases this))
  have hz1 := b1.size
  clear hg2 b1
  by_cases hy : (0 : Int) + (cntF xs [] : Int) ≤ 1200 ∧ ([] : List (List Int)).length + (ptsF xs []).length ≤ 120
  · obtain ⟨⟨k0, k1, k2⟩, _, _, hG, _, _⟩ := hK2 hy
    have HR := Lib.hid (NestPointsF_4 HV.out (show cntF xs [] ≤ 1200 by omega) (by simpa using hy.2))
    rw [decide_eq_true hy]
    have HG := Lib.hid (show Grow w2 w.heap.size 44 1 u2 (lls (ptsF xs [])) from hG.more (by omega))
    clear hK2 hy hG
    go_wp2
    go_ret2
    rw [HR.out]
    exact MadePtsB.of_grow (r := (ptsF xs [], true)) HG.out B2
  · rw [decide_eq_false hy]
    have HR := Lib.hid (show NestPointsF xs = ([], false) by
      by_cases hc : cntF xs [] ≤ 1200
      · exact NestPointsF_3 (fun hp => hy ⟨by omega, by simpa using hp⟩)
      · exact NestPointsF_2 hc)
    clear hK2 hy
    go_wp2
    go_ret2
    rw [HR.out]
    exact MadePtsB.of_grow (e := 44) (r := ([], false)) (Grow.nil _ _ _ _) B2

theorem catN_mem {α : Type} {f : Nat → List α} {x : α} : ∀ {m : Nat}, x ∈ catN f m → ∃ k, k < m ∧ x ∈ f k
  | 0, h => by simp [catN] at h
  | m + 1, h => by
    rw [catN] at h
    rcases List.mem_append.1 h with h | h
    · obtain ⟨k, hk, hx⟩ := catN_mem h
      exact ⟨k, by omega, hx⟩
    · exact ⟨m, by omega, h⟩
theorem pts_len : (ls : List Lp) → (p : List Int) → ∀ x ∈ ptsF ls p, x.length = p.length + ls.length
  | [], p, x, h => by rw [ptsF, List.mem_singleton] at h; rw [h]; rfl
  | l :: ls, p, x, h => by
    rw [ptsF] at h
    obtain ⟨k, _, hx⟩ := catN_mem h
    have h5 := pts_len ls _ x hx
    rw [List.length_append, List.length_singleton] at h5
    rw [h5, List.length_cons]; omega
end Go.Proofs.YtbhniobgaoncaaaGreatDoor
set_option linter.all false
set_option linter.unusedSimpArgs false
set_option linter.unusedVariables false
namespace Go.Proofs.YtbhniobgaoncaaaGreatDoor
open Go.ChangeShapes Go.WideShapes Go.ChangeAt Go.RowKit Go.Deep

/-- all accesses of a statement denote elements at a point -/
def fineS (xs : List Ar) (q : List Int) (s : Stm) : Bool := decide (0 ≤ cellF xs s.write q) && !(readsF s.value).any (fun a => decide (cellF xs a q < 0))
/-- the cells that a statement reads at a point -/
def rdF (xs : List Ar) (q : List Int) (s : Stm) : List Int := (readsF s.value).map (fun a => cellF xs a q)
def wrF (xs : List Ar) (q : List Int) (s : Stm) : Int := cellF xs s.write q
/-- what l4Cells answers -/
def CellsF (xs : List Ar) (q : List Int) (s : Stm) : List Int × Int × Bool := if fineS xs q s then (rdF xs q s, wrF xs q s, true) else ([], 0, false)
def ptsOf (x : Prt) : List (List Int) := ptsF x.nest []
def stmOk (x : Prt) (s : Stm) : Bool := StmtValidF s (x.nest.length : Int)
def bodyOk (x : Prt) : Bool := inB (x.body.length : Int) 1 4 && x.body.all (stmOk x)
def ptFine (xs : List Ar) (x : Prt) (q : List Int) : Bool := ptOk q && x.body.all (fineS xs q)
def partOk (xs : List Ar) (x : Prt) : Bool := (NestPointsF x.nest).2 && (bodyOk x && (ptsOf x).all (ptFine xs x))
/-- the instances of a statement list at a point -/
def instsQ (k : Int) (n : Nat) (q : List Int) : List In := (List.range n).map fun (s : Nat) => ⟨k, (s : Int), q⟩
def instsP (k : Int) (x : Prt) : List In := (ptsOf x).flatMap (instsQ k x.body.length)
def instsFrom : List Prt → Int → List In
  | [], _ => []
  | x :: xs, k => instsP k x ++ instsFrom xs (k + 1)
def instsF (p : Pgm) : List In := instsFrom p.parts 0
def progBase (p : Pgm) : Bool := arrsOk p.arrays && decide (p.parts.length ≤ 4)
def progOk (p : Pgm) : Bool := progBase p && (p.parts.all (partOk p.arrays) && decide ((instsF p).length ≤ 120))

theorem instsQ_len (k : Int) (n : Nat) (q : List Int) : (instsQ k n q).length = n := by simp [instsQ]
theorem instsQ_succ (k : Int) (n : Nat) (q : List Int) : instsQ k (n + 1) q = instsQ k n q ++ [⟨k, (n : Int), q⟩] := by simp [instsQ, List.range_succ]
theorem flat_take {α β : Type} (f : α → List β) (xs : List α) (j : Nat) (h : j < xs.length) : (xs.take (j + 1)).flatMap f = (xs.take j).flatMap f ++ f xs[j] := by
  rw [List.take_succ_eq_append_getElem h, List.flatMap_append]; simp
theorem flat_len {α β : Type} {f : α → List β} {n : Nat} : (xs : List α) → (∀ x ∈ xs, (f x).length = n) → (xs.flatMap f).length = xs.length * n
  | [], _ => by simp
  | x :: xs, h => by
    rw [List.flatMap_cons, List.length_append, h x List.mem_cons_self, flat_len xs fun y hy => h y (List.mem_cons_of_mem _ hy), List.length_cons, Nat.add_mul]; omega
theorem instsP_len (k : Int) (x : Prt) : (instsP k x).length = (ptsOf x).length * x.body.length := flat_len _ fun _ _ => instsQ_len _ _ _
theorem instsFrom_append : (xs ys : List Prt) → (k : Int) → instsFrom (xs ++ ys) k = instsFrom xs k ++ instsFrom ys (k + xs.length)
  | [], ys, k => by simp [instsFrom]
  | x :: xs, ys, k => by
    rw [List.cons_append, instsFrom, instsFrom_append xs ys, instsFrom, List.append_assoc, List.length_cons]
    rw [show k + 1 + (xs.length : Int) = k + ((xs.length + 1 : Nat) : Int) by omega]
theorem instsFrom_take {xs : List Prt} {j : Nat} (h : j < xs.length) : instsFrom (xs.take (j + 1)) 0 = instsFrom (xs.take j) 0 ++ instsP (j : Int) xs[j] := by
  rw [List.take_succ_eq_append_getElem h, instsFrom_append]
  simp only [instsFrom, List.append_nil, List.length_take]
  rw [show (0 : Int) + ((min j xs.length : Nat) : Int) = (j : Int) by omega]
/-- points of a valid nest -/
theorem pts_ptB : (ls : List Lp) → (p : List Int) → (∀ l ∈ ls, LpOk l) → PtB p → ∀ x ∈ ptsF ls p, PtB x
  | [], p, _, hp, x, h => by rw [ptsF, List.mem_singleton] at h; rw [h]; exact hp
  | l :: ls, p, hl, hp, x, h => by
    rw [ptsF] at h
    obtain ⟨k, hk, hx⟩ := catN_mem h
    exact pts_ptB ls _ (fun y hy => hl y (List.mem_cons_of_mem _ hy)) ((hl l List.mem_cons_self).next hp hk) x hx
theorem pts_ok {xs : List Lp} (h : NestValidF xs = true) : ∀ q ∈ ptsF xs [], PtB q ∧ q.length = xs.length ∧ q.length ≤ 4 := by
  intro q hq
  have h1 := nest_ok h
  have h2 := pts_len xs [] q hq
  simp only [List.length_nil, Nat.zero_add] at h2
  exact ⟨pts_ptB xs [] h1.2 PtB.nil q hq, h2, by omega⟩
theorem npF_ok {xs : List Lp} (h : (NestPointsF xs).2 = true) : NestValidF xs = true ∧ cntF xs [] ≤ 1200 ∧ (ptsF xs []).length ≤ 120 ∧ (NestPointsF xs).1 = ptsF xs [] := by
  unfold NestPointsF at h ⊢
  split at h
  · rename_i hc
    rw [if_pos hc]
    simp only [Bool.and_eq_true, decide_eq_true_iff] at hc
    exact ⟨hc.1, hc.2.1, hc.2.2, rfl⟩
  · cases h
/-- points at which eval neither wraps nor panics -/
def PtS (q : List Int) : Prop := ∀ a, affOk a = true → EvBd a q
theorem PtS.of_B {q : List Int} (h : PtB q) (hl : q.length ≤ 4) : PtS q := fun _ ha => h.evBd ha hl
theorem all_swap {α β : Type} (f : α → β → Bool) (xs : List α) (ys : List β) : xs.all (fun x => ys.all (f x)) = ys.all (fun y => xs.all (fun x => f x y)) := by
  rw [Bool.eq_iff_iff]
  simp only [List.all_eq_true]
  exact ⟨fun h y hy x hx => h x hx y hy, fun h x hx y hy => h y hy x hx⟩
/-- the reference's order of looking -/
def stmPts (xs : List Ar) (x : Prt) (s : Stm) : Bool := stmOk x s && (ptsOf x).all (fun q => fineS xs q s && ptOk q)
theorem partOk_eq (xs : List Ar) (x : Prt) : partOk xs x = ((NestPointsF x.nest).2 && (inB (x.body.length : Int) 1 4 && x.body.all (stmPts xs x))) := by
  unfold partOk bodyOk
  cases (NestPointsF x.nest).2 with
  | false => rfl
  | true =>
  by_cases h : inB (x.body.length : Int) 1 4 = true
  · have h1 := inB_iff.1 h
    rw [h, Bool.true_and, Bool.true_and, Bool.true_and, Bool.true_and, Bool.eq_iff_iff]
    simp only [Bool.and_eq_true, List.all_eq_true, stmPts, ptFine]
    constructor
    · rintro ⟨h2, h3⟩ s hs
      exact ⟨h2 s hs, fun q hq => ⟨(h3 q hq).2 s hs, (h3 q hq).1⟩⟩
    · intro h2
      refine ⟨fun s hs => (h2 s hs).1, fun q hq => ⟨?_, fun s hs => ((h2 s hs).2 q hq).1⟩⟩
      have h0 : 0 < x.body.length := by omega
      exact ((h2 x.body[0] (List.getElem_mem h0)).2 q hq).2
  · simp only [Bool.not_eq_true] at h
    simp [h]
/-- how many instances a list of parts has -/
def totTo (xs : List Prt) (j : Nat) : Nat := (instsFrom (xs.take j) 0).length
theorem totTo_succ {xs : List Prt} {j : Nat} (h : j < xs.length) : totTo xs (j + 1) = totTo xs j + (ptsOf xs[j]).length * xs[j].body.length := by
  unfold totTo; rw [instsFrom_take h, List.length_append, instsP_len]
theorem totTo_zero (xs : List Prt) : totTo xs 0 = 0 := by simp [totTo, instsFrom]
theorem totTo_all (xs : List Prt) : totTo xs xs.length = (instsFrom xs 0).length := by simp [totTo]
theorem partOk_len {xs : List Ar} {x : Prt} (h : partOk xs x = true) : (ptsOf x).length ≤ 120 ∧ 1 ≤ x.body.length ∧ x.body.length ≤ 4 := by
  simp only [partOk, bodyOk, Bool.and_eq_true] at h
  have h1 := npF_ok h.1
  have h2 := inB_iff.1 h.2.1.1
  exact ⟨h1.2.2.1, by omega, by omega⟩
theorem part_len {xs : List Ar} {x : Prt} (h : partOk xs x = true) : (ptsOf x).length * x.body.length ≤ 480 := by
  obtain ⟨h1, _, h2⟩ := partOk_len h
  have := Nat.mul_le_mul h1 h2
  omega
end Go.Proofs.YtbhniobgaoncaaaGreatDoor
