/- Points of nests: NestPoints of the program. -/
import Derived.Test.YtimocdpfnncnlaaGreatNestPoints
import Derived.Test.YtimocdpfnncnlaaGreatBasic
set_option linter.all false
set_option linter.unusedSimpArgs false
set_option linter.unusedVariables false
namespace Go.Proofs.YtimocdpfnncnlaaGreat
open Go.ChangeShapes Go.WideShapes Go.ChangeAt Go.RowKit Go.Deep

set_option maxRecDepth 100000 in
set_option maxHeartbeats 4000000 in
theorem implNestPoints_c {w : World} {xs : List Lp} {A : Option Addr} {n c : Nat} {bs : List Nat} (h : Rep w (sls Lp.d xs) [.slice A n c] bs) :
    Calls Tryz.prog 96 #[.slice A n c] w (MadePtsB w (NestPointsF xs)) := by
  have HLT := Lib.hid (Rep.lt _ h)
  obtain ⟨rfl, _, _⟩ := h.sls_len
  have H := Lib.hid h; clear h
  cases hv : NestValidF xs with
  | false =>
    rw [NestPointsF_1 hv]
    have HV := Lib.hid hv; clear hv
    go_enter Tryz.func96, Tryz.ntmps96
    go_wp2_with fail
    refine (implNestValid_c H.out).mono ?_
    rintro e w1 ⟨rfl, b1⟩
    rw [HV.out]
    go_wp2
    go_ret2
    exact MadePtsB.of_grow (e := 35) (r := ([], false)) (Grow.nil _ _ _ _) b1
  | true =>
  have hok := nest_ok hv
  have HV := Lib.hid hv; clear hv
  have HOK := Lib.hid hok.2
  have h4 := hok.1; clear hok
  go_enter Tryz.func96, Tryz.ntmps96
  go_wp2_with fail
  refine (implNestValid_c H.out).mono ?_
  rintro e w1 ⟨rfl, b1⟩
  rw [HV.out]
  go_wp2_with fail
  go_at_call 131
  refine (walk_c xs xs [] [] _ A none xs.length c 0 0 bs [] (w1.heap.size + 1) w1.heap.size 0 (.slice none 0 0) [] rfl rfl h4 HOK.out PtB.nil (by omega) (by omega) (by simp) ?h1 (Rep.ints_nil (Nat.zero_le _)) ?h2 ?h3 (by simp)).mono ?_
  case h1 => exact H.out.below (b1.alloc b1.size _)
  case h2 => exact ⟨⟨by go_simp, by go_simp, by go_simp⟩, by go_simp, by go_simp, Grow.nil _ _ _ _, by omega, by simp⟩
  case h3 => exact fun y hy => ⟨fun e => by have := HLT.out y hy; have := b1.size; omega, fun e => by cases e⟩
  rintro e w2 ⟨u2, rfl, hg2, hK2⟩
  have B2 : Below w.heap.size w w2 := (b1.alloc b1.size _).trans (hg2.touch.below (by have := b1.size; simp; omega) (fun y hy => by
    rcases List.mem_cons.1 hy with rfl | hy
    · exact b1.size
    · have := mem_ownL.1 hy; cases this))
  have hz1 := b1.size
  clear hg2 b1
  by_cases hy : (0 : Int) + (cntF xs [] : Int) ≤ 1200 ∧ ([] : List (List Int)).length + (ptsF xs []).length ≤ 120
  · obtain ⟨⟨k0, k1, k2⟩, _, _, hG, _, _⟩ := hK2 hy
    have HR := Lib.hid (NestPointsF_4 HV.out (show cntF xs [] ≤ 1200 by omega) (by simpa using hy.2))
    rw [decide_eq_true hy]
    have HG := Lib.hid (show Grow w2 w.heap.size 35 1 u2 (lls (ptsF xs [])) from hG.more (by omega))
    clear hK2 hy hG
    go_wp2
    go_ret2
    rw [HR.out]
    exact MadePtsB.of_grow (r := (ptsF xs [], true)) HG.out B2
  · rw [decide_eq_false hy]
    have HR := Lib.hid (show NestPointsF xs = ([], false) by
      by_cases hc : cntF xs [] ≤ 1200
      · exact NestPointsF_3 (fun hp => hy ⟨by omega, by simpa using hp⟩)
      · exact NestPointsF_2 hc)
    clear hK2 hy
    go_wp2
    go_ret2
    rw [HR.out]
    exact MadePtsB.of_grow (e := 35) (r := ([], false)) (Grow.nil _ _ _ _) B2

theorem catN_mem {α : Type} {f : Nat → List α} {x : α} : ∀ {m : Nat}, x ∈ catN f m → ∃ k, k < m ∧ x ∈ f k
  | 0, h => by simp [catN] at h
  | m + 1, h => by
    rw [catN] at h
    rcases List.mem_append.1 h with h | h
    · obtain ⟨k, hk, hx⟩ := catN_mem h
      exact ⟨k, by omega, hx⟩
    · exact ⟨m, by omega, h⟩
theorem pts_len : (ls : List Lp) → (p : List Int) → ∀ x ∈ ptsF ls p, x.length = p.length + ls.length
  | [], p, x, h => by rw [ptsF, List.mem_singleton] at h; rw [h]; rfl
  | l :: ls, p, x, h => by
    rw [ptsF] at h
    obtain ⟨k, _, hx⟩ := catN_mem h
    have h5 := pts_len ls _ x hx
    rw [List.length_append, List.length_singleton] at h5
    rw [h5, List.length_cons]; omega
theorem cntI_le {T : Nat} : (xs : List (List Int)) → (∀ x ∈ xs, x.length ≤ T) → cntL cntI xs ≤ xs.length * T
  | [], _ => by simp [cntL]
  | x :: xs, h => by
    have h1 := h x List.mem_cons_self
    have h2 := cntI_le xs fun y hy => h y (List.mem_cons_of_mem _ hy)
    simp only [cntL, cntI, List.length_cons, Nat.add_mul, Nat.one_mul] at h2 ⊢
    omega
theorem NestPointsF_len (xs : List Lp) : cntL cntI (NestPointsF xs).1 ≤ 1000000 := by
  unfold NestPointsF
  split
  · rename_i h
    simp only [Bool.and_eq_true, decide_eq_true_iff] at h
    have h4 := (nest_ok h.1).1
    have := cntI_le (T := 4) (ptsF xs []) fun x hx => by have h5 := pts_len xs [] x hx; simp only [List.length_nil] at h5; omega
    have := h.2.2
    show cntL cntI (ptsF xs []) ≤ 1000000
    omega
  · simp [cntL]
end Go.Proofs.YtimocdpfnncnlaaGreat
