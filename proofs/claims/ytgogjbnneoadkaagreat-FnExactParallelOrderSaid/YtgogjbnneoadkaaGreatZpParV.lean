/- Iterations that are chosen, in plain Lean. -/
import Derived.Test.YtgogjbnneoadkaaGreatZpDeps1
import Derived.Test.YtgogjbnneoadkaaGreatZpActs
import Derived.Test.YtgogjbnneoadkaaGreatZpWaveV
import Derived.Test.YtgogjbnneoadkaaGreatZpDelA
/- Levels of instances, on both sides; LevelsOf, CriticalLength. -/
set_option linter.all false
set_option linter.unusedSimpArgs false
set_option linter.unusedVariables false
namespace Go.Proofs.YtgogjbnneoadkaaGreat
open Go.ChangeShapes Go.WideShapes Go.ChangeAt Go.RowKit Go.Deep

end Go.Proofs.YtgogjbnneoadkaaGreat

/- Results of the laws on dependences and instances, in the form that the laws' walks ask for. -/
namespace Go.Proofs.YtgogjbnneoadkaaGreat
open Go.ChangeShapes Go.WideShapes Go.ChangeAt Go.RowKit Go.Deep

end Go.Proofs.YtgogjbnneoadkaaGreat
set_option linter.all false
set_option linter.unusedSimpArgs false
set_option linter.unusedVariables false
namespace Go.Proofs.YtgogjbnneoadkaaGreat
open Go.ChangeShapes Go.WideShapes Go.ChangeAt Go.RowKit Go.Deep

theorem choiceF_nil (m k : Nat) : choiceF [] m k = 0 := by unfold choiceF; rw [if_pos rfl]
theorem choiceF_some {ch : List Int} (h : 0 < ch.length) (m k : Nat) : choiceF ch m k = max 0 (Int.tmod (gi ch (m % ch.length)) (k : Int)) := by
  unfold choiceF; rw [if_neg (fun e => by rw [e] at h; simp at h)]
theorem choice_c {w : World} {ch : List Int} {A : Option Addr} {n c m k : Nat} {bs : List Nat} (h : Rep w (ints ch) [.slice A n c] bs) (hm : m ≤ 1000000) (hk : 0 < k) (hk2 : k ≤ 1000000) :
    Calls Tryz.prog 67 #[.slice A n c, .int .i64 (m : Int), .int .i64 (k : Int)] w fun e w' => e = .returned (.int .i64 (choiceF ch m k)) ∧ w = w' := by
  obtain ⟨rfl, h1, h2⟩ := h.ints_len
  have hn : ch.length ≤ 9223372036854775807 := Nat.le_trans h1 h2
  clear h1 h2
  by_cases h0 : ch.length = 0
  · have HX := Lib.hid (show choiceF ch m k = 0 by rw [List.length_eq_zero_iff.1 h0]; exact choiceF_nil m k)
    rw [h0]
    clear h0 hn
    go_enter Tryz.func67, Tryz.ntmps67
    go_wp2
    go_ret
    exact ⟨ret_int HX.out.symm, rfl⟩
  · have hp : 0 < ch.length := by omega
    have HX := Lib.hid (choiceF_some hp m k)
    have hlt := Nat.mod_lt m hp
    obtain ⟨b, o, rfl, _, hbl, hc, _⟩ := h.ints_at hlt
    have hfit := h.gi_fit (m % ch.length)
    unfold I64 at hfit
    have e1 : (m : Int) % (ch.length : Int) = ((m % ch.length : Nat) : Int) := rfl
    obtain ⟨r, hr⟩ : ∃ r, r = m % ch.length := ⟨_, rfl⟩
    rw [← hr] at hc hlt hfit e1 HX
    obtain ⟨v, hv⟩ : ∃ v, v = gi ch r := ⟨_, rfl⟩
    rw [← hv] at hc hfit HX
    have q0 : ((ch.length : Int) == 0) = false := ieq_f (by omega)
    have hb1 := Int.tmod_lt_of_pos v (show (0 : Int) < (k : Int) by omega)
    have hb2 : -(k : Int) < Int.tmod v (k : Int) := by
      have := Int.tmod_lt_of_pos (-v) (show (0 : Int) < (k : Int) by omega)
      rw [Int.neg_tmod] at this; omega
    clear hr hv h
    go_enter Tryz.func67, Tryz.ntmps67
    go_wp2
    go_ret
    exact ⟨ret_int HX.out.symm, rfl⟩
theorem l7Choice_c {w : World} {ch : List Int} {A : Option Addr} {n c m k : Nat} {bs : List Nat} (h : Rep w (ints ch) [.slice A n c] bs) (hm : m ≤ 1000000) (hk : 0 < k) (hk2 : k ≤ 1000000) :
    Calls Tryz.prog 63 #[.slice A n c, .int .i64 (m : Int), .int .i64 (k : Int)] w fun e w' => e = .returned (.int .i64 (choiceF ch m k)) ∧ w = w' := by
  obtain ⟨rfl, h1, h2⟩ := h.ints_len
  have hn : ch.length ≤ 9223372036854775807 := Nat.le_trans h1 h2
  clear h1 h2
  by_cases h0 : ch.length = 0
  · have HX := Lib.hid (show choiceF ch m k = 0 by rw [List.length_eq_zero_iff.1 h0]; exact choiceF_nil m k)
    rw [h0]
    clear h0 hn
    go_enter Tryz.func63, Tryz.ntmps63
    go_wp2
    go_ret
    exact ⟨ret_int HX.out.symm, rfl⟩
  · have hp : 0 < ch.length := by omega
    have HX := Lib.hid (choiceF_some hp m k)
    have hlt := Nat.mod_lt m hp
    obtain ⟨b, o, rfl, _, hbl, hc, _⟩ := h.ints_at hlt
    have hfit := h.gi_fit (m % ch.length)
    unfold I64 at hfit
    have e1 : (m : Int) % (ch.length : Int) = ((m % ch.length : Nat) : Int) := rfl
    obtain ⟨r, hr⟩ : ∃ r, r = m % ch.length := ⟨_, rfl⟩
    rw [← hr] at hc hlt hfit e1 HX
    obtain ⟨v, hv⟩ : ∃ v, v = gi ch r := ⟨_, rfl⟩
    rw [← hv] at hc hfit HX
    have q0 : ((ch.length : Int) == 0) = false := ieq_f (by omega)
    have hb1 := Int.tmod_lt_of_pos v (show (0 : Int) < (k : Int) by omega)
    have hb2 : -(k : Int) < Int.tmod v (k : Int) := by
      have := Int.tmod_lt_of_pos (-v) (show (0 : Int) < (k : Int) by omega)
      rw [Int.neg_tmod] at this; omega
    clear hr hv h
    by_cases hneg : Int.tmod v (k : Int) < 0
    · have HY := Lib.hid (HX.out.trans (show max 0 (Int.tmod v (k : Int)) = 0 by omega))
      go_enter Tryz.func63, Tryz.ntmps63
      go_wp2
      go_ret
      exact ⟨ret_int HY.out.symm, rfl⟩
    · have HY := Lib.hid (HX.out.trans (show max 0 (Int.tmod v (k : Int)) = Int.tmod v (k : Int) by omega))
      go_enter Tryz.func63, Tryz.ntmps63
      go_wp2
      go_ret
      exact ⟨ret_int HY.out.symm, rfl⟩
end Go.Proofs.YtgogjbnneoadkaaGreat
set_option linter.all false
set_option linter.unusedSimpArgs false
set_option linter.unusedVariables false
namespace Go.Proofs.YtgogjbnneoadkaaGreat
open Go.ChangeShapes Go.WideShapes Go.ChangeAt Go.RowKit Go.Deep

/-- lists taken by choices, from the n-th choice on -/
def parA {α : Type} (ch : List Int) : Nat → Nat → List (List α) → List α
  | 0, _, _ => []
  | m + 1, n, gs => gs.getD (choiceF ch n gs.length).toNat [] ++ parA ch m (n + 1) (gs.eraseIdx (choiceF ch n gs.length).toNat)
theorem eraseIdx_map' {α β : Type} (f : α → β) : ∀ (l : List α) (k : Nat), (l.map f).eraseIdx k = (l.eraseIdx k).map f
  | [], _ => rfl
  | _ :: l, 0 => rfl
  | a :: l, k + 1 => by simp only [List.map_cons, List.eraseIdx_cons_succ, eraseIdx_map' f l k]
theorem parA_toI (ch : List Int) : ∀ m n (gs : List (List Nat)), parA ch m n (gs.map toI) = toI (parN ch m n gs)
  | 0, _, _ => rfl
  | m + 1, n, gs => by
    simp only [parA, parN]
    rw [List.length_map, eraseIdx_map', parA_toI ch m (n + 1), toI_append]
    congr 1
    rw [List.getD_eq_getElem?_getD, List.getD_eq_getElem?_getD, List.getElem?_map]
    cases gs[(choiceF ch n gs.length).toNat]? <;> rfl
/-- how many lists the groups ahead have -/
def cntG {α : Type} (G : List (List α)) (j : Nat) : Nat := ((G.take j).map List.length).sum
theorem cntG_succ {α : Type} {G : List (List α)} {j : Nat} (h : j < G.length) : cntG G (j + 1) = cntG G j + G[j].length := by
  unfold cntG; rw [List.take_succ_eq_append_getElem h, List.map_append, List.sum_append]; simp
theorem cntG_zero {α : Type} (G : List (List α)) : cntG G 0 = 0 := rfl
theorem cntG_cons {α : Type} (g : List α) (G : List (List α)) (j : Nat) : cntG (g :: G) (j + 1) = g.length + cntG G j := by
  unfold cntG; simp
theorem cntG_flat {α : Type} : ∀ (G : List (List (List α))) (j : Nat), cntG G j ≤ G.flatten.length
  | [], j => by simp [cntG]
  | g :: G, 0 => by simp [cntG]
  | g :: G, j + 1 => by
    rw [cntG_cons, List.flatten_cons, List.length_append]
    have := cntG_flat G j
    omega
theorem parG_range (ch : List Int) : ∀ (G : List (List (List Nat))) (n : Nat), toI (parG ch n G) = (List.range G.length).flatMap fun j => parA ch ((toI3 G).getD j []).length (n + cntG (toI3 G) j) ((toI3 G).getD j [])
  | [], _ => rfl
  | g :: G, n => by
    rw [parG, toI_append, parG_range ch G (n + g.length), List.length_cons, List.range_succ_eq_map, List.flatMap_cons, List.flatMap_map]
    have e0 : (toI3 (g :: G)).getD 0 [] = g.map toI := rfl
    rw [e0, cntG_zero, Nat.add_zero, parA_toI, List.length_map]
    congr 1
    congr 1
    funext j
    have e1 : (toI3 (g :: G)).getD (j + 1) [] = (toI3 G).getD j [] := rfl
    have e2 : cntG (toI3 (g :: G)) (j + 1) = g.length + cntG (toI3 G) j := by
      have := cntG_cons (g.map toI) (toI3 G) j
      rw [List.length_map] at this
      exact this
    show parA _ _ _ _ = parA _ ((toI3 (g :: G)).getD (j + 1) []).length (n + cntG (toI3 (g :: G)) (j + 1)) ((toI3 (g :: G)).getD (j + 1) [])
    rw [e1, e2, Nat.add_assoc]
theorem par_ord (p : Pgm) (k m : Int) (ch : List Int) : ordF p k m (fun j => parA ch ((toI3 (grpsF (instsF p) k.toNat m.toNat)).getD j []).length (cntG (toI3 (grpsF (instsF p) k.toNat m.toNat)) j) ((toI3 (grpsF (instsF p) k.toNat m.toNat)).getD j [])) = ParallelOrderF p k m ch := by
  unfold ordF ParallelOrderF aroundF
  split
  · congr 1
    rw [toI_append, toI_append, parG_range]
    simp only [Nat.zero_add]
  · rfl
theorem erase_len {α : Type} {gs : List (List α)} {k : Nat} (h : k < gs.length) : (gs.eraseIdx k).flatten.length + gs[k].length = gs.flatten.length := by
  rw [List.eraseIdx_eq_take_drop_succ, List.flatten_append, List.length_append]
  conv => rhs; rw [← List.take_append_drop k gs, ← List.getElem_cons_drop h, List.flatten_append, List.length_append, List.flatten_cons, List.length_append]
  omega
theorem choice_lt (ch : List Int) (n : Nat) {m : Nat} (h : 0 < m) : ∃ k : Nat, choiceF ch n m = (k : Int) ∧ k < m := by
  have hb := choiceF_bd ch n h
  obtain ⟨k, hk⟩ := Int.eq_ofNat_of_zero_le hb.1
  exact ⟨k, hk, by omega⟩
theorem parA_step {α : Type} (ch : List Int) {n k : Nat} {gs : List (List α)} (hk : k < gs.length) (hc : choiceF ch n gs.length = (k : Int)) : parA ch gs.length n gs = gs[k] ++ parA ch (gs.eraseIdx k).length (n + 1) (gs.eraseIdx k) := by
  have e : gs.length = (gs.eraseIdx k).length + 1 := by rw [List.length_eraseIdx]; split <;> omega
  conv => lhs; rw [e]
  rw [parA, hc, Int.toNat_natCast, List.getD_eq_getElem?_getD, List.getElem?_eq_getElem hk]
  rfl
theorem parA_len {α : Type} (ch : List Int) : ∀ (m n : Nat) (gs : List (List α)), m = gs.length → (parA ch m n gs).length = gs.flatten.length
  | 0, _, gs, h => by rw [List.length_eq_zero_iff.1 h.symm]; rfl
  | m + 1, n, gs, h => by
    obtain ⟨k, hc, hk⟩ := choice_lt ch n (m := gs.length) (by omega)
    have e : m = (gs.eraseIdx k).length := by rw [List.length_eraseIdx]; split <;> omega
    rw [h, parA_step ch hk hc, List.length_append, ← e, parA_len ch m (n + 1) (gs.eraseIdx k) e]
    have := erase_len hk
    omega
theorem par_flat {p : Pgm} {k m : Int} (ch : List Int) (hv : progOk p = true) (hl : loopThere p k m) (j : Nat) (hj : j ≤ (grpsF (instsF p) k.toNat m.toNat).length) :
    ((List.range j).flatMap fun j => parA ch ((toI3 (grpsF (instsF p) k.toNat m.toNat)).getD j []).length (cntG (toI3 (grpsF (instsF p) k.toNat m.toNat)) j) ((toI3 (grpsF (instsF p) k.toNat m.toNat)).getD j [])).length ≤ 120 := by
  obtain ⟨q, r, hq, rfl, rfl, hr⟩ := loop_there hl
  rw [Int.toNat_natCast, Int.toNat_natCast] at hj ⊢
  refine flat_grp (grpsF_ok hv hq r) (fun i hi => ?_) j hj
  show (parA ch ((toI3 (grpsF (instsF p) q r)).getD i []).length _ ((toI3 (grpsF (instsF p) q r)).getD i [])).length ≤ _
  rw [parA_len _ _ _ _ rfl, toI3_get hi, mapI_flat]
  exact Nat.le_refl _
theorem ParallelOrderF_len (p : Pgm) (k m : Int) (ch : List Int) : (ParallelOrderF p k m ch).1.length ≤ 1000000 := by
  rw [← par_ord]
  exact ordF_len fun j hv hl hj => par_flat ch hv hl j hj
theorem Grow.tch {w w' : World} {B : Nat} {e : TypeId} {v : Value} {xs : List Int} {g : Nat} (h : Grow w B e 1 v (xs.map D.int)) (t : Touch [g] w w') (hn : v.ownBlock ≠ some g) : Grow w' B e 1 v (xs.map D.int) := by
  have hl := h.own_ge
  obtain ⟨es, cb, h1, h2, h3, h4, h5⟩ := h
  have hcb := Reps.plain xs h2
  subst hcb
  exact ⟨es, [], own_kept1 h1 fun y hy => t.block y (hl y hy).2 fun hm => hn (by rw [hy]; simpa using hm), Reps.keep _ h2 ⟨t.size, by simp⟩, h3, by simp, by simp⟩
end Go.Proofs.YtgogjbnneoadkaaGreat
