/- AffineSame and LexLess: the reference's and the program's. -/
import Derived.Test.YtgogjbnneoadkaaGreatZpAround
import Derived.Test.YtgogjbnneoadkaaGreatZpBasic
set_option linter.all false
set_option linter.unusedSimpArgs false
set_option linter.unusedVariables false
namespace Go.Proofs.YtgogjbnneoadkaaGreat
open Go.ChangeShapes Go.WideShapes Go.ChangeAt Go.RowKit Go.Deep

theorem toI_append (a b : List Nat) : toI (a ++ b) = toI a ++ toI b := by unfold toI; rw [List.map_append]
theorem toI3_ok {G : List (List (List Nat))} (h : GrpsOk G) : (toI3 G).length ≤ 120 ∧ ∀ j (hj : j < (toI3 G).length), (toI3 G)[j].length ≤ 120 ∧ ∀ l ∈ (toI3 G)[j], l.length ≤ 120 := by
  refine ⟨by rw [toI3_len]; exact h.len.2, fun j hj => ?_⟩
  have hj2 : j < G.length := by rwa [toI3_len] at hj
  have e : (toI3 G)[j] = G[j].map toI := by simp [toI3]
  have h1 := h.grp (List.getElem_mem hj2)
  rw [e]
  refine ⟨by rw [List.length_map]; exact h1.2.1, fun l hl => ?_⟩
  obtain ⟨l0, hl0, rfl⟩ := List.mem_map.1 hl
  rw [toI_len]; exact h1.2.2 l0 hl0
theorem loop_there {p : Pgm} {k m : Int} (h : loopThere p k m) : ∃ (q r : Nat) (hq : q < p.parts.length), k = (q : Int) ∧ m = (r : Int) ∧ r < p.parts[q].nest.length := by
  obtain ⟨⟨h1, h2⟩, h3, h4⟩ := h
  obtain ⟨q, rfl⟩ := Int.eq_ofNat_of_zero_le h1
  obtain ⟨r, rfl⟩ := Int.eq_ofNat_of_zero_le h3
  have hq : q < p.parts.length := by omega
  have e1 : (p.parts.getD (q : Int).toNat ⟨[], []⟩).nest.length = p.parts[q].nest.length := by simp [List.getD_eq_getElem?_getD, hq]
  rw [e1] at h4
  exact ⟨q, r, hq, rfl, rfl, by omega⟩
theorem flat_grp {F : Nat → List Int} {G : List (List (List Nat))} (hG : GrpsOk G) (h : ∀ i (hi : i < G.length), (F i).length ≤ G[i].flatten.length) (j : Nat) (hj : j ≤ G.length) : ((List.range j).flatMap F).length ≤ 120 := by
  have key : ∀ j, j ≤ G.length → ((List.range j).flatMap F).length ≤ (G.take j).flatten.flatten.length := fun j => by
    induction j with
    | zero => simp
    | succ j ih =>
      intro hj
      rw [List.range_succ, List.flatMap_append, List.length_append, List.take_succ_eq_append_getElem (by omega), List.flatten_append, List.flatten_append, List.length_append]
      have h1 := ih (by omega)
      have h2 := h j (by omega)
      simp only [List.flatMap_cons, List.flatMap_nil, List.append_nil, List.flatten_cons, List.flatten_nil]
      omega
  have h1 := (flat_sub (flat_sub (List.take_sublist j G))).length_le
  exact Nat.le_trans (key j hj) (Nat.le_trans h1 hG.n)
theorem toI3_get {G : List (List (List Nat))} {j : Nat} (h : j < G.length) : (toI3 G).getD j [] = G[j].map toI := by
  rw [List.getD_eq_getElem?_getD, List.getElem?_eq_getElem (by rw [toI3_len]; exact h)]
  simp [toI3]
theorem mapI_flat (g : List (List Nat)) : (g.map toI).flatten.length = g.flatten.length := by
  induction g with
  | nil => rfl
  | cons l g ih => rw [List.map_cons, List.flatten_cons, List.flatten_cons, List.length_append, List.length_append, ih, toI_len]
theorem ordF_len {p : Pgm} {k m : Int} {F : Nat → List Int} (h : ∀ j, progOk p = true → loopThere p k m → j ≤ (grpsF (instsF p) k.toNat m.toNat).length → ((List.range j).flatMap F).length ≤ 120) : (ordF p k m F).1.length ≤ 1000000 := by
  unfold ordF
  split
  · rename_i hh
    have h1 := h _ hh.1 hh.2 (Nat.le_refl _)
    have h2 := progOk_insts hh.1
    have h3 := ixTo_len (instsF p) (fun a => decide (a.part < (k.toNat : Int))) (instsF p).length
    have h4 := ixTo_len (instsF p) (fun a => decide ((k.toNat : Int) < a.part)) (instsF p).length
    rw [ixTo_all] at h3 h4
    simp only [List.length_append, toI_len]
    unfold befF aftF
    omega
  · simp
end Go.Proofs.YtgogjbnneoadkaaGreat
set_option linter.all false
set_option linter.unusedSimpArgs false
set_option linter.unusedVariables false
namespace Go.Proofs.YtgogjbnneoadkaaGreat
open Go.ChangeShapes Go.WideShapes Go.ChangeAt Go.RowKit Go.Deep

section
variable {w : World} {a b : Aff} {xs ys : List Int} {A B : Option Addr} {n m c d : Nat} {k k' : Int} {bs bs' : List Nat}

set_option maxHeartbeats 400000 in
theorem l1Ints_c (hA : Rep w (ints xs) [.slice A n c] bs) (hB : Rep w (ints ys) [.slice B m d] bs') :
    Calls Tryz.prog 109 #[.slice A n c, .slice B m d] w fun e w' => e = .returned (.bool (decide (xs = ys))) ∧ ∃ nq, w' = w.drewN nq := by
  obtain ⟨rfl, h1, h2⟩ := hA.ints_len
  obtain ⟨rfl, h3, h4⟩ := hB.ints_len
  have hn : xs.length ≤ 9223372036854775807 := Nat.le_trans h1 h2
  have hm : ys.length ≤ 9223372036854775807 := Nat.le_trans h3 h4
  clear h1 h2 h3 h4
  by_cases hl : xs.length = ys.length
  · have hl1 : ((xs.length : Int) != (ys.length : Int)) = false := by simp [hl]
    have HL := Lib.hid hl; clear hl
    go_enter Tryz.func109, Tryz.ntmps109
    go_wp2
    go_loopw [5] (fun i w' => ∃ k : Nat, k ≤ xs.length ∧ i = .int .i64 k ∧ xs.take k = ys.take k ∧ ∃ nq, w' = w.drewN nq) (fun i _ => xs.length - (intOf i).toNat)
    case atStart => exact ⟨0, Nat.zero_le _, rfl, rfl, 0, rfl⟩
    case round =>
      obtain ⟨k, hk, rfl, htake, nq, rfl⟩ := hrel
      have HT := Lib.hid htake; clear htake
      by_cases hlt : k < xs.length
      · obtain ⟨b, off, rfl, _, _, hc1, _⟩ := hA.ints_at hlt
        have hlt2 : k < ys.length := by rw [← HL.out]; exact hlt
        obtain ⟨b', off', rfl, _, _, hc2, _⟩ := hB.ints_at hlt2
        go_wp2
        go_quiet (fail)
        by_cases hq : gi xs k = gi ys k
        · have hq1 : (gi xs k != gi ys k) = false := by simp [hq]
          have HQ := Lib.hid hq; clear hq
          go_wp2
          go_roundw
          case rel => exact ⟨k + 1, by omega, by go_num, (take_eq_succ HT.out hlt hlt2).2 HQ.out, _, rfl⟩
          case measure => simp [intOf]; omega
        · have hq1 : (gi xs k != gi ys k) = true := by simp [hq]
          go_wp2
          go_ret
          exact ⟨ret_bool (by rw [eq_comm, decide_eq_false_iff_not]; intro h; subst h; exact hq rfl), _, World.drewN_drewN _ _ _⟩
      · go_wp2
        go_ret
        exact ⟨ret_bool (by rw [eq_comm, decide_eq_true_iff]; have := HT.out; rwa [List.take_of_length_le (by omega), List.take_of_length_le (by have := HL.out; omega)] at this), _, rfl⟩
  · have hl1 : ((xs.length : Int) != (ys.length : Int)) = true := by simp; omega
    go_enter Tryz.func109, Tryz.ntmps109
    go_wp2
    go_ret
    exact ⟨ret_bool (by rw [eq_comm, decide_eq_false_iff_not]; intro h; subst h; exact hl rfl), 0, rfl⟩

end
end Go.Proofs.YtgogjbnneoadkaaGreat
