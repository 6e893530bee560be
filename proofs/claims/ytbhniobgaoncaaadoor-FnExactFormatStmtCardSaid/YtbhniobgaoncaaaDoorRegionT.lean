/- A region that draws its order and ends in stores (the tail): what its loads read has to hold till the tail begins. -/
import Derived.Test.YtbhniobgaoncaaaDoorCore
set_option linter.all false
set_option linter.unusedSimpArgs false
set_option linter.unusedVariables false
namespace Go.Proofs.YtbhniobgaoncaaaDoor
open Go.RowKit

section
variable {P : Program} {ops : Array Oper} {Q : Exit → Act → World → Prop} {md : Region.Mode} {S : World → Prop} {T : Nat}
/-- whatever order is picked, S holds behind every operation till number T has come up -/
def wpAnyT (P : Program) (md : Region.Mode) (ops : Array Oper) (Q : Exit → Act → World → Prop) (S : World → Prop) (T : Nat) : Nat → Array Bool → Act → World → Prop
  | 0, listed, a, w => Region.ready md ops listed = [] ∧ Q .normal a w
  | fuel + 1, listed, a, w =>
    (Region.ready md ops listed = [] → Q .normal a w) ∧
    ∀ i ∈ Region.ready md ops listed, wpOp P ops Q i (fun a' w' => ((listed.setIfInBounds i true).getD T true = false → S w') ∧ wpAnyT P md ops Q S T fuel (listed.setIfInBounds i true) a' w') a w
theorem wpAny_of_T : ∀ (fuel : Nat) (listed : Array Bool) (a : Act) (w : World), wpAnyT P md ops Q S T fuel listed a w → wpAny P md ops Q fuel listed a w
  | 0, _, _, _, h => h
  | fuel + 1, _, _, _, h => ⟨h.1, fun i hi => wpOp_mono (fun a' w' h' => wpAny_of_T fuel _ a' w' h'.2) (h.2 i hi)⟩
/-- number T waits for number i -/
def tailB (md : Region.Mode) (ops : Array Oper) (T i : Nat) : Bool := !(T == i) && match ops[T]? with
  | some o => o.after.toList.any fun e => Region.binds md e && e.on == i
  | none => false
theorem wpAnyT_first {S' : World → Prop} {i : Nat} {oi : Oper} {v : Value} (hi : ops[i]? = some oi) (hsel : ∀ (j : Nat) (o : Oper) cs b, ops[j]? = some o → o.op ≠ .select cs b)
    (hQ : ∀ c a w, Q (.panic c) (a.put oi.dst v) w → Q (.panic c) a w) (hTi : T ≠ i)
    (C : Array Bool → Prop)
    (hC : ∀ (listed : Array Bool) j oj, C listed → ops[j]? = some oj → (∀ e ∈ oj.after, Region.binds md e = true → e.on ≠ i) → C (listed.setIfInBounds j true) ∧ ∀ w, ((listed.setIfInBounds j true).getD T true = false → S w) → S' w) :
    ∀ (fuel : Nat) (listed : Array Bool) (a : Act) (w : World), C listed →
      (∀ j oj, ops[j]? = some oj → j ≠ i → listed.getD j true = false → (∀ e ∈ oj.after, Region.binds md e = true → e.on ≠ i) → oi.apart ops oj = true) →
      i ∈ Region.ready md ops listed → YieldsIf P ops S' oi v a → S' w → (listed.getD T true = false → S w) →
      wpAnyT P md ops Q S T fuel (listed.setIfInBounds i true) (a.put oi.dst v) w → wpAnyT P md ops Q S T (fuel + 1) listed a w := by
  have hget : ∀ listed : Array Bool, (listed.setIfInBounds i true).getD T true = listed.getD T true := fun listed => getD_set_ne true (Ne.symm hTi)
  intro fuel
  induction fuel with
  | zero =>
    intro listed a w _ _ hr hy hS hK H
    refine ⟨fun h => (by rw [h] at hr; cases hr), fun j hj => ?_⟩
    by_cases hji : j = i
    · subst hji; exact hy.wpOp hi hS ⟨fun h => hK (by rw [hget] at h; exact h), H⟩
    · have := ready_mono hj hji
      rw [H.1] at this
      cases this
  | succ fuel ih =>
    intro listed a w hc hfree hr hy hS hK H
    refine ⟨fun h => (by rw [h] at hr; cases hr), fun j hj => ?_⟩
    by_cases hji : j = i
    · subst hji; exact hy.wpOp hi hS ⟨fun h => hK (by rw [hget] at h; exact h), H⟩
    · have h1 := H.2 j (ready_mono hj hji)
      obtain ⟨hjun, oj, hoj, hall⟩ := mem_ready.1 hj
      have hnot : ∀ e ∈ oj.after, Region.binds md e = true → e.on ≠ i := fun e he hb heq => by
        have h1 := hall e he hb
        have h0 := (mem_ready.1 hr).1
        rw [heq] at h1
        rcases Nat.lt_or_ge i listed.size with h' | h'
        · simp [h'] at h0 h1; rw [h0] at h1; cases h1
        · simp [Array.getElem?_eq_none h'] at h1
      obtain ⟨hc', hS'⟩ := hC listed j oj hc hoj hnot
      have h2 := wpOp_putIf hoj (hfree j oj hoj hji hjun hnot) (fun cs b => hsel i oi cs b hi) (fun cs b => hsel j oj cs b hoj) hQ hy h1
      have hfree' : ∀ k ok, ops[k]? = some ok → k ≠ i → (listed.setIfInBounds j true).getD k true = false →
          (∀ e ∈ ok.after, Region.binds md e = true → e.on ≠ i) → oi.apart ops ok = true := fun k ok hk hki hun hno => by
        refine hfree k ok hk hki ?_ hno
        by_cases hjk : j = k
        · subst hjk; exact hjun
        · rw [getD_set_ne true hjk] at hun; exact hun
      have hcomm : (listed.setIfInBounds i true).setIfInBounds j true = (listed.setIfInBounds j true).setIfInBounds i true := Array.setIfInBounds_comm _ _ (Ne.symm hji)
      refine wpOp_mono (fun a' w' h3 => ?_) h2
      have h4 : (listed.setIfInBounds j true).getD T true = false → S w' := fun h => h3.2.1 (by rw [hcomm, hget]; exact h)
      refine ⟨h4, ih (listed.setIfInBounds j true) a' w' hc' hfree' (ready_mono hr (Ne.symm hji)) h3.1 (hS' w' h4) h4 ?_⟩
      rw [← hcomm]
      exact h3.2.2
theorem wpAnyT_done {listed : Array Bool} {a : Act} {w : World} (hr : Region.ready md ops listed = []) (h : Q .normal a w) : ∀ fuel, wpAnyT P md ops Q S T fuel listed a w
  | 0 => ⟨hr, h⟩
  | _ + 1 => ⟨fun _ => h, by rw [hr]; simp⟩
theorem wp_regionT {id : Nat} {a : Act} {w : World} (T : Nat) (hm : P.follows .mixedOrders = true) (hS : S w.drew)
    (h : S w.drew → wpAnyT P .any ops Q S T ops.size (Array.replicate ops.size false) a w.drew) : (Code.region id ops true).wp P Q a w :=
  wp_region_any hm (wpAny_of_T _ _ _ _ (h hS))
end
section
variable {P : Program} {l : List Oper} {Q : Exit → Act → World → Prop} {S : World → Prop} {md : Region.Mode} {T : Nat}
/-- a load ahead of the tail is taken first -/
theorem takeT {i : Nat} {oi : Oper} {v : Value} {fuel : Nat} {listed : Array Bool} {a : Act} {w : World} (hi : l[i]? = some oi) (hg : oi.guard = none) (ht : tailB md l.toArray T i = true) (hl : listed.getD T true = false)
    (hs : Region.noSelect l.toArray = true) (hf : Region.free md l.toArray listed i = true) (hr : (Region.ready md l.toArray listed).contains i = true)
    (hQ : ∀ c a w, Q (.panic c) (a.put oi.dst v) w → Q (.panic c) a w) (hy : ∀ w, S w → (execOp a.eval oi).run P w = .ok (.value v) w) (hS : S w)
    (h : wpAnyT P md l.toArray Q S T fuel (listed.setIfInBounds i true) (a.put oi.dst v) w) : wpAnyT P md l.toArray Q S T (fuel + 1) listed a w := by
  simp only [tailB, Bool.and_eq_true, Bool.not_eq_true', beq_eq_false_iff_ne] at ht
  obtain ⟨hTi, ht⟩ := ht
  refine wpAnyT_first (S' := S) (oi := oi) (by simpa using hi) (Region.noSelect_spec hs) hQ hTi (fun listed => listed.getD T true = false) (fun listed j oj hc hj hno => ?_) fuel listed a w hl (Region.free_spec (by simpa using hi) hf) (by simpa using hr) (.inl ⟨by simp [Region.wanted, hg], hy⟩) hS (fun _ => hS) h
  have hne : j ≠ T := fun e => by
    subst e
    rw [hj] at ht
    simp only [List.any_eq_true, Bool.and_eq_true, beq_iff_eq] at ht
    obtain ⟨e, he, hb, heq⟩ := ht
    exact hno e (by simpa using he) hb heq
  have hg2 : (listed.setIfInBounds j true).getD T true = false := by rw [getD_set_ne true hne]; exact hc
  exact ⟨hg2, fun w hw => hw hg2⟩
/-- what yields in whatever world is taken first -/
theorem takeU {i : Nat} {oi : Oper} {v : Value} {fuel : Nat} {listed : Array Bool} {a : Act} {w : World} (hi : l[i]? = some oi) (hg : oi.guard = none) (hTi : (T == i) = false)
    (hs : Region.noSelect l.toArray = true) (hf : Region.free md l.toArray listed i = true) (hr : (Region.ready md l.toArray listed).contains i = true)
    (hQ : ∀ c a w, Q (.panic c) (a.put oi.dst v) w → Q (.panic c) a w) (hy : ∀ w, (execOp a.eval oi).run P w = .ok (.value v) w) (hK : listed.getD T true = false → S w)
    (h : wpAnyT P md l.toArray Q S T fuel (listed.setIfInBounds i true) (a.put oi.dst v) w) : wpAnyT P md l.toArray Q S T (fuel + 1) listed a w :=
  wpAnyT_first (S' := fun _ => True) (oi := oi) (by simpa using hi) (Region.noSelect_spec hs) hQ (by simpa using hTi) (fun _ => True) (fun _ _ _ _ _ _ => ⟨trivial, fun _ _ => trivial⟩) fuel listed a w trivial (Region.free_spec (by simpa using hi) hf) (by simpa using hr) (.inl ⟨by simp [Region.wanted, hg], fun w _ => hy w⟩) trivial hK h
/-- each of the operations that may come up comes up -/
theorem readyT {rs : List Nat} {fuel : Nat} {listed : Array Bool} {a : Act} {w : World} (hr : Region.ready md l.toArray listed = rs) (hne : rs ≠ [])
    (h : ∀ i ∈ rs, wpOp P l.toArray Q i (fun a' w' => ((listed.setIfInBounds i true).getD T true = false → S w') ∧ wpAnyT P md l.toArray Q S T fuel (listed.setIfInBounds i true) a' w') a w) : wpAnyT P md l.toArray Q S T (fuel + 1) listed a w :=
  ⟨fun h0 => absurd (hr ▸ h0) hne, hr ▸ h⟩
/-- one of them -/
theorem opT {i : Nat} {o : Oper} {fuel : Nat} {listed : Array Bool} {a : Act} {w : World} (ho : l[i]? = some o) (hg : Region.wanted o (yielded l.toArray a.tmps) = true)
    (h : ∀ K' : Act → World → Prop, Shut (∀ a w, S w → (S w → wpAnyT P md l.toArray Q S T fuel (listed.setIfInBounds i true) a w) → K' a w) → Oper.wp P o a w K' Q) :
    wpOp P l.toArray Q i (fun a' w' => ((listed.setIfInBounds i true).getD T true = false → S w') ∧ wpAnyT P md l.toArray Q S T fuel (listed.setIfInBounds i true) a' w') a w := by
  refine wpOp_step (o := o) (by simpa using ho) fun K hK => ?_
  rw [if_pos hg]
  exact h K fun a w hS hW => hK a w ⟨fun _ => hS, hW hS⟩
/-- one of the tail's -/
theorem opTT {i : Nat} {o : Oper} {fuel : Nat} {listed : Array Bool} {a : Act} {w : World} (ho : l[i]? = some o) (hg : Region.wanted o (yielded l.toArray a.tmps) = true) (ht : (listed.setIfInBounds i true).getD T true = true)
    (h : ∀ K' : Act → World → Prop, Shut (∀ a w, wpAnyT P md l.toArray Q S T fuel (listed.setIfInBounds i true) a w → K' a w) → Oper.wp P o a w K' Q) :
    wpOp P l.toArray Q i (fun a' w' => ((listed.setIfInBounds i true).getD T true = false → S w') ∧ wpAnyT P md l.toArray Q S T fuel (listed.setIfInBounds i true) a' w') a w := by
  refine wpOp_step (o := o) (by simpa using ho) fun K hK => ?_
  rw [if_pos hg]
  exact h K fun a w hW => hK a w ⟨fun h => (by rw [ht] at h; cases h), hW⟩
theorem all1 {p : Nat → Prop} {i : Nat} (h : p i) : ∀ k ∈ [i], p k := by simpa using h
theorem all2 {p : Nat → Prop} {i j : Nat} (h : p i) (h2 : p j) : ∀ k ∈ [i, j], p k := by simpa using ⟨h, h2⟩
end
section
variable {P : Program} {l : List Oper} {Q : Exit → Act → World → Prop} {S : World → Prop} {md : Region.Mode} {T : Nat}
theorem goT (i : Nat) {oi : Oper} {v : Value} {fuel : Nat} {listed : Array Bool} {a a' : Act} {w : World} (hS : S w)
    (h : wpAnyT P md l.toArray Q S T fuel (listed.setIfInBounds i true) a' w)
    (hi : l[i]? = some oi := by rfl) (hg : oi.guard = none := by rfl) (ht : tailB md l.toArray T i = true := by kernel_rfl) (hl : listed.getD T true = false := by kernel_rfl) (hs : Region.noSelect l.toArray = true := by kernel_rfl)
    (hf : Region.free md l.toArray listed i = true := by kernel_rfl) (hr : (Region.ready md l.toArray listed).contains i = true := by kernel_rfl)
    (hy : ∀ w, S w → (execOp a.eval oi).run P w = .ok (.value v) w := by (intro w hSw; (try dsimp only at hSw); go_simp; try with_reducible rfl))
    (hA : a.put oi.dst v = a' := by (simp only [Act.put, List.setIfInBounds_toArray, List.set_cons_zero, List.set_cons_succ]; try rfl))
    (hQ : ∀ c a w, Q (.panic c) (a.put oi.dst v) w → Q (.panic c) a w := by exact fun _ _ _ h => h) : wpAnyT P md l.toArray Q S T (fuel + 1) listed a w :=
  takeT hi hg ht hl hs hf hr hQ hy hS (by rw [hA]; exact h)
theorem goU (i : Nat) {oi : Oper} {v : Value} {fuel : Nat} {listed : Array Bool} {a a' : Act} {w : World} (hK : listed.getD T true = false → S w)
    (h : wpAnyT P md l.toArray Q S T fuel (listed.setIfInBounds i true) a' w)
    (hi : l[i]? = some oi := by rfl) (hg : oi.guard = none := by rfl) (ht : (T == i) = false := by kernel_rfl) (hs : Region.noSelect l.toArray = true := by kernel_rfl)
    (hf : Region.free md l.toArray listed i = true := by kernel_rfl) (hr : (Region.ready md l.toArray listed).contains i = true := by kernel_rfl)
    (hy : ∀ w, (execOp a.eval oi).run P w = .ok (.value v) w := by (intro w; go_simp; try with_reducible rfl))
    (hA : a.put oi.dst v = a' := by (simp only [Act.put, List.setIfInBounds_toArray, List.set_cons_zero, List.set_cons_succ]; try rfl))
    (hQ : ∀ c a w, Q (.panic c) (a.put oi.dst v) w → Q (.panic c) a w := by exact fun _ _ _ h => h) : wpAnyT P md l.toArray Q S T (fuel + 1) listed a w :=
  takeU hi hg ht hs hf hr hQ hy hK (by rw [hA]; exact h)
end
end Go.Proofs.YtbhniobgaoncaaaDoor
