/- A region that draws its order, by one obligation an operation: whatever the order, each operation finds what its predecessors have left. -/
import Derived.Test.YtaomlianiehkgaaBase
import Derived.Orders
import Derived.Deep.RegionHeld3
set_option linter.all false
set_option linter.unusedSimpArgs false
set_option linter.unusedVariables false
namespace Go.Proofs.Ytaomlianiehkgaa
open Go.RowKit

theorem countP_less {α : Type} {p q : α → Bool} : (l : List α) → (∀ x ∈ l, q x = true → p x = true) → (∃ x ∈ l, p x = true ∧ q x = false) → l.countP q < l.countP p
  | [], _, h => by obtain ⟨_, h, _⟩ := h; cases h
  | x :: l, h1, h2 => by
    have hle : l.countP q ≤ l.countP p := List.countP_mono_left fun y hy hq => h1 y (List.mem_cons_of_mem _ hy) hq
    simp only [List.countP_cons]
    rcases h2 with ⟨y, hy, hp, hq⟩
    rcases List.mem_cons.1 hy with rfl | hy
    · simp only [hp, hq, if_true, Bool.false_eq_true, if_false]; omega
    · have := countP_less l (fun y hy => h1 y (List.mem_cons_of_mem _ hy)) ⟨y, hy, hp, hq⟩
      have h3 := h1 x List.mem_cons_self
      cases hqx : q x with
      | true => simp only [h3 hqx, if_true]; omega
      | false => simp only [Bool.false_eq_true, if_false]; split <;> omega

section
variable {P : Program} {ops : Array Oper} {Q : Exit → Act → World → Prop}

def leftOps (ops : Array Oper) (listed : Array Bool) : Nat := (List.range ops.size).countP fun j => !listed.getD j true

theorem wpAny_inv {I : Array Bool → Act → World → Prop}
    (hst : ∀ listed a w, I listed a w → ∀ i ∈ Region.ready .any ops listed, wpOp P ops Q i (I (listed.setIfInBounds i true)) a w)
    (hend : ∀ listed a w, I listed a w → Region.ready .any ops listed = [] → Q .normal a w) :
    ∀ (fuel : Nat) (listed : Array Bool) (a : Act) (w : World), leftOps ops listed ≤ fuel → I listed a w → wpAny P .any ops Q fuel listed a w
  | 0, listed, a, w, hf, hI => by
    have hr : Region.ready .any ops listed = [] := by
      rw [List.eq_nil_iff_forall_not_mem]
      intro j hj
      obtain ⟨h0, o, ho, _⟩ := mem_ready.1 hj
      have hlt : j < ops.size := (Array.getElem?_eq_some_iff.1 ho).1
      have h1 : 0 < leftOps ops listed := List.countP_pos_iff.2 ⟨j, List.mem_range.2 hlt, by simp [h0]⟩
      omega
    exact ⟨hr, hend _ _ _ hI hr⟩
  | fuel + 1, listed, a, w, hf, hI => by
    refine ⟨fun hr => hend _ _ _ hI hr, fun i hi => ?_⟩
    refine wpOp_mono (fun a' w' hI' => wpAny_inv hst hend fuel _ a' w' ?_ hI') (hst _ _ _ hI i hi)
    obtain ⟨h0, o, ho, _⟩ := mem_ready.1 hi
    have hlt : i < ops.size := (Array.getElem?_eq_some_iff.1 ho).1
    have hsz : i < listed.size := by
      rcases Nat.lt_or_ge i listed.size with h | h
      · exact h
      · simp [Array.getElem?_eq_none h] at h0
    have : leftOps ops (listed.setIfInBounds i true) < leftOps ops listed := by
      refine countP_less _ (fun j _ hj => ?_) ⟨i, List.mem_range.2 hlt, by simp [h0], by simp [hsz]⟩
      by_cases e : i = j
      · subst e; simp [hsz] at hj
      · rw [getD_set_ne true e] at hj; exact hj
    omega

/-- which operations are done -/
abbrev dn (listed : Array Bool) : Nat → Bool := fun i => listed.getD i false

/-- no guards; each slot written once, inside the frame; each waits for earlier ones alone -/
def regB (ops : Array Oper) (n : Nat) : Bool :=
  (ops.toList.all fun o => o.guard.isNone && (match o.dst with | some t => decide (t < n) | none => true)) &&
  decide (ops.toList.filterMap (·.dst)).Nodup &&
  ((List.range ops.size).all fun i => match ops[i]? with | some o => o.after.toList.all fun e => decide (e.on < i) | none => true)

structure RInv (ops : Array Oper) (a0 : Act) (F : Nat → Value → World → Prop) (J : (Nat → Bool) → World → Prop) (d : Nat → Bool) (a : Act) (w : World) : Prop where
  defers : a.defers = a0.defers
  size : a.tmps.size = a0.tmps.size
  old : ∀ s, (∀ i o, ops[i]? = some o → d i = true → o.dst ≠ some s) → a.tmps.getD s undef = a0.tmps.getD s undef
  val : ∀ i o t, ops[i]? = some o → o.dst = some t → d i = true → F i (a.tmps.getD t undef) w
  inv : J d w
  closed : ∀ i o, ops[i]? = some o → d i = true → ∀ e ∈ o.after, Region.binds .any e = true → d e.on = true

/-- what one operation is to leave -/
def Leaves (F : Nat → Value → World → Prop) (J : (Nat → Bool) → World → Prop) (i : Nat) (o : Oper) (d : Nat → Bool) (a : Act) (w : World) (a' : Act) (w' : World) : Prop :=
  ∃ v, a' = a.put o.dst v ∧ (o.dst ≠ none → F i v w') ∧ J (fun j => d j || j == i) w' ∧ ∀ k u, d k = true → F k u w → F k u w'

theorem filterMap_inj {β γ : Type} {f : β → Option γ} : (l : List β) → (l.filterMap f).Nodup → ∀ (i j : Nat) (x y : β) (t : γ), l[i]? = some x → l[j]? = some y → f x = some t → f y = some t → i = j
  | [], _, i, _, _, _, _, h, _, _, _ => by simp at h
  | z :: l, hn, i, j, x, y, t, hi, hj, hx, hy => by
    have htail : (l.filterMap f).Nodup := by
      simp only [List.filterMap_cons] at hn
      split at hn
      · exact hn
      · exact (List.nodup_cons.1 hn).2
    have hhead : ∀ k u, l[k]? = some u → f u = some t → f z = some t → False := fun k u hk hu hz => by
      simp only [List.filterMap_cons, hz] at hn
      exact (List.nodup_cons.1 hn).1 (List.mem_filterMap.2 ⟨u, List.mem_of_getElem? hk, hu⟩)
    rcases i with _ | i <;> rcases j with _ | j
    · rfl
    · simp at hi hj; subst hi; exact (hhead j y hj hy hx).elim
    · simp at hi hj; subst hj; exact (hhead i x hi hx hy).elim
    · simp at hi hj
      rw [filterMap_inj l htail i j x y t hi hj hx hy]

theorem region_by_ops {id : Nat} {a0 : Act} {w : World} (hm : P.follows .mixedOrders = true) (hB : regB ops a0.tmps.size = true)
    (F : Nat → Value → World → Prop) (J : (Nat → Bool) → World → Prop) (h0 : J (fun _ => false) w.drew)
    (hstep : ∀ i o, ops[i]? = some o → ∀ d a w, RInv ops a0 F J d a w → d i = false → (∀ e ∈ o.after, Region.binds .any e = true → d e.on = true) → o.wp P a w (Leaves F J i o d a w) Q)
    (hend : ∀ d a w, RInv ops a0 F J d a w → (∀ i, i < ops.size → d i = true) → Q .normal a w) :
    (Code.region id ops true).wp P Q a0 w := by
  simp only [regB, Bool.and_eq_true, decide_eq_true_iff, List.all_eq_true] at hB
  obtain ⟨⟨hg, hnd⟩, haft⟩ := hB
  refine wp_region_any hm (wpAny_inv (I := fun listed a w => listed.size = ops.size ∧ RInv ops a0 F J (dn listed) a w) ?_ ?_ _ _ _ _ ?_ ⟨by simp, ?_⟩)
  · rintro listed a w ⟨hsz, hI⟩ i hi
    obtain ⟨hl, o, ho, hdeps⟩ := mem_ready.1 hi
    have hlt : i < listed.size := by rw [hsz]; exact (Array.getElem?_eq_some_iff.1 ho).1
    have hdi : dn listed i = false := by
      simp only [dn]
      simp [hlt] at hl ⊢
      exact hl
    have hset : dn (listed.setIfInBounds i true) = fun j => dn listed j || j == i := by
      funext j
      simp only [dn]
      by_cases e : i = j
      · subst e; simp [hlt]
      · rw [getD_set_ne false e]
        have : (j == i) = false := by simpa using fun h => e h.symm
        rw [this, Bool.or_false]
    obtain ⟨hguard, hdst⟩ := hg o (List.mem_of_getElem? (i := i) (by rw [← ho]; simp))
    have hstep' := hstep i o ho _ a w hI hdi hdeps
    unfold wpOp
    simp only [ho]
    rw [if_pos (by simp only [Region.wanted]; rw [Option.isNone_iff_eq_none.1 hguard])]
    refine .inl (Oper.wp_mono ?_ hstep')
    rintro a' w' ⟨v, rfl, hv, hJ, hmono⟩
    refine ⟨by simpa using hsz, ?_⟩
    rw [hset]
    have hput : ∀ s, o.dst ≠ some s → (a.put o.dst v).tmps.getD s undef = a.tmps.getD s undef := fun s hs => by
      unfold Act.put
      split
      · next t ht =>
        have hts : t ≠ s := fun e => hs (by rw [ht, e])
        simp [Array.getElem?_setIfInBounds_ne hts]
      · rfl
    refine ⟨?_, ?_, ?_, ?_, hJ, ?_⟩
    · rw [← hI.defers]; unfold Act.put; split <;> rfl
    · rw [← hI.size]; unfold Act.put; split <;> simp
    · intro s hs
      rw [hput s (hs i o ho (by simp)), hI.old s fun k p hk hd => hs k p hk (by simp [hd])]
    · intro k p t hk ht hd
      by_cases e : k = i
      · subst e
        rw [ho] at hk; cases hk
        have htl : t < a.tmps.size := by
          rw [hI.size]
          rw [ht] at hdst
          simpa using hdst
        have : (a.put o.dst v).tmps.getD t undef = v := by
          unfold Act.put
          rw [ht]
          simp [htl]
        rw [this]
        exact hv (by rw [ht]; simp)
      · have hdk : dn listed k = true := by simpa [e] using hd
        rw [hput t fun h => e (filterMap_inj ops.toList hnd k i p o t (by rw [← hk]; simp) (by rw [← ho]; simp) ht h)]
        exact hmono k _ hdk (hI.val k p t hk ht hdk)
    · intro k p hk hd e he hb
      by_cases e' : k = i
      · subst e'
        rw [ho] at hk; cases hk
        simp [hdeps e he hb]
      · have hdk : dn listed k = true := by simpa [e'] using hd
        simp [hI.closed k p hk hdk e he hb]
  · rintro listed a w ⟨hsz, hI⟩ hr
    refine hend _ a w hI ?_
    intro i
    induction i using Nat.strongRecOn with
    | _ i ih =>
      intro hi
      obtain ⟨o, ho⟩ : ∃ o, ops[i]? = some o := ⟨_, Array.getElem?_eq_getElem hi⟩
      cases hd : dn listed i with
      | true => rfl
      | false =>
        have hmem : i ∈ Region.ready .any ops listed := by
          refine mem_ready.2 ⟨?_, o, ho, fun e he _ => ?_⟩
          · simp only [dn] at hd
            have : i < listed.size := by omega
            simp [this] at hd ⊢
            exact hd
          · have h1 := haft i (List.mem_range.2 hi)
            rw [ho] at h1
            have h2 := List.all_eq_true.1 h1 e (by simpa using he)
            have h3 : e.on < i := by simpa using h2
            exact ih e.on h3 (by omega)
        rw [hr] at hmem
        cases hmem
  · unfold leftOps
    exact Nat.le_trans List.countP_le_length (by simp)
  · have hz : dn (Array.replicate ops.size false) = fun _ => false := by
      funext i
      simp only [dn, Array.getD_eq_getD_getElem?, Array.getElem?_replicate]
      split <;> rfl
    rw [hz]
    refine ⟨rfl, rfl, fun _ _ => rfl, ?_, h0, ?_⟩
    · intro i o t _ _ hd; cases hd
    · intro i o _ hd; cases hd

theorem RInv.old_ {a0 a : Act} {F : Nat → Value → World → Prop} {J : (Nat → Bool) → World → Prop} {d : Nat → Bool} {w : World} (h : RInv ops a0 F J d a w) (s : Nat) (hl : (ops.toList.filterMap (·.dst)).contains s = false) : a.tmps.getD s undef = a0.tmps.getD s undef := by
  refine h.old s fun i o ho _ hdst => ?_
  have : s ∈ ops.toList.filterMap (·.dst) := List.mem_filterMap.2 ⟨o, List.mem_of_getElem? (l := ops.toList) (i := i) (by rw [← ho]; simp), hdst⟩
  rw [← List.contains_iff_mem] at this
  rw [this] at hl; cases hl
theorem leaves_pure {F : Nat → Value → World → Prop} {J : (Nat → Bool) → World → Prop} {i : Nat} {o : Oper} {d : Nat → Bool} {a : Act} {w : World} {v : Value} (hv : F i v w) (hJ : J (fun j => d j || j == i) w) : Leaves F J i o d a w (a.put o.dst v) w :=
  ⟨v, rfl, fun _ => hv, hJ, fun _ _ _ h => h⟩

/-- the frame behind such a region: the slots that it writes by their own names, the others as they were -/
theorem act_done {a0 a : Act} {F : Nat → Value → World → Prop} {J : (Nat → Bool) → World → Prop} {d : Nat → Bool} {w : World} (h : RInv ops a0 F J d a w) (l : List Nat) (hl : ops.toList.filterMap (·.dst) = l) :
    a = ⟨((List.range a0.tmps.size).map fun s => if l.contains s then a.tmps.getD s undef else a0.tmps.getD s undef).toArray, a0.defers⟩ := by
  obtain ⟨t, df⟩ := a
  have h1 := h.defers
  have h2 := h.size
  simp only at h1 h2
  subst h1
  congr 1
  apply Array.ext
  · simp [h2]
  · intro s hs1 hs2
    simp only [List.getElem_toArray, List.getElem_map, List.getElem_range]
    have e1 : t[s] = t.getD s undef := by simp [hs1]
    by_cases hn : l.contains s = true
    · rw [if_pos hn]; exact e1
    · rw [if_neg hn, e1]
      refine h.old s fun i o ho _ hdst => hn ?_
      rw [← hl]
      simp only [List.contains_iff_mem, List.mem_filterMap]
      exact ⟨o, List.mem_of_getElem? (l := ops.toList) (i := i) (by rw [← ho]; simp), hdst⟩

/-- the written slots by 'get', the others as listed -/
def mixF (wr : Nat → Bool) (get : Nat → Value) : Nat → List Value → List Value
  | _, [] => []
  | s, v :: l => (if wr s then get s else v) :: mixF wr get (s + 1) l
theorem mixF_get (wr : Nat → Bool) (get : Nat → Value) : ∀ (l : List Value) (s i : Nat), (mixF wr get s l)[i]? = (l[i]?).map fun v => if wr (s + i) then get (s + i) else v
  | [], _, _ => by simp [mixF]
  | v :: l, s, 0 => by simp [mixF]
  | v :: l, s, i + 1 => by
    simp only [mixF, List.getElem?_cons_succ, mixF_get wr get l (s + 1) i]
    rw [show s + 1 + i = s + (i + 1) by omega]
theorem act_mix {l0 : List Value} {df : List Deferred} {a : Act} {F : Nat → Value → World → Prop} {J : (Nat → Bool) → World → Prop} {d : Nat → Bool} {w : World} (h : RInv ops ⟨l0.toArray, df⟩ F J d a w) (l : List Nat) (hl : ops.toList.filterMap (·.dst) = l) :
    a = ⟨(mixF (fun s => l.contains s) (fun s => a.tmps.getD s undef) 0 l0).toArray, df⟩ := by
  have hd := act_done h l hl
  have : (mixF (fun s => l.contains s) (fun s => a.tmps.getD s undef) 0 l0) = (List.range l0.length).map fun s => if l.contains s then a.tmps.getD s undef else (l0.toArray).getD s undef := by
    apply List.ext_getElem?
    intro i
    rw [mixF_get]
    rcases Nat.lt_or_ge i l0.length with hi | hi
    · simp [hi, List.getElem?_range]
    · simp [hi]
  rw [this]
  exact hd
end

section
variable {P : Program} {l : List Oper} {Q : Exit → Act → World → Prop} {S : World → Prop} {md : Region.Mode}
/-- an operation that may come up and yields its value wherever S holds is taken first -/
theorem takeR {i : Nat} {oi : Oper} {v : Value} {fuel : Nat} {listed : Array Bool} {a : Act} {w : World} (hi : l[i]? = some oi) (hg : oi.guard = none)
    (hs : Region.noSelect l.toArray = true) (hf : Region.free md l.toArray listed i = true) (hr : (Region.ready md l.toArray listed).contains i = true)
    (hQ : ∀ c a w, Q (.panic c) (a.put oi.dst v) w → Q (.panic c) a w) (hy : ∀ w, S w → (execOp a.eval oi).run P w = .ok (.value v) w) (hS : S w)
    (h : wpAnyH P md l.toArray Q S fuel (listed.setIfInBounds i true) (a.put oi.dst v) w) : wpAnyH P md l.toArray Q S (fuel + 1) listed a w :=
  wpAnyH_take (oi := oi) (by simpa using hi) hs hf hr hQ (.inl ⟨by simp [Region.wanted, hg], hy⟩) hS h
/-- the same under a guard that lets it -/
theorem takeG {i : Nat} {oi : Oper} {v : Value} {fuel : Nat} {listed : Array Bool} {a : Act} {w : World} (hi : l[i]? = some oi) (hg : Region.wanted oi (yielded l.toArray a.tmps) = true)
    (hs : Region.noSelect l.toArray = true) (hf : Region.free md l.toArray listed i = true) (hr : (Region.ready md l.toArray listed).contains i = true)
    (hQ : ∀ c a w, Q (.panic c) (a.put oi.dst v) w → Q (.panic c) a w) (hy : ∀ w, S w → (execOp a.eval oi).run P w = .ok (.value v) w) (hS : S w)
    (h : wpAnyH P md l.toArray Q S fuel (listed.setIfInBounds i true) (a.put oi.dst v) w) : wpAnyH P md l.toArray Q S (fuel + 1) listed a w :=
  wpAnyH_take (oi := oi) (by simpa using hi) hs hf hr hQ (.inl ⟨hg, hy⟩) hS h
/-- an operation whose guard says no is passed over -/
theorem takeS {i : Nat} {oi : Oper} {fuel : Nat} {listed : Array Bool} {a : Act} {w : World} (hi : l[i]? = some oi) (hg : Region.wanted oi (yielded l.toArray a.tmps) = false)
    (hs : Region.noSelect l.toArray = true) (hf : Region.free md l.toArray listed i = true) (hr : (Region.ready md l.toArray listed).contains i = true)
    (hQ : ∀ c a w, Q (.panic c) (a.put oi.dst undef) w → Q (.panic c) a w) (hS : S w)
    (h : wpAnyH P md l.toArray Q S fuel (listed.setIfInBounds i true) (a.put oi.dst undef) w) : wpAnyH P md l.toArray Q S (fuel + 1) listed a w :=
  wpAnyH_take (oi := oi) (by simpa using hi) hs hf hr hQ (.inr ⟨hg, rfl⟩) hS h
/-- the one operation that may come up, whatever it does -/
theorem stepR {i : Nat} {o : Oper} {fuel : Nat} {listed : Array Bool} {a : Act} {w : World} (ho : l[i]? = some o) (hr : Region.ready md l.toArray listed = [i]) (hg : Region.wanted o (yielded l.toArray a.tmps) = true)
    (h : ∀ K' : Act → World → Prop, Shut (∀ a w, S w → (S w → wpAnyH P md l.toArray Q S fuel (listed.setIfInBounds i true) a w) → K' a w) → Oper.wp P o a w K' Q) :
    wpAnyH P md l.toArray Q S (fuel + 1) listed a w :=
  wpAnyH_ready hr (by simp) (AllReadyH.cons (o := o) (by simpa using ho) (fun K hK => by rw [if_pos hg]; exact h K hK) AllReadyH.nil)
theorem wanted_none {o : Oper} {f : Nat → Option Bool} (h : o.guard = none) : Region.wanted o f = true := by simp [Region.wanted, h]
end
end Go.Proofs.Ytaomlianiehkgaa
