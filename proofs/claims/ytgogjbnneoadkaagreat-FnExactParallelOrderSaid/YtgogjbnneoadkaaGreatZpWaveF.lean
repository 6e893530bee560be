/- Consecutive groups of a list, and the groups that the reference takes; in plain Lean. -/
import Derived.Test.YtgogjbnneoadkaaGreatZpCore
set_option linter.all false
set_option linter.unusedSimpArgs false
set_option linter.unusedVariables false
namespace Go.Proofs.YtgogjbnneoadkaaGreat

section
variable {α β γ : Type} [DecidableEq β] [DecidableEq γ]
theorem snoc_ind {P : List α → Prop} (h0 : P []) (h1 : ∀ xs x, P xs → P (xs ++ [x])) (xs : List α) : P xs := by
  have key : ∀ (n : Nat) (xs : List α), xs.length = n → P xs := by
    intro n
    induction n with
    | zero => intro xs h; rw [List.length_eq_zero_iff.1 h]; exact h0
    | succ n ih =>
      intro xs h
      have hne : xs ≠ [] := by intro e; rw [e] at h; cases h
      rw [← List.dropLast_concat_getLast hne]
      exact h1 _ _ (ih _ (by rw [List.length_dropLast]; omega))
  exact key _ xs rfl
/-- the different keys, in order: a key is laid down where it differs from the one before -/
def headsK (key : α → β) (xs : List α) : List β := xs.foldl (fun out a => if out.getLast? = some (key a) then out else out ++ [key a]) []
theorem headsK_snoc (key : α → β) (xs : List α) (x : α) : headsK key (xs ++ [x]) = if (headsK key xs).getLast? = some (key x) then headsK key xs else headsK key xs ++ [key x] := by
  unfold headsK; rw [List.foldl_append]; rfl
theorem headsK_last (key : α → β) (xs : List α) : (headsK key xs).getLast? = xs.getLast?.map key := by
  refine snoc_ind (P := fun xs => (headsK key xs).getLast? = xs.getLast?.map key) rfl (fun xs x ih => ?_) xs
  rw [headsK_snoc, List.getLast?_append]
  by_cases h : (headsK key xs).getLast? = some (key x)
  · rw [if_pos h, h]; rfl
  · rw [if_neg h, List.getLast?_append]; rfl
theorem mem_headsK (key : α → β) (h : β) (xs : List α) : h ∈ headsK key xs ↔ ∃ a ∈ xs, key a = h := by
  refine snoc_ind (P := fun xs => h ∈ headsK key xs ↔ ∃ a ∈ xs, key a = h) (by simp [headsK]) (fun xs x ih => ?_) xs
  rw [headsK_snoc]
  constructor
  · intro hm
    split at hm
    · obtain ⟨a, ha, e⟩ := ih.1 hm; exact ⟨a, by simp [ha], e⟩
    · rcases List.mem_append.1 hm with hm | hm
      · obtain ⟨a, ha, e⟩ := ih.1 hm; exact ⟨a, by simp [ha], e⟩
      · exact ⟨x, by simp, (List.mem_singleton.1 hm).symm⟩
  · rintro ⟨a, ha, e⟩
    rcases List.mem_append.1 ha with ha | ha
    · have := ih.2 ⟨a, ha, e⟩
      split
      · exact this
      · exact List.mem_append_left _ this
    · rw [List.mem_singleton.1 ha] at e
      split
      · next h2 => rw [← e]; exact List.mem_of_getLast? h2
      · rw [e]; simp
/-- the groups of equal keys, as the reference takes them -/
def groupsK (key : α → β) (xs : List α) : List (List α) := (headsK key xs).map fun h => xs.filter fun a => decide (key a = h)
def addLast (x : α) (gs : List (List α)) : List (List α) := gs.dropLast ++ [(gs.getLast?.getD []) ++ [x]]
/-- equal keys lie together -/
def Together (key : α → β) (xs : List α) : Prop := ∀ a b c : α, List.Sublist [a, b, c] xs → key a = key c → key b = key c
theorem Together.sub {key : α → β} {xs ys : List α} (h : Together key xs) (hs : List.Sublist ys xs) : Together key ys := fun a b c k => h a b c (k.trans hs)
theorem Together.init {key : α → β} {xs : List α} {x : α} (h : Together key (xs ++ [x])) : Together key xs := h.sub (List.sublist_append_left _ _)
theorem Together.fresh {key : α → β} {xs : List α} {x : α} (h : Together key (xs ++ [x])) (hl : xs.getLast?.map key ≠ some (key x)) : ∀ c ∈ xs, key c ≠ key x := by
  intro c hc
  have hne : xs ≠ [] := by intro e; rw [e] at hc; cases hc
  have e := List.dropLast_concat_getLast hne
  have hk : key (xs.getLast hne) ≠ key x := by
    intro e2; apply hl
    rw [List.getLast?_eq_some_getLast hne]
    simp [e2]
  have hc2 := hc
  rw [← e] at hc2
  rcases List.mem_append.1 hc2 with hc2 | hc2
  · intro e3
    refine hk (h c (xs.getLast hne) x ?_ e3)
    have h1 : List.Sublist [c] xs.dropLast := List.singleton_sublist.2 hc2
    have h2 : List.Sublist ([c] ++ [xs.getLast hne] ++ [x]) (xs.dropLast ++ [xs.getLast hne] ++ [x]) := (h1.append (List.Sublist.refl _)).append (List.Sublist.refl _)
    rw [e] at h2
    exact h2
  · rw [List.mem_singleton.1 hc2]; exact hk
theorem groupsK_new {key : α → β} {xs : List α} {x : α} (h : Together key (xs ++ [x])) (hl : xs.getLast?.map key ≠ some (key x)) : groupsK key (xs ++ [x]) = groupsK key xs ++ [[x]] := by
  have hf := h.fresh hl
  unfold groupsK
  rw [headsK_snoc, headsK_last, if_neg hl, List.map_append]
  congr 1
  · refine List.map_congr_left fun k hk => ?_
    obtain ⟨a, ha, rfl⟩ := (mem_headsK key k xs).1 hk
    rw [List.filter_append]
    have : decide (key x = key a) = false := decide_eq_false fun e => hf a ha e.symm
    simp [List.filter, this]
  · have h1 : xs.filter (fun a => decide (key a = key x)) = [] := List.filter_eq_nil_iff.2 fun a ha => by simpa using hf a ha
    simp [List.filter_append, h1]
theorem headsK_nodup {key : α → β} {xs : List α} (h : Together key xs) : (headsK key xs).Nodup := by
  refine snoc_ind (P := fun xs => Together key xs → (headsK key xs).Nodup) (fun _ => by simp [headsK]) (fun xs x ih h => ?_) xs h
  rw [headsK_snoc, headsK_last]
  by_cases hl : xs.getLast?.map key = some (key x)
  · rw [if_pos hl]; exact ih h.init
  · rw [if_neg hl]
    refine List.nodup_append.2 ⟨ih h.init, by simp, fun a ha b hb e => ?_⟩
    rw [List.mem_singleton.1 hb] at e
    obtain ⟨c, hc, e2⟩ := (mem_headsK key a xs).1 ha
    exact h.fresh hl c hc (e2.trans e)
theorem addLast_snoc (x : α) (gs : List (List α)) (g : List α) : addLast x (gs ++ [g]) = gs ++ [g ++ [x]] := by
  unfold addLast; simp
theorem groupsK_same {key : α → β} {xs : List α} {x : α} (h : Together key (xs ++ [x])) (hl : xs.getLast?.map key = some (key x)) : groupsK key (xs ++ [x]) = addLast x (groupsK key xs) := by
  have hh : (headsK key xs).getLast? = some (key x) := (headsK_last key xs).trans hl
  have hne : headsK key xs ≠ [] := by intro e; rw [e] at hh; cases hh
  have hlast : (headsK key xs).getLast hne = key x := by rw [List.getLast?_eq_some_getLast hne] at hh; exact Option.some.inj hh
  have hnd := headsK_nodup h.init
  have e := List.dropLast_concat_getLast hne
  rw [hlast] at e
  obtain ⟨dl, hdl⟩ : ∃ dl, dl = (headsK key xs).dropLast := ⟨_, rfl⟩
  rw [← hdl] at e
  rw [← e] at hnd
  have hnk : ∀ k ∈ dl, k ≠ key x := fun k hk e2 => (List.nodup_append.1 hnd).2.2 k hk (key x) (by simp) e2
  unfold groupsK
  rw [headsK_snoc, if_pos hh, ← e, List.map_append, List.map_append, List.map_singleton, List.map_singleton, addLast_snoc]
  congr 1
  · refine List.map_congr_left fun k hk => ?_
    have : decide (key x = k) = false := decide_eq_false fun e => hnk k hk e.symm
    simp [List.filter_append, List.filter, this]
  · simp [List.filter_append]
theorem groupsK_last {key : α → β} {xs : List α} (hne : xs ≠ []) (h : Together key xs) : ∃ gs g, groupsK key xs = gs ++ [g] ∧ g ≠ [] ∧ g.getLast? = xs.getLast? := by
  refine snoc_ind (P := fun xs => xs ≠ [] → Together key xs → ∃ gs g, groupsK key xs = gs ++ [g] ∧ g ≠ [] ∧ g.getLast? = xs.getLast?) (fun h => absurd rfl h) (fun xs x ih _ h => ?_) xs hne h
  by_cases hl : xs.getLast?.map key = some (key x)
  · have hx : xs ≠ [] := by intro e; rw [e] at hl; cases hl
    obtain ⟨gs, g, e, _, _⟩ := ih hx h.init
    exact ⟨gs, g ++ [x], by rw [groupsK_same h hl, e, addLast_snoc], by simp, by simp⟩
  · exact ⟨groupsK key xs, [x], groupsK_new h hl, by simp, by simp⟩
theorem groupsK_one (key : α → β) (x : α) : groupsK key [x] = [[x]] := by simp [groupsK, headsK]
theorem groupsK_sub {key : α → β} {xs : List α} {g : List α} (h : g ∈ groupsK key xs) : List.Sublist g xs := by
  obtain ⟨k, _, rfl⟩ := List.mem_map.1 h
  exact List.filter_sublist
/-- groups within groups -/
def groups2 (k1 : α → β) (k2 : α → γ) (xs : List α) : List (List (List α)) := (groupsK k1 xs).map (groupsK k2)
def addLast2 (x : α) (gs : List (List (List α))) : List (List (List α)) := gs.dropLast ++ [addLast x (gs.getLast?.getD [])]
def newLast2 (x : α) (gs : List (List (List α))) : List (List (List α)) := gs.dropLast ++ [(gs.getLast?.getD []) ++ [[x]]]
theorem addLast2_snoc (x : α) (gs : List (List (List α))) (g : List (List α)) : addLast2 x (gs ++ [g]) = gs ++ [addLast x g] := by unfold addLast2; simp
theorem newLast2_snoc (x : α) (gs : List (List (List α))) (g : List (List α)) : newLast2 x (gs ++ [g]) = gs ++ [g ++ [[x]]] := by unfold newLast2; simp
theorem groups2_new {k1 : α → β} {k2 : α → γ} {xs : List α} {x : α} (h : Together k1 (xs ++ [x])) (hl : xs.getLast?.map k1 ≠ some (k1 x)) : groups2 k1 k2 (xs ++ [x]) = groups2 k1 k2 xs ++ [[[x]]] := by
  unfold groups2
  rw [groupsK_new h hl, List.map_append, List.map_singleton, groupsK_one]
theorem groups2_mid {k1 : α → β} {k2 : α → γ} {xs : List α} {x : α} (h : Together k1 (xs ++ [x])) (h2 : Together k2 (xs ++ [x])) (hl : xs.getLast?.map k1 = some (k1 x)) (hl2 : xs.getLast?.map k2 ≠ some (k2 x)) : groups2 k1 k2 (xs ++ [x]) = newLast2 x (groups2 k1 k2 xs) := by
  have hx : xs ≠ [] := by intro e; rw [e] at hl; cases hl
  obtain ⟨gs, g, e, _, e2⟩ := groupsK_last hx h.init
  have hs : List.Sublist g xs := groupsK_sub (key := k1) (by rw [e]; simp)
  unfold groups2
  rw [groupsK_same h hl, e, addLast_snoc, List.map_append, List.map_append, List.map_singleton, List.map_singleton, newLast2_snoc]
  rw [groupsK_new (h2.sub (hs.append (List.Sublist.refl _))) (by rw [e2]; exact hl2)]
theorem groups2_same {k1 : α → β} {k2 : α → γ} {xs : List α} {x : α} (h : Together k1 (xs ++ [x])) (h2 : Together k2 (xs ++ [x])) (hl : xs.getLast?.map k1 = some (k1 x)) (hl2 : xs.getLast?.map k2 = some (k2 x)) : groups2 k1 k2 (xs ++ [x]) = addLast2 x (groups2 k1 k2 xs) := by
  have hx : xs ≠ [] := by intro e; rw [e] at hl; cases hl
  obtain ⟨gs, g, e, _, e2⟩ := groupsK_last hx h.init
  have hs : List.Sublist g xs := groupsK_sub (key := k1) (by rw [e]; simp)
  unfold groups2
  rw [groupsK_same h hl, e, addLast_snoc, List.map_append, List.map_append, List.map_singleton, List.map_singleton, addLast2_snoc]
  rw [groupsK_same (h2.sub (hs.append (List.Sublist.refl _))) (by rw [e2]; exact hl2)]
/-- as the reference writes it: each inner group is taken from the whole list -/
theorem groups2_eq {k1 : α → β} {k2 : α → γ} (hr : ∀ a b, k2 a = k2 b → k1 a = k1 b) (xs : List α) :
    groups2 k1 k2 xs = (headsK k1 xs).map fun h => (headsK k2 (xs.filter fun a => decide (k1 a = h))).map fun h' => xs.filter fun a => decide (k2 a = h') := by
  unfold groups2 groupsK
  rw [List.map_map]
  refine List.map_congr_left fun h _ => ?_
  refine List.map_congr_left fun h' hh => ?_
  obtain ⟨c, hc, rfl⟩ := (mem_headsK k2 h' _).1 hh
  have hk : k1 c = h := by have := (List.mem_filter.1 hc).2; simpa using this
  rw [List.filter_filter]
  refine List.filter_congr fun a _ => ?_
  by_cases e : k2 a = k2 c
  · have := hr a c e; simp [e, this, hk]
  · simp [e]
theorem sub3_append {a b c : α} {xs ys : List α} (h : List.Sublist [a, b, c] (xs ++ ys)) :
    List.Sublist [a, b, c] xs ∨ (List.Sublist [a, b] xs ∧ c ∈ ys) ∨ (a ∈ xs ∧ List.Sublist [b, c] ys) ∨ List.Sublist [a, b, c] ys := by
  obtain ⟨l1, l2, e, h1, h2⟩ := List.sublist_append_iff.1 h
  match l1, e with
  | [], e => simp at e; subst e; exact .inr (.inr (.inr h2))
  | [x], e => simp at e; obtain ⟨rfl, rfl⟩ := e; exact .inr (.inr (.inl ⟨List.singleton_sublist.1 h1, h2⟩))
  | [x, y], e => simp at e; obtain ⟨rfl, rfl, rfl⟩ := e; exact .inr (.inl ⟨h1, List.singleton_sublist.1 h2⟩)
  | [x, y, z], e => simp at e; obtain ⟨rfl, rfl, rfl, _⟩ := e; exact .inl h1
  | x :: y :: z :: t :: l, e => simp at e
theorem sub2_append {b c : α} {xs ys : List α} (h : List.Sublist [b, c] (xs ++ ys)) : List.Sublist [b, c] xs ∨ (b ∈ xs ∧ c ∈ ys) ∨ List.Sublist [b, c] ys := by
  obtain ⟨l1, l2, e, h1, h2⟩ := List.sublist_append_iff.1 h
  match l1, e with
  | [], e => simp at e; subst e; exact .inr (.inr h2)
  | [x], e => simp at e; obtain ⟨rfl, rfl⟩ := e; exact .inr (.inl ⟨List.singleton_sublist.1 h1, List.singleton_sublist.1 h2⟩)
  | [x, y], e => simp at e; obtain ⟨rfl, rfl, _⟩ := e; exact .inl h1
  | x :: y :: z :: l, e => simp at e
/-- blocks that a tag tells apart -/
theorem Together.blocks {ι τ : Type} {key : α → β} {f : ι → List α} {tag : α → τ} {g : ι → τ} : ∀ (vs : List ι), (vs.map g).Nodup → (∀ v ∈ vs, ∀ a ∈ f v, tag a = g v) → (∀ v ∈ vs, ∀ a ∈ f v, ∀ u ∈ vs, ∀ c ∈ f u, key a = key c → tag a = tag c) → (∀ v ∈ vs, Together key (f v)) → Together key (vs.flatMap f)
  | [], _, _, _, _ => fun a b c h => by simp at h
  | v :: vs, hnd, ht, hk, hf => fun a b c h e => by
    rw [List.flatMap_cons] at h
    rw [List.map_cons, List.nodup_cons] at hnd
    have no : ∀ a ∈ f v, ∀ c ∈ vs.flatMap f, key a = key c → False := fun a ha c hc e => by
      obtain ⟨u, hu, hc⟩ := List.mem_flatMap.1 hc
      have h1 := hk v List.mem_cons_self a ha u (List.mem_cons_of_mem _ hu) c hc e
      rw [ht v List.mem_cons_self a ha, ht u (List.mem_cons_of_mem _ hu) c hc] at h1
      exact hnd.1 (h1 ▸ List.mem_map_of_mem hu)
    rcases sub3_append h with h | ⟨h, hc⟩ | ⟨ha, h⟩ | h
    · exact hf v List.mem_cons_self a b c h e
    · exact (no a (h.subset (by simp)) c hc e).elim
    · exact (no a ha c (h.subset (by simp)) e).elim
    · exact Together.blocks vs hnd.2 (fun u hu => ht u (List.mem_cons_of_mem _ hu)) (fun u hu a ha t ht2 => hk u (List.mem_cons_of_mem _ hu) a ha t (List.mem_cons_of_mem _ ht2)) (fun u hu => hf u (List.mem_cons_of_mem _ hu)) a b c h e
/-- blocks of one key each -/
theorem sub2_flat {ι : Type} {f : ι → List α} {b c : α} : ∀ (ys : List ι), List.Sublist [b, c] (ys.flatMap f) → ∃ p q, p ∈ ys ∧ q ∈ ys ∧ b ∈ f p ∧ c ∈ f q ∧ (p = q ∨ List.Sublist [p, q] ys)
  | [], h => by simp at h
  | y :: ys, h => by
    rw [List.flatMap_cons] at h
    rcases sub2_append h with h | ⟨hb, hc⟩ | h
    · exact ⟨y, y, List.mem_cons_self, List.mem_cons_self, h.subset (by simp), h.subset (by simp), .inl rfl⟩
    · obtain ⟨q, hq, hc⟩ := List.mem_flatMap.1 hc
      exact ⟨y, q, List.mem_cons_self, List.mem_cons_of_mem _ hq, hb, hc, .inr (List.Sublist.cons_cons _ (List.singleton_sublist.2 hq))⟩
    · obtain ⟨p, q, h1, h2, h3, h4, h5⟩ := sub2_flat ys h
      exact ⟨p, q, List.mem_cons_of_mem _ h1, List.mem_cons_of_mem _ h2, h3, h4, h5.imp id fun h => h.cons _⟩
theorem Together.flat {ι : Type} {key : α → β} {key0 : ι → β} {f : ι → List α} : ∀ (ys : List ι), (∀ y ∈ ys, ∀ a ∈ f y, key a = key0 y) → Together key0 ys → Together key (ys.flatMap f)
  | [], _, _ => fun a b c h => by simp at h
  | y :: ys, hk, ht => fun a b c h e => by
    rw [List.flatMap_cons] at h
    have k0 := hk y List.mem_cons_self
    have kr : ∀ q ∈ ys, ∀ c ∈ f q, key c = key0 q := fun q hq => hk q (List.mem_cons_of_mem _ hq)
    rcases sub3_append h with h | ⟨h, hc⟩ | ⟨ha, h⟩ | h
    · rw [k0 b (h.subset (by simp)), k0 c (h.subset (by simp))]
    · rw [k0 b (h.subset (by simp)), ← k0 a (h.subset (by simp)), e]
    · obtain ⟨p, q, h1, h2, h3, h4, h5⟩ := sub2_flat ys h
      rw [kr p h1 b h3, kr q h2 c h4]
      rcases h5 with rfl | h5
      · rfl
      · refine ht y p q (List.Sublist.cons_cons _ h5) ?_
        rw [← k0 a ha, ← kr q h2 c h4, e]
    · exact Together.flat ys (fun q hq => hk q (List.mem_cons_of_mem _ hq)) (ht.sub (List.sublist_cons_self _ _)) a b c h e
end
end Go.Proofs.YtgogjbnneoadkaaGreat
