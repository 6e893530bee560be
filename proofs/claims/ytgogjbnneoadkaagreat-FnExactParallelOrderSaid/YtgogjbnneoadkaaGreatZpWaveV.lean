/- What WaveOrder and ParallelOrder answer, in plain Lean. -/
import Derived.Test.YtgogjbnneoadkaaGreatZpWaveF
import Derived.Test.YtgogjbnneoadkaaGreatZpPointIn
import Derived.Test.YtgogjbnneoadkaaGreatZpActs
import Derived.Test.YtgogjbnneoadkaaGreatZpOrder
set_option linter.all false
set_option linter.unusedSimpArgs false
set_option linter.unusedVariables false
namespace Go.Proofs.YtgogjbnneoadkaaGreat

theorem catN_flat {α : Type} (f : Nat → List α) : ∀ n, catN f n = (List.range n).flatMap f
  | 0 => rfl
  | n + 1 => by rw [List.range_succ, List.flatMap_append, ← catN_flat f n]; simp [catN]
theorem pts_pre : ∀ (ls : List Lp) (p : List Int), ∀ q ∈ ptsF ls p, q.take p.length = p ∧ q.length = p.length + ls.length
  | [], p, q, h => by
    have : q = p := by simpa [ptsF] using h
    subst this; simp
  | l :: ls, p, q, h => by
    rw [ptsF, catN_flat] at h
    obtain ⟨k, _, hq⟩ := List.mem_flatMap.1 h
    obtain ⟨h1, h2⟩ := pts_pre ls _ q hq
    refine ⟨?_, by rw [h2]; simp; omega⟩
    have h3 := congrArg (List.take p.length) h1
    rw [List.take_take] at h3
    simpa using h3
theorem together_const {α β : Type} {key : α → β} {xs : List α} {v : β} (h : ∀ a ∈ xs, key a = v) : Together key xs := fun a b c hs _ => by
  rw [h b (hs.subset (by simp)), h c (hs.subset (by simp))]
theorem pts_tog (m : Nat) : ∀ (ls : List Lp) (p : List Int), Together (fun q : List Int => q.take m) (ptsF ls p)
  | [], p => together_const (v := p.take m) fun a h => by
    have : a = p := by simpa [ptsF] using h
    rw [this]
  | l :: ls, p => by
    rcases Nat.lt_or_ge p.length m with hm | hm
    · rw [ptsF, catN_flat]
      refine Together.blocks (tag := fun q : List Int => q.take (p.length + 1)) (g := fun k : Nat => p ++ [loF l p + (k : Int)]) _ ?_ ?_ ?_ fun k _ => pts_tog m ls _
      · exact List.pairwise_map.2 (List.nodup_range.imp fun {a b} h e => h (Int.ofNat_inj.1 (show ((a : Nat) : Int) = ((b : Nat) : Int) by simpa using e)))
      · intro k _ q hq
        have := (pts_pre ls _ q hq).1
        simpa using this
      · intro k _ q _ u _ r _ e
        have h := congrArg (List.take (p.length + 1)) e
        simp only [List.take_take] at h
        rwa [Nat.min_eq_left (by omega)] at h
    · exact together_const (v := p.take m) fun a h => by
        have := congrArg (List.take m) (pts_pre _ _ a h).1
        rwa [List.take_take, Nat.min_eq_left hm] at this
theorem insts_tog (m : Nat) (k : Int) (x : Prt) : Together (fun a : In => a.point.take m) (instsP k x) :=
  Together.flat (key0 := fun q : List Int => q.take m) (ptsOf x) (fun q _ a ha => by
    obtain ⟨s, _, rfl⟩ := List.mem_map.1 ha; rfl) (pts_tog m _ _)
theorem Together.map {α β γ : Type} {key : β → γ} {f : α → β} {xs : List α} (h : Together key (xs.map f)) : Together (fun a => key (f a)) xs := fun a b c hs e => h (f a) (f b) (f c) (hs.map f) e
theorem instsP_part {k : Int} {x : Prt} {a : In} (h : a ∈ instsP k x) : a.part = k := by
  obtain ⟨q, _, ha⟩ := List.mem_flatMap.1 h
  obtain ⟨s, _, rfl⟩ := List.mem_map.1 ha
  rfl
theorem instsFrom_ge : ∀ (ps : List Prt) (k : Int), ∀ a ∈ instsFrom ps k, k ≤ a.part
  | [], _, a, h => by simp [instsFrom] at h
  | x :: xs, k, a, h => by
    rcases List.mem_append.1 h with h | h
    · rw [instsP_part h]; omega
    · have := instsFrom_ge xs (k + 1) a h; omega
theorem insts_part : ∀ (ps : List Prt) (k0 : Int) (j : Nat) (h : j < ps.length), (instsFrom ps k0).filter (fun a => decide (a.part = k0 + (j : Int))) = instsP (k0 + (j : Int)) ps[j]
  | [], _, j, h => absurd h (by simp)
  | x :: xs, k0, 0, _ => by
    have h1 : (instsP k0 x).filter (fun a => decide (a.part = k0 + ((0 : Nat) : Int))) = instsP k0 x := List.filter_eq_self.2 fun a ha => by rw [instsP_part ha]; simp
    have h2 : (instsFrom xs (k0 + 1)).filter (fun a => decide (a.part = k0 + ((0 : Nat) : Int))) = [] := List.filter_eq_nil_iff.2 fun a ha => by have := instsFrom_ge xs (k0 + 1) a ha; simp; omega
    rw [instsFrom, List.filter_append, h1, h2]
    simp
  | x :: xs, k0, j + 1, h => by
    have h1 : (instsP k0 x).filter (fun a => decide (a.part = k0 + ((j + 1 : Nat) : Int))) = [] := List.filter_eq_nil_iff.2 fun a ha => by rw [instsP_part ha]; simp; omega
    have h2 := insts_part xs (k0 + 1) j (by simpa using h)
    have e : k0 + 1 + (j : Int) = k0 + ((j + 1 : Nat) : Int) := by omega
    rw [e] at h2
    rw [instsFrom, List.filter_append, h1, h2, List.nil_append]
    rfl
theorem range_getD {α : Type} (us : List α) (d : α) : (List.range us.length).map (fun i => us.getD i d) = us := by
  apply List.ext_getElem
  · simp
  · intro i h1 h2; simp [List.getD_eq_getElem?_getD, List.getElem?_eq_getElem h2]
/-- the numbers of the elements that pass -/
def idxOf {α : Type} (us : List α) (d : α) (f : α → Bool) : List Nat := (List.range us.length).filter fun i => f (us.getD i d)
theorem idxOf_map {α : Type} (us : List α) (d : α) (f : α → Bool) : (idxOf us d f).map (fun i => us.getD i d) = us.filter f := by
  conv => rhs; rw [← range_getD us d]
  rw [List.filter_map]
  rfl
/-- the numbers of a part's instances: equal beginnings lie together -/
theorem idx_tog (ps : List Prt) (d : In) (j : Nat) (h : j < ps.length) (m : Nat) : Together (fun i => ((instsFrom ps 0).getD i d).point.take m) (idxOf (instsFrom ps 0) d fun a => decide (a.part = (j : Int))) := by
  refine Together.map (key := fun a : In => a.point.take m) (f := fun i => (instsFrom ps 0).getD i d) ?_
  rw [idxOf_map]
  have := insts_part ps 0 j h
  rw [Int.zero_add] at this
  rw [this]
  exact insts_tog _ _ _
theorem idxOf_filter {α : Type} (us : List α) (d : α) (f g : α → Bool) : (idxOf us d f).filter (fun i => g (us.getD i d)) = idxOf us d fun a => f a && g a := by
  unfold idxOf
  rw [List.filter_filter]
  exact List.filter_congr fun i _ => by rw [Bool.and_comm]
/-- as the reference writes it: every group is taken from all instances -/
theorem groups2_idx {α β γ : Type} [DecidableEq β] [DecidableEq γ] (us : List α) (d : α) (f : α → Bool) {k1 : α → β} {k2 : α → γ} (hr : ∀ a b, k2 a = k2 b → k1 a = k1 b) :
    groups2 (fun i => k1 (us.getD i d)) (fun i => k2 (us.getD i d)) (idxOf us d f) = (headsK (fun i => k1 (us.getD i d)) (idxOf us d f)).map fun h =>
      (headsK (fun i => k2 (us.getD i d)) (idxOf us d fun a => f a && decide (k1 a = h))).map fun h' => idxOf us d fun a => f a && decide (k2 a = h') := by
  rw [groups2_eq (fun a b e => hr _ _ e)]
  refine List.map_congr_left fun h _ => ?_
  rw [idxOf_filter us d f (fun a => decide (k1 a = h))]
  refine List.map_congr_left fun h' _ => ?_
  rw [idxOf_filter us d f (fun a => decide (k2 a = h'))]
theorem take_refine {m : Nat} {a b : List Int} (h : a.take (m + 1) = b.take (m + 1)) : a.take m = b.take m := by
  have := congrArg (List.take m) h
  rwa [List.take_take, List.take_take, Nat.min_eq_left (by omega)] at this
end Go.Proofs.YtgogjbnneoadkaaGreat
set_option linter.all false
set_option linter.unusedSimpArgs false
set_option linter.unusedVariables false
namespace Go.Proofs.YtgogjbnneoadkaaGreat
open Go.ChangeShapes Go.WideShapes Go.ChangeAt Go.RowKit Go.Deep

end Go.Proofs.YtgogjbnneoadkaaGreat
set_option linter.all false
set_option linter.unusedSimpArgs false
set_option linter.unusedVariables false
namespace Go.Proofs.YtgogjbnneoadkaaGreat
open Go.ChangeShapes Go.WideShapes Go.ChangeAt Go.RowKit Go.Deep

def choiceF (ch : List Int) (m : Nat) (many : Nat) : Int := if ch = [] then 0 else max 0 (Int.tmod (gi ch (m % ch.length)) (many : Int))
theorem choiceF_bd (ch : List Int) (m : Nat) {many : Nat} (h : 0 < many) : 0 ≤ choiceF ch m many ∧ choiceF ch m many < (many : Int) := by
  unfold choiceF
  split
  · omega
  · have := Int.tmod_lt_of_pos (gi ch (m % ch.length)) (show (0 : Int) < (many : Int) by omega)
    omega
end Go.Proofs.YtgogjbnneoadkaaGreat
set_option linter.all false
set_option linter.unusedSimpArgs false
set_option linter.unusedVariables false
namespace Go.Proofs.YtgogjbnneoadkaaGreat

def dIn : In := ⟨0, 0, []⟩
def ptK (us : List In) (m i : Nat) : List Int := (us.getD i dIn).point.take m
def toI (l : List Nat) : List Int := l.map Int.ofNat
def toI3 (G : List (List (List Nat))) : List (List (List Int)) := G.map fun g => g.map toI
def partB (k : Nat) (a : In) : Bool := decide (a.part = (k : Int))
/-- the numbers below j of the instances that pass -/
def ixTo (us : List In) (f : In → Bool) (j : Nat) : List Nat := (List.range j).filter fun i => f (us.getD i dIn)
theorem ixTo_all (us : List In) (f : In → Bool) : ixTo us f us.length = idxOf us dIn f := rfl
theorem ixTo_succ (us : List In) (f : In → Bool) (j : Nat) : ixTo us f (j + 1) = ixTo us f j ++ (if f (us.getD j dIn) then [j] else []) := by
  unfold ixTo
  rw [List.range_succ, List.filter_append]
  congr 1
  cases h : f (us.getD j dIn) with
  | true => rw [List.filter_cons_of_pos (by exact h)]; rfl
  | false => rw [List.filter_cons_of_neg (by rw [h]; simp)]; rfl
theorem ixTo_lt {us : List In} {f : In → Bool} {j i : Nat} (h : i ∈ ixTo us f j) : i < j ∧ f (us.getD i dIn) = true := by
  obtain ⟨h1, h2⟩ := List.mem_filter.1 h
  exact ⟨List.mem_range.1 h1, h2⟩
theorem ixTo_len (us : List In) (f : In → Bool) (j : Nat) : (ixTo us f j).length ≤ j := by
  have := List.length_filter_le (fun i => f (us.getD i dIn)) (List.range j)
  rwa [List.length_range] at this
theorem ixTo_sub (us : List In) (f : In → Bool) {j k : Nat} (h : j ≤ k) : List.Sublist (ixTo us f j) (ixTo us f k) := by
  refine List.Sublist.filter _ ?_
  rw [show k = j + (k - j) by omega, List.range_add]
  exact List.sublist_append_left _ _
theorem idxOf_congr {us : List In} {f g : In → Bool} (h : ∀ a ∈ us, f a = g a) : idxOf us dIn f = idxOf us dIn g := by
  refine List.filter_congr fun i hi => ?_
  have hi := List.mem_range.1 hi
  have : us.getD i dIn ∈ us := by rw [List.getD_eq_getElem?_getD, List.getElem?_eq_getElem hi]; exact List.getElem_mem hi
  rw [h _ this]
def grpsF (us : List In) (k m : Nat) : List (List (List Nat)) := groups2 (ptK us m) (ptK us (m + 1)) (idxOf us dIn (partB k))
def befF (us : List In) (k : Nat) : List Nat := idxOf us dIn fun a => decide (a.part < (k : Int))
def aftF (us : List In) (k : Nat) : List Nat := idxOf us dIn fun a => decide ((k : Int) < a.part)
def loopThere (p : Pgm) (part loop : Int) : Prop := (0 ≤ part ∧ part < (p.parts.length : Int)) ∧ 0 ≤ loop ∧ loop < ((p.parts.getD part.toNat ⟨[], []⟩).nest.length : Int)
instance (p : Pgm) (part loop : Int) : Decidable (loopThere p part loop) := by unfold loopThere; infer_instance
def aroundF (p : Pgm) (part loop : Int) (f : List (List (List Nat)) → List Nat) : List Int × Bool :=
  if progOk p = true ∧ loopThere p part loop then (toI (befF (instsF p) part.toNat ++ f (grpsF (instsF p) part.toNat loop.toNat) ++ aftF (instsF p) part.toNat), true) else ([], false)
/-- lists taken by choices, from the n-th choice on -/
def parN (ch : List Int) : Nat → Nat → List (List Nat) → List Nat
  | 0, _, _ => []
  | m + 1, n, gs => gs.getD (choiceF ch n gs.length).toNat [] ++ parN ch m (n + 1) (gs.eraseIdx (choiceF ch n gs.length).toNat)
def parG (ch : List Int) : Nat → List (List (List Nat)) → List Nat
  | _, [] => []
  | n, g :: G => parN ch g.length n g ++ parG ch (n + g.length) G
def ParallelOrderF (p : Pgm) (part loop : Int) (ch : List Int) : List Int × Bool := aroundF p part loop (parG ch 0)

section
variable {α β γ : Type} [DecidableEq β] [DecidableEq γ]
theorem groupsK_flat {key : α → β} {xs : List α} (h : Together key xs) : (groupsK key xs).flatten = xs := by
  refine snoc_ind (P := fun xs => Together key xs → (groupsK key xs).flatten = xs) (fun _ => by simp [groupsK, headsK]) (fun xs x ih h => ?_) xs h
  by_cases hl : xs.getLast?.map key = some (key x)
  · have hx : xs ≠ [] := by intro e; rw [e] at hl; cases hl
    obtain ⟨gs, g, e, _, _⟩ := groupsK_last hx h.init
    have ih := ih h.init
    rw [e] at ih
    rw [groupsK_same h hl, e, addLast_snoc]
    simp only [List.flatten_append, List.flatten_cons, List.flatten_nil, List.append_nil] at ih ⊢
    rw [← List.append_assoc, ih]
  · rw [groupsK_new h hl, List.flatten_append, ih h.init]; simp
theorem groupsK_ne {key : α → β} {xs : List α} {g : List α} (h : g ∈ groupsK key xs) : g ≠ [] := by
  obtain ⟨k, hk, rfl⟩ := List.mem_map.1 h
  obtain ⟨a, ha, e⟩ := (mem_headsK key k xs).1 hk
  intro h0
  have : a ∈ xs.filter fun a => decide (key a = k) := List.mem_filter.2 ⟨ha, by simpa using e⟩
  rw [h0] at this; cases this
theorem flatten_len {xs : List (List α)} (h : ∀ g ∈ xs, g ≠ []) : xs.length ≤ xs.flatten.length := by
  induction xs with
  | nil => simp
  | cons x xs ih =>
    have h1 := ih fun g hg => h g (List.mem_cons_of_mem _ hg)
    have h2 := List.length_pos_iff.2 (h x List.mem_cons_self)
    simp only [List.length_cons, List.flatten_cons, List.length_append]; omega
theorem mem_flatten_len {xs : List (List α)} {g : List α} (h : g ∈ xs) : g.length ≤ xs.flatten.length := by
  have := (List.sublist_flatten_of_mem h).length_le
  exact this
theorem headsK_len (key : α → β) (xs : List α) : (headsK key xs).length ≤ xs.length := by
  refine snoc_ind (P := fun xs => (headsK key xs).length ≤ xs.length) (by simp [headsK]) (fun xs x ih => ?_) xs
  rw [headsK_snoc, List.length_append, List.length_singleton]
  split
  · omega
  · rw [List.length_append, List.length_singleton]; omega
/-- the last list, written out -/
theorem grps_mid {k1 : α → β} {k2 : α → γ} {xs : List α} {x : α} (h : Together k1 (xs ++ [x])) (h2 : Together k2 (xs ++ [x])) (hl : xs.getLast?.map k1 = some (k1 x)) (hl2 : xs.getLast?.map k2 ≠ some (k2 x)) :
    ∃ Gs g, groups2 k1 k2 xs = Gs ++ [g] ∧ groups2 k1 k2 (xs ++ [x]) = Gs ++ [g ++ [[x]]] := by
  have hx : xs ≠ [] := by intro e; rw [e] at hl; cases hl
  obtain ⟨gs, g, e, _, _⟩ := groupsK_last hx h.init
  have e2 : groups2 k1 k2 xs = gs.map (groupsK k2) ++ [groupsK k2 g] := by unfold groups2; rw [e, List.map_append, List.map_singleton]
  exact ⟨_, _, e2, by rw [groups2_mid h h2 hl hl2, e2, newLast2_snoc]⟩
theorem grps_same {k1 : α → β} {k2 : α → γ} {xs : List α} {x : α} (h : Together k1 (xs ++ [x])) (h2 : Together k2 (xs ++ [x])) (hl : xs.getLast?.map k1 = some (k1 x)) (hl2 : xs.getLast?.map k2 = some (k2 x)) :
    ∃ Gs g l, groups2 k1 k2 xs = Gs ++ [g ++ [l]] ∧ groups2 k1 k2 (xs ++ [x]) = Gs ++ [g ++ [l ++ [x]]] := by
  have hx : xs ≠ [] := by intro e; rw [e] at hl; cases hl
  obtain ⟨gs, g, e, hg, _⟩ := groupsK_last hx h.init
  have hs : List.Sublist g xs := groupsK_sub (key := k1) (by rw [e]; simp)
  obtain ⟨ls, l, e3, _, _⟩ := groupsK_last hg (h2.init.sub hs)
  have e2 : groups2 k1 k2 xs = gs.map (groupsK k2) ++ [ls ++ [l]] := by unfold groups2; rw [e, List.map_append, List.map_singleton, e3]
  exact ⟨_, _, _, e2, by rw [groups2_same h h2 hl hl2, e2, addLast2_snoc, addLast_snoc]⟩
theorem groups2_flat {k1 : α → β} {k2 : α → γ} {xs : List α} (h : Together k1 xs) (h2 : Together k2 xs) : (groups2 k1 k2 xs).flatten.flatten = xs := by
  unfold groups2
  have key : ∀ L : List (List α), (∀ g ∈ L, Together k2 g) → (L.map (groupsK k2)).flatten.flatten = L.flatten := fun L hL => by
    induction L with
    | nil => rfl
    | cons g L ih =>
      rw [List.map_cons, List.flatten_cons, List.flatten_append, groupsK_flat (hL g List.mem_cons_self), ih fun g hg => hL g (List.mem_cons_of_mem _ hg)]; rfl
  rw [key _ fun g hg => h2.sub (groupsK_sub hg), groupsK_flat h]
theorem groups2_ne {k1 : α → β} {k2 : α → γ} {xs : List α} {g : List (List α)} (h : g ∈ groups2 k1 k2 xs) : g ≠ [] ∧ ∀ l ∈ g, l ≠ [] := by
  obtain ⟨g0, hg0, rfl⟩ := List.mem_map.1 h
  refine ⟨fun e => ?_, fun l hl => groupsK_ne hl⟩
  have h0 := groupsK_ne hg0
  rcases g0 with _ | ⟨a, g0⟩
  · exact h0 rfl
  · obtain ⟨k, hk⟩ : ∃ k, k ∈ headsK k2 (a :: g0) := ⟨k2 a, (mem_headsK k2 _ _).2 ⟨a, List.mem_cons_self, rfl⟩⟩
    unfold groupsK at e
    rw [List.map_eq_nil_iff] at e
    rw [e] at hk; cases hk
theorem groups2_mem {k1 : α → β} {k2 : α → γ} {xs : List α} {g : List (List α)} (h : g ∈ groups2 k1 k2 xs) : g.length ≤ xs.length ∧ ∀ l ∈ g, l.length ≤ xs.length := by
  obtain ⟨g0, hg0, rfl⟩ := List.mem_map.1 h
  have h1 := (groupsK_sub hg0).length_le
  refine ⟨?_, fun l hl => Nat.le_trans (groupsK_sub hl).length_le h1⟩
  unfold groupsK
  rw [List.length_map]
  exact Nat.le_trans (headsK_len _ _) h1
end

theorem flat_sub {α : Type} {xs ys : List (List α)} (h : List.Sublist xs ys) : List.Sublist xs.flatten ys.flatten := by
  induction h with
  | slnil => exact List.Sublist.refl _
  | cons a _ ih => rw [List.flatten_cons]; exact ih.trans (List.sublist_append_right _ _)
  | cons_cons a _ ih => rw [List.flatten_cons, List.flatten_cons]; exact (List.Sublist.refl _).append ih
/-- what is known of the groups of a part's instances -/
structure GrpsOk (G : List (List (List Nat))) : Prop where
  n : G.flatten.flatten.length ≤ 120
  ne : ∀ g ∈ G, g ≠ [] ∧ ∀ l ∈ g, l ≠ []
theorem GrpsOk.grp {G : List (List (List Nat))} (h : GrpsOk G) {g : List (List Nat)} (hg : g ∈ G) : g.flatten.length ≤ 120 ∧ g.length ≤ 120 ∧ ∀ l ∈ g, l.length ≤ 120 := by
  have h1 : g.flatten.length ≤ 120 := Nat.le_trans ((flat_sub (List.sublist_flatten_of_mem hg)).length_le) h.n
  refine ⟨h1, Nat.le_trans (flatten_len (h.ne g hg).2) h1, fun l hl => Nat.le_trans (mem_flatten_len hl) h1⟩
theorem GrpsOk.len {G : List (List (List Nat))} (h : GrpsOk G) : G.flatten.length ≤ 120 ∧ G.length ≤ 120 := by
  have h1 : G.flatten.length ≤ 120 := Nat.le_trans (flatten_len fun l hl => by
    obtain ⟨g, hg, hl⟩ := List.mem_flatten.1 hl
    exact (h.ne g hg).2 l hl) h.n
  exact ⟨h1, Nat.le_trans (flatten_len fun g hg => (h.ne g hg).1) h1⟩
theorem progOk_insts {p : Pgm} (hv : progOk p = true) : (instsF p).length ≤ 120 := (progOk_all hv).2.2
theorem ptK_tog {p : Pgm} {k : Nat} (hk : k < p.parts.length) (m : Nat) : Together (ptK (instsF p) m) (idxOf (instsF p) dIn (partB k)) := idx_tog p.parts dIn k hk m
theorem grpsF_ok {p : Pgm} (hv : progOk p = true) {k : Nat} (hk : k < p.parts.length) (m : Nat) : GrpsOk (grpsF (instsF p) k m) :=
  ⟨by unfold grpsF; rw [groups2_flat (ptK_tog hk m) (ptK_tog hk (m + 1))]; exact Nat.le_trans (ixTo_len _ _ _) (progOk_insts hv), fun g hg => groups2_ne hg⟩
end Go.Proofs.YtgogjbnneoadkaaGreat
