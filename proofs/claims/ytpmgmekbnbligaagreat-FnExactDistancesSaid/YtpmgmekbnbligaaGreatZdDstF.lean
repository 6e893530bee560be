/- Distances in plain Lean: the differences of the points of a part's dependences. -/
import Derived.Test.YtpmgmekbnbligaaGreatZdShSort
import Derived.Test.YtpmgmekbnbligaaGreatZdDstC
import Derived.Test.YtpmgmekbnbligaaGreatZdSame
import Derived.Test.YtpmgmekbnbligaaGreatZdDstV
import Derived.Test.YtpmgmekbnbligaaGreatZdActs
set_option linter.all false
set_option linter.unusedSimpArgs false
set_option linter.unusedVariables false
namespace Go.Proofs.YtpmgmekbnbligaaGreat
open Go.ChangeShapes Go.WideShapes Go.ChangeAt Go.RowKit Go.Deep Go.Sort

abbrev InT (T : List Tri) := { t : Tri // t ∈ T }
def encT {T : List Tri} (s : InT T) : Value := s.1.e
def cfT {T : List Tri} (s t : InT T) : Int := cmpL s.1.x t.1.x
theorem swoT (T : List Tri) : SWO (ltOf (cfT (T := T))) where
  irrefl x := decide_eq_false (by unfold cfT; rw [cmpL_self]; omega)
  trans x y z h k := decide_eq_true (cmpL_trans (of_decide_eq_true h) (of_decide_eq_true k))
  ntrans x y z h k := decide_eq_false fun hlt => by
    have h1 := of_decide_eq_false h
    have h2 := of_decide_eq_false k
    unfold cfT at h1 h2 hlt
    have h3 := cmpL_anti x.1.x y.1.x
    exact h2 (cmpL_le_lt (by omega) hlt)
theorem sw_touch {α : Type} [Inhabited α] {enc : α → Value} {w : World} {g m : Nat} {dk : Array α} {os : Array Obj} : Touch [g] w (sortWorld enc w g 0 m dk os) := by
  have hs : (putRow enc (Sort.ahead w m) g 0 dk).heap.size = w.heap.size := by rw [size_putRow]; rfl
  refine ⟨rfl, rfl, rfl, by unfold sortWorld; rw [size_grow, hs]; omega, fun y hy hn => ?_⟩
  have hne : g ≠ y := fun e => hn (by simp [e])
  show ((putRow enc (Sort.ahead w m) g 0 dk).heap ++ os)[y]? = w.heap[y]?
  rw [Array.getElem?_append_left (by rw [hs]; exact hy)]
  show (w.heap.modify g _)[y]? = _
  rw [Array.getElem?_modify, if_neg hne]
theorem put_cells {α : Type} [Inhabited α] {enc : α → Value} {dk : Array α} {cs rest : List Value} (h : cs.length = dk.size) : putCells enc 0 dk (cs ++ rest).toArray = (dk.toList.map enc ++ rest).toArray := by
  apply Array.ext_getElem?
  intro k
  simp only [putCells, Array.getElem?_mapIdx, List.getElem?_toArray, Nat.zero_add, Nat.sub_zero]
  rcases Nat.lt_or_ge k dk.size with hk | hk
  · rw [List.getElem?_append_left (by omega), List.getElem?_append_left (by simpa using hk), List.getElem?_eq_getElem (by omega), List.getElem?_map, Array.getElem?_toList, Array.getElem?_eq_getElem hk]
    simp [hk, getElem!_pos]
  · rw [List.getElem?_append_right (by omega), List.getElem?_append_right (by simpa using hk)]
    simp only [List.length_map, Array.length_toList, h]
    cases rest[k - dk.size]? with
    | none => rfl
    | some x => simp; omega
theorem sw_row {α : Type} [Inhabited α] {enc : α → Value} {w : World} {g m c : Nat} {ty : TypeId} {dk : Array α} {os : Array Obj} {cs : List Value} (h : RowV w g ty c cs) (hl : cs.length = dk.size) : RowV (sortWorld enc w g 0 m dk os) g ty c (dk.toList.map enc) := by
  obtain ⟨rest, h, hc⟩ := h
  refine ⟨rest, ?_, by simp; omega⟩
  have hlt := h.lt
  have hs : (putRow enc (Sort.ahead w m) g 0 dk).heap.size = w.heap.size := by rw [size_putRow]; rfl
  show ((putRow enc (Sort.ahead w m) g 0 dk).heap ++ os)[g]? = _
  rw [Array.getElem?_append_left (by rw [hs]; exact hlt)]
  show (w.heap.modify g _)[g]? = _
  rw [Array.getElem?_modify, if_pos rfl]
  unfold Row at h
  rw [h, Option.map_some, onCells, put_cells hl]
theorem triB_perm {T T' : List Tri} (h : T'.Perm T) : (TriB T').Perm (TriB T) := by
  unfold TriB
  induction h with
  | nil => exact .nil
  | cons x _ ih => simp only [List.flatMap_cons]; exact ih.append_left _
  | swap x y l =>
    simp only [List.flatMap_cons, ← List.append_assoc]
    exact List.perm_append_comm.append_right _
  | trans _ _ ih1 ih2 => exact ih1.trans ih2
set_option maxRecDepth 100000 in
set_option maxHeartbeats 2000000 in
theorem SortT_c {w : World} {B : Nat} {ty : TypeId} {T : List Tri} {g n c : Nat} (h : GrowT w B ty (.slice (some ⟨g, 0, none⟩) n c) T) (hn : T.length = n) (h0 : 0 < n) (hl : n ≤ 1000000) :
    Calls Tryz.prog 61 #[.slice (some ⟨g, 0, none⟩) n c, .func (.func 62) #[] #[]] w fun e w' => e = .returned (.tuple #[]) ∧ ∃ T' : List Tri, T'.Perm T ∧ Ris (T'.map Tri.x) ∧ GrowT w' B ty (.slice (some ⟨g, 0, none⟩) n c) T' ∧ Touch [g] w w' := by
  subst hn
  obtain ⟨hV, hgB, hcm, hnc⟩ := own_rowV h.own
  have hOK := h.okT
  haveI : Inhabited (InT T) := ⟨⟨T[0], List.getElem_mem h0⟩⟩
  have hds : T.attach.toArray.size = T.length := by simp
  have hcmp : CmpLays1 Tryz.prog 62 #[] (encT (T := T)) cfT g 0 T.attach.toArray.size w := fun m os dk hs x y => by
    have t1 : Touch [g] w (sortWorld encT w g 0 m dk os) := sw_touch
    have o1 := (hOK.tch t1) x.1 x.2
    have o2 := (hOK.tch t1) y.1 y.2
    obtain ⟨A1, c1, e1⟩ := o1.1.form
    obtain ⟨A2, c2, e2⟩ := o2.1.form
    have h1 := o1.1
    have h2 := o2.1
    unfold Tri.ok at h1 h2
    rw [e1] at h1
    rw [e2] at h2
    have hE : (#[encT x, encT y] ++ #[] : Array Value) = #[.slice A1 x.1.x.length c1, .slice A2 y.1.x.length c2] := by rw [← e1, ← e2]; rfl
    rw [hE]
    refine (CompareL_c h1 h2).mono ?_
    rintro e w' ⟨rfl, rfl⟩
    exact ⟨rfl, 0, #[], by rw [grow_empty]; rfl⟩
  have hH : Holds (encT (T := T)) w g 0 T.attach.toArray := fun j hj => by
    rw [hds] at hj
    have k1 := hV.cell (i := j) (by simpa using hj)
    rw [Nat.zero_add]
    refine ⟨?_, hV.frozen j⟩
    rw [k1, getElem!_pos _ j (by simpa using hj)]
    simp [encT]
  have hc := Tryz.slices_SortFunc encT (fun s => (h.ok s.1 s.2).one) cfT (swoT T) 62 #[] g 0 c T.attach.toArray w (enters_of Tryz.func62 (by kernel_rfl) rfl) hcmp hH (by obtain ⟨rest, hr, _⟩ := hV; exact hr.lt) (by rw [hds]; omega)
  rw [hds] at hc
  refine hc.mono ?_
  rintro e w' ⟨rfl, d', m, os, hp, hso, rfl⟩
  have hsz : d'.size = T.length := hp.1.trans hds
  have hpm : d'.toList.Perm T.attach := by
    have h1 := hp.2.2
    rw [show d'.extract 0 T.length = d' by rw [← hsz]; simp, show T.attach.toArray.extract 0 T.length = T.attach.toArray by simp; rw [List.take_of_length_le (by simp)]] at h1
    simpa using h1
  have hpT : (d'.toList.map Subtype.val).Perm T := by
    have := hpm.map (Subtype.val)
    simpa using this
  have tw : Touch [g] w (sortWorld encT w g 0 m d' os) := sw_touch
  have hR := sw_row (enc := encT (T := T)) (m := m) (os := os) hV (dk := d') (by rw [List.length_map]; exact hsz.symm)
  have hE : d'.toList.map (encT (T := T)) = (d'.toList.map Subtype.val).map Tri.e := by rw [List.map_map]; rfl
  rw [hE] at hR
  refine ⟨rfl, d'.toList.map Subtype.val, hpT, ?_, ⟨?_, fun t ht => ((hOK.tch tw) t (hpT.mem_iff.1 ht)).1, ?_, fun y hy => h.ge y ((triB_perm hpT).mem_iff.1 hy)⟩, tw⟩
  · unfold Ris
    rw [List.pairwise_iff_getElem]
    intro i j hi hj hij
    simp only [List.length_map, Array.length_toList] at hi hj
    have h1 := hso i j (Nat.zero_le _) hij (by omega)
    have h2 := of_decide_eq_false h1
    rw [getElem!_pos d' i hi, getElem!_pos d' j hj] at h2
    unfold cfT at h2
    simp only [List.getElem_map, Array.getElem_toList]
    have := cmpL_anti d'[i].1.x d'[j].1.x
    omega
  · have := rowV_own (k := T.length) hR hgB hcm (by simp [hsz])
    rw [List.take_of_length_le (by simp [hsz])] at this
    rw [hpT.length_eq]; exact this
  · have h1 := h.nd
    rw [ownL_some] at h1 ⊢
    exact (((triB_perm hpT).append_left [g]).nodup_iff).2 h1
end Go.Proofs.YtpmgmekbnbligaaGreat
set_option linter.all false
set_option linter.unusedSimpArgs false
set_option linter.unusedVariables false
namespace Go.Proofs.YtpmgmekbnbligaaGreat
open Go.ChangeShapes Go.WideShapes Go.ChangeAt Go.RowKit Go.Deep

def nthP (xs : List In) (i : Int) : In := xs.getD i.toNat ⟨0, 0, []⟩
theorem nthP_eq {xs : List In} {i : Nat} (h : i < xs.length) : nthP xs (i : Int) = xs[i] := by simp [nthP, List.getD_eq_getElem?_getD, h]
def minusL (b a : List Int) : List Int := (List.range b.length).map fun i => gi b i - gi a i
def difO (p : Pgm) (k : Int) (d : Dp) : Option (List Int) :=
  if (nthP (instsF p) d.from_).part = k ∧ (nthP (instsF p) d.to_).part = k then some (minusL (nthP (instsF p) d.to_).point (nthP (instsF p) d.from_).point) else none
def diffs (p : Pgm) (k : Int) (ds : List Dp) : List (List Int) := ds.filterMap (difO p k)
def DistancesF (p : Pgm) (k : Int) : List (List Int) := if progOk p then distL (diffs p k (depsF (usesF p))) else []
theorem dst_n {p : Pgm} {k : Int} (h : progOk p = false) : DistancesF p k = [] := by unfold DistancesF; rw [h]; rfl
theorem dst_y {p : Pgm} {k : Int} (h : progOk p = true) : DistancesF p k = distL (diffs p k (depsF (usesF p))) := by unfold DistancesF; rw [h]; rfl
theorem minusL_len (b a : List Int) : (minusL b a).length = b.length := by simp [minusL]
theorem minusL_succ (b a : List Int) (j : Nat) : ((List.range (j + 1)).map fun i => gi b i - gi a i) = ((List.range j).map fun i => gi b i - gi a i) ++ [gi b j - gi a j] := by rw [List.range_succ, List.map_append]; rfl
theorem diffs_y {p : Pgm} {k : Int} {ds : List Dp} {j : Nat} {x : List Int} (hj : j < ds.length) (h : difO p k ds[j] = some x) : diffs p k (ds.take (j + 1)) = diffs p k (ds.take j) ++ [x] := by
  unfold diffs
  rw [List.take_succ_eq_append_getElem hj, List.filterMap_append]
  simp [h]
theorem diffs_n {p : Pgm} {k : Int} {ds : List Dp} {j : Nat} (hj : j < ds.length) (h : difO p k ds[j] = none) : diffs p k (ds.take (j + 1)) = diffs p k (ds.take j) := by
  unfold diffs
  rw [List.take_succ_eq_append_getElem hj, List.filterMap_append]
  simp [h]
theorem diffs_out {p : Pgm} {k : Int} (hv : progOk p = true) (hk : ¬ (0 ≤ k ∧ k < (p.parts.length : Int))) : diffs p k (depsF (usesF p)) = [] := by
  unfold diffs
  rw [List.filterMap_eq_nil_iff]
  intro d hd
  have dp := depsF_mem d hd
  unfold difO
  refine if_neg fun h => hk ?_
  obtain ⟨a, ha⟩ := Int.eq_ofNat_of_zero_le dp.f0
  have ul : (usesF p).length = (instsF p).length := usesF_len p
  have hal : a < (instsF p).length := by have := dp.ft; have := dp.t1; omega
  have h1 := h.1
  rw [ha, nthP_eq hal] at h1
  obtain ⟨q, s, h2, _, hq, _⟩ := (InOk.of_mem (List.getElem_mem hal)).get
  omega
theorem distL_put (ds : List (List Int)) (d : List Int) : distL (ds ++ [d]) = addL (distL ds) d := by unfold distL; rw [List.foldl_append]; rfl
end Go.Proofs.YtpmgmekbnbligaaGreat
