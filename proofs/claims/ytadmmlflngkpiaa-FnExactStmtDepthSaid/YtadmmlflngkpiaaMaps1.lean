/- Texts of this seat, joined: MapF, MapS, MapE, MapT, RdS. -/
import Derived.Test.YtadmmlflngkpiaaStmtOk
import Derived.Test.YtadmmlflngkpiaaVar
import Derived.Test.YtadmmlflngkpiaaCopy
import Derived.Test.YtadmmlflngkpiaaRegionT
import Derived.Test.YtadmmlflngkpiaaAdd1
import Derived.Test.YtadmmlflngkpiaaInOk
import Derived.Deep.CutBlock
import Derived.Test.YtadmmlflngkpiaaReadsS
import Derived.Test.YtadmmlflngkpiaaScanI
/- Expressions in which all affine expressions are changed, in plain Lean; the depth of a statement. -/
set_option linter.all false
set_option linter.unusedSimpArgs false
set_option linter.unusedVariables false
namespace Go.Proofs.Ytadmmlflngkpiaa
open Go.ChangeShapes Go.WideShapes Go.ChangeAt Go.RowKit Go.Deep

def accZero : Acc := ⟨⟨#[]⟩, []⟩
def mapAcc (F : Aff → Aff) (x : Acc) : Acc := ⟨x.arr, x.subs.map F⟩
mutual
def mapEx (F : Aff → Aff) : Ex → Ex
  | ⟨k, n, i, r, ks⟩ => ⟨k, n, if k = 2 then F i else affZero, if k = 3 then mapAcc F r else accZero, mapExs F ks⟩
def mapExs (F : Aff → Aff) : List Ex → List Ex
  | [] => []
  | x :: xs => mapEx F x :: mapExs F xs
end
theorem mapExs_eq (F : Aff → Aff) : (xs : List Ex) → mapExs F xs = xs.map (mapEx F)
  | [] => rfl
  | x :: xs => by simp only [mapExs, List.map_cons, mapExs_eq F xs]
theorem mapEx_eq (F : Aff → Aff) (x : Ex) : mapEx F x = ⟨x.kind, x.num, if x.kind = 2 then F x.index else affZero, if x.kind = 3 then mapAcc F x.read else accZero, x.kids.map (mapEx F)⟩ := by
  cases x; simp only [mapEx, mapExs_eq]
def mapStm (F : Aff → Aff) (s : Stm) : Stm := ⟨mapAcc F s.write, mapEx F s.value⟩
-- p holds of the affine expressions that count
mutual
def exAll (p : Aff → Bool) : Ex → Bool
  | ⟨k, _, i, r, ks⟩ => (if k = 2 then p i else true) && ((if k = 3 then r.subs.all p && decide (r.subs.length ≤ 1000000) else true) && (decide (ks.length ≤ 1000000) && exsAll p ks))
def exsAll (p : Aff → Bool) : List Ex → Bool
  | [] => true
  | x :: xs => exAll p x && exsAll p xs
end
theorem exsAll_eq (p : Aff → Bool) : (xs : List Ex) → exsAll p xs = xs.all (exAll p)
  | [] => rfl
  | x :: xs => by simp only [exsAll, List.all_cons, exsAll_eq p xs]
theorem exAll_eq (p : Aff → Bool) (x : Ex) : exAll p x = ((if x.kind = 2 then p x.index else true) && ((if x.kind = 3 then x.read.subs.all p && decide (x.read.subs.length ≤ 1000000) else true) && (decide (x.kids.length ≤ 1000000) && x.kids.all (exAll p)))) := by
  cases x; simp only [exAll, exsAll_eq]
theorem noAff_zero {a : Aff} (h : noAff a = true) : a = affZero := by
  simp only [noAff, Bool.and_eq_true, decide_eq_true_iff] at h
  obtain ⟨c, k⟩ := a
  simp only at h
  rw [List.length_eq_zero_iff.1 h.1, h.2]; rfl
theorem noAcc_zero {a : Acc} (h : noAcc a = true) : a = accZero := by
  simp only [noAcc, Bool.and_eq_true, decide_eq_true_iff] at h
  obtain ⟨s, l⟩ := a
  simp only at h
  rw [List.length_eq_zero_iff.1 h.2]
  have : s = ⟨#[]⟩ := by
    apply ByteArray.ext
    have := h.1
    rw [Lib.toList_data] at this
    exact Array.toList_eq_nil_iff.1 this
  rw [this]; rfl
theorem shape_all (x : Ex) : ∀ (L : Nat) (d : Int), exShape x d L = true → exAll affOk x = true ∧ mapEx id x = x :=
  Ex.ind (P := fun x => ∀ (L : Nat) (d : Int), exShape x d L = true → exAll affOk x = true ∧ mapEx id x = x) (fun x hx L d h => by
    rw [exShape_eq] at h
    simp only [Bool.and_eq_true, decide_eq_true_iff, List.all_eq_true] at h
    obtain ⟨_, hkn, ho, hk⟩ := h
    have hkl : decide (x.kids.length ≤ 1000000) = true := by
      have : kidsN x.kind ≤ 2 := by unfold kidsN; split <;> (try split) <;> omega
      exact decide_eq_true (by omega)
    have h1 : x.kids.all (exAll affOk) = true := List.all_eq_true.2 fun y hy => (hx y hy _ d (hk y hy)).1
    have h2 : x.kids.map (mapEx id) = x.kids := by
      conv => rhs; rw [← List.map_id x.kids]
      exact List.map_congr_left fun y hy => (hx y hy _ d (hk y hy)).2
    rw [exAll_eq, mapEx_eq, h1, h2, hkl, Bool.and_true, Bool.and_true]
    unfold ownF at ho
    obtain ⟨k, n, i, r, ks⟩ := x
    simp only at ho ⊢
    by_cases e2 : k = 2
    · subst e2
      rw [if_pos rfl] at ho
      simp only [Bool.and_eq_true] at ho
      rw [if_pos rfl, if_neg (by omega), if_pos rfl, if_neg (by omega), ho.2.2.1, noAcc_zero ho.2.1]
      exact ⟨rfl, rfl⟩
    · by_cases e3 : k = 3
      · subst e3
        rw [if_neg (by omega), if_pos rfl] at ho
        simp only [Bool.and_eq_true] at ho
        have hs : r.subs.all affOk = true := List.all_eq_true.2 (accOk_subs ho.2.2).2
        have hl : decide (r.subs.length ≤ 1000000) = true := by
          have h5 := ho.2.2
          simp only [accOk, Bool.and_eq_true] at h5
          have := (sideOk_iff h5.2).2.1
          exact decide_eq_true (by omega)
        rw [if_neg (by omega), if_pos rfl, if_neg (by omega), if_pos rfl, hs, hl, noAff_zero ho.2.1]
        refine ⟨rfl, ?_⟩
        unfold mapAcc; rw [List.map_id]
      · rw [if_neg e2, if_neg e3] at ho
        have hz : noAff i = true ∧ noAcc r = true := by
          by_cases e1 : k = 1
          · rw [if_pos e1] at ho; simp only [Bool.and_eq_true] at ho; exact ho.2
          · rw [if_neg e1] at ho; simp only [Bool.and_eq_true] at ho; exact ho.2
        rw [if_neg e2, if_neg e3, if_neg e2, if_neg e3, noAff_zero hz.1, noAcc_zero hz.2]
        exact ⟨rfl, rfl⟩) x
theorem mapStm_id {s : Stm} {d : Int} (h : StmtValidF s d = true) : mapStm id s = s := by
  obtain ⟨h1, h2, h3⟩ := stmtValid_parts h
  unfold mapStm mapAcc
  rw [List.map_id, (shape_all s.value 5 d h2).2]
/-- what a list of affine expressions has of variables, beside n -/
def depL (n : Nat) (xs : List Aff) : Nat := xs.foldl (fun n a => max n (depF a.coefs)) n
mutual
def depEx (n : Nat) : Ex → Nat
  | ⟨k, _, i, r, ks⟩ => depExs (if k = 2 then max n (depF i.coefs) else if k = 3 then depL n r.subs else n) ks
def depExs (n : Nat) : List Ex → Nat
  | [] => n
  | x :: xs => depExs (depEx n x) xs
end
theorem depExs_eq : (xs : List Ex) → (n : Nat) → depExs n xs = xs.foldl depEx n
  | [], _ => rfl
  | x :: xs, n => by simp only [depExs, List.foldl_cons, depExs_eq xs]
theorem depEx_eq (n : Nat) (x : Ex) : depEx n x = x.kids.foldl depEx (if x.kind = 2 then max n (depF x.index.coefs) else if x.kind = 3 then depL n x.read.subs else n) := by
  cases x; simp only [depEx, depExs_eq]
def depStm (s : Stm) : Nat := depEx (depL 0 s.write.subs) s.value
theorem depL_le {k : Nat} : ∀ (xs : List Aff) (n : Nat), depL n xs ≤ k ↔ n ≤ k ∧ ∀ a ∈ xs, depF a.coefs ≤ k
  | [], n => by simp [depL]
  | x :: xs, n => by
    show depL (max n (depF x.coefs)) xs ≤ k ↔ _
    rw [depL_le xs, List.forall_mem_cons]
    constructor
    · rintro ⟨h1, h2⟩; exact ⟨by omega, by omega, h2⟩
    · rintro ⟨h1, h2, h3⟩; exact ⟨by omega, h3⟩
theorem foldl_le {k : Nat} {P : Ex → Prop} : ∀ (xs : List Ex), (∀ x ∈ xs, ∀ n, depEx n x ≤ k ↔ n ≤ k ∧ P x) → ∀ n, xs.foldl depEx n ≤ k ↔ n ≤ k ∧ ∀ x ∈ xs, P x
  | [], _, n => by simp
  | x :: xs, h, n => by
    rw [List.foldl_cons, foldl_le xs (fun y hy => h y (List.mem_cons_of_mem _ hy)), h x List.mem_cons_self, List.forall_mem_cons]
    exact ⟨fun ⟨⟨a, b⟩, c⟩ => ⟨a, b, c⟩, fun ⟨a, b, c⟩ => ⟨⟨a, b⟩, c⟩⟩
theorem sideOk_dep {xs : List Aff} {k : Nat} (h : sideOk xs 4 = true) : sideOk xs (k : Int) = true ↔ ∀ a ∈ xs, depF a.coefs ≤ k := by
  have h4 := sideOk_iff h
  constructor
  · intro h2 a ha
    have := ((sideOk_iff h2).2.2 a ha).2; omega
  · intro h2
    simp only [sideOk, Bool.and_eq_true, decide_eq_true_iff, Bool.not_eq_true', List.any_eq_false] at h ⊢
    refine ⟨h.1, fun a ha => ?_⟩
    have h5 := (h4.2.2 a ha).1
    have h6 := h2 a ha
    simp [affBad, h5]; omega
/-- within fewer loops a valid expression is valid as long as its depth is not greater -/
theorem shape_dep (x : Ex) : ∀ (L : Nat), exShape x 4 L = true → ∀ (k n : Nat), depEx n x ≤ k ↔ n ≤ k ∧ exShape x (k : Int) L = true :=
  Ex.ind (P := fun x => ∀ (L : Nat), exShape x 4 L = true → ∀ (k n : Nat), depEx n x ≤ k ↔ n ≤ k ∧ exShape x (k : Int) L = true) (fun x hx L h k n => by
    rw [exShape_eq] at h ⊢
    simp only [Bool.and_eq_true, decide_eq_true_iff, List.all_eq_true] at h ⊢
    obtain ⟨hL, hn, ho, hk⟩ := h
    rw [depEx_eq, foldl_le (P := fun y => exShape y (k : Int) (L - 1) = true) x.kids (fun y hy n => hx y hy (L - 1) (hk y hy) k n)]
    have key : (if x.kind = 2 then max n (depF x.index.coefs) else if x.kind = 3 then depL n x.read.subs else n) ≤ k ↔ n ≤ k ∧ ownF x (k : Int) = true := by
      unfold ownF at ho ⊢
      by_cases e2 : x.kind = 2
      · rw [if_pos e2] at ho ⊢
        rw [if_pos e2]
        simp only [Bool.and_eq_true, decide_eq_true_iff] at ho ⊢
        constructor
        · intro h; exact ⟨by omega, ho.1, ho.2.1, ho.2.2.1, by omega⟩
        · rintro ⟨h1, _, _, _, h2⟩; omega
      · rw [if_neg e2] at ho ⊢
        rw [if_neg e2]
        by_cases e3 : x.kind = 3
        · rw [if_pos e3] at ho ⊢
          rw [if_pos e3, depL_le]
          simp only [Bool.and_eq_true, decide_eq_true_iff] at ho ⊢
          have hs := ho.2.2
          simp only [accOk, Bool.and_eq_true] at hs ⊢
          rw [sideOk_dep hs.2]
          exact ⟨fun h => ⟨h.1, ho.1, ho.2.1, hs.1, h.2⟩, fun h => ⟨h.1, h.2.2.2.2⟩⟩
        · rw [if_neg e3] at ho ⊢
          rw [if_neg e3]
          exact ⟨fun h => ⟨h, ho⟩, fun h => h.1⟩
    rw [key]
    exact ⟨fun h => ⟨h.1.1, hL, hn, h.1.2, h.2⟩, fun h => ⟨⟨h.1, h.2.2.2.1⟩, h.2.2.2.2⟩⟩) x
theorem stm_dep {s : Stm} (h : StmtValidF s 4 = true) {k : Nat} (hk : k ≤ 4) : StmtValidF s (k : Int) = true ↔ depStm s ≤ k := by
  obtain ⟨h1, h2, h3⟩ := stmtValid_parts h
  unfold depStm
  rw [shape_dep s.value 5 h2, depL_le]
  simp only [accOk, Bool.and_eq_true] at h1
  rw [← sideOk_dep h1.2]
  simp only [StmtValidF, Bool.and_eq_true, decide_eq_true_iff, accOk] at h ⊢
  constructor
  · rintro ⟨_, ⟨_, a⟩, b, _⟩; exact ⟨⟨by omega, a⟩, b⟩
  · rintro ⟨⟨_, a⟩, b⟩; exact ⟨inB_true (by omega) (by omega), ⟨h1.1, a⟩, b, h.2.2.2⟩
theorem stm_dep4 {s : Stm} (h : StmtValidF s 4 = true) : depStm s ≤ 4 := (stm_dep (k := 4) h (Nat.le_refl _)).1 h
end Go.Proofs.Ytadmmlflngkpiaa

/- Changed accesses: accessMap of the program, with any function value that answers new affine expressions. -/
namespace Go.Proofs.Ytadmmlflngkpiaa
open Go.ChangeShapes Go.WideShapes Go.ChangeAt Go.RowKit Go.Deep

/-- a call of the function value answers, at a, a new expression: F of it -/
def Changes (w : World) (g : FuncId) (cap : Array Value) (F : Aff → Aff) (a : Aff) : Prop :=
  ∀ cs bs W, Below w.heap.size w W → Rep W a.d cs bs → Calls Try.prog g (#[.agg cs.toArray] ++ cap) W (MadeAff W (F a))
theorem Changes.below {w w' : World} {g : FuncId} {cap : Array Value} {F : Aff → Aff} {a : Aff} (h : Changes w g cap F a) (hb : Below w.heap.size w w') : Changes w' g cap F a :=
  fun cs bs W hW => h cs bs W (below_tr hb hW)
set_option maxRecDepth 100000 in
set_option maxHeartbeats 8000000 in
theorem accessMap_c {w : World} {x : Acc} {cs : List Value} {bs : List Nat} {g : FuncId} {cap : Array Value} {F : Aff → Aff} (h : Rep w x.d cs bs) (hl : x.subs.length ≤ 1000000) (hg : Enters Try.prog g) (hc : ∀ t ∈ x.subs, Changes w g cap F t) :
    Calls Try.prog 79 #[.agg cs.toArray, .func (.func g) #[] cap] w (MadeAcc w (mapAcc F x)) := by
  obtain ⟨A2, c2, d2, rfl, rfl, g1, g2⟩ := Rep.acc_iff.1 h
  have Garr := Lib.hid g1
  have Gsubs := Lib.hid g2
  clear h g1 g2
  have hn : x.subs.length ≤ 9223372036854775807 := by omega
  have HC := Lib.hid hc; clear hc
  unfold Enters at hg
  go_enter Try.func79, Try.ntmps79
  go_wp2
  go_loopw [14] (fun i wr => ∃ (j : Nat) (u : Value), j ≤ x.subs.length ∧ i = .int .i64 j ∧ BoxW wr (w.heap.size + 2) (.string x.arr) u ∧ Grow wr (w.heap.size + 3) 47 2 u ((x.subs.take j).map fun t => (F t).d) ∧ BoxW wr (w.heap.size + 1) (.string ⟨#[]⟩) (.slice none 0 0) ∧ w.heap.size + 3 ≤ wr.heap.size ∧ Below w.heap.size w wr) (fun i _ => x.subs.length - (intOf i).toNat)
  case atStart => exact ⟨0, .slice none 0 0, Nat.zero_le _, rfl, ⟨⟨by go_simp, by go_simp⟩, by go_simp, by go_simp⟩, by simpa using Grow.nil _ _ _ _, ⟨⟨by go_simp, by go_simp⟩, by go_simp, by go_simp⟩, by simp, bel⟩
  case round =>
    obtain ⟨j, u, hj, rfl, ⟨⟨k2a, k2b⟩, f2a, f2b⟩, hG, hR, hz, hb⟩ := hrel
    have HR := Lib.hid hR; clear hR
    obtain ⟨Au, cu, hfu, _, _⟩ := hG.form
    rw [List.length_map, List.length_take] at hfu
    have HG := Lib.hid hG; clear hG
    by_cases hlt : j < x.subs.length
    · have HT := Lib.hid (show ((x.subs.take (j + 1)).map fun t => (F t).d) = ((x.subs.take j).map fun t => (F t).d) ++ [(F x.subs[j]).d] by rw [List.take_succ_eq_append_getElem hlt, List.map_append]; rfl)
      have HCJ := Lib.hid (HC.out _ (List.getElem_mem hlt))
      obtain ⟨be, oe, cse, le, rfl, hble, hre, _, _, hce⟩ := (Gsubs.out.below hb).sls_at Aff.d_size (k := j) hlt
      have Ge := Lib.hid hre
      obtain ⟨A1e, c1e, d1e, rfl, rfl, g1e, g2e⟩ := Rep.aff_iff2.1 hre
      have k0e := (hce 0 _ rfl).1; rw [Nat.add_zero] at k0e
      have k1e := (hce 1 _ rfl).1
      have Q1e := Lib.hid g1e
      have Q2e := Lib.hid g2e
      clear hce hre g1e g2e
      have lt2 := lt_of_cell k2a
      have hmin : min j x.subs.length = j := by omega
      rw [hmin] at hfu
      subst hfu
      have HOW := Lib.hid HG.out.own_ge
      obtain ⟨a, ha⟩ : ∃ a, a = x.subs[j] := ⟨_, rfl⟩
      rw [← ha] at k0e k1e Ge HT HCJ
      clear hmin ha
      go_wp2_with fail
      refine wp_region_noPanic ?_
      refine wp_regionT (S := fun w' => Box2 w' (w.heap.size + 2) (.string x.arr) (.slice Au j cu) ∧ Box2 w' wr.heap.size (.slice A1e a.coefs.length c1e) (.int .i64 a.const)) 8 (by kernel_rfl) (⟨⟨by go_simp, by go_simp⟩, by go_simp, by go_simp⟩) (fun hHeld => ?_)
      refine goU 0 (fun _ => hHeld) ?_
      refine goT 1 hHeld ?_
      refine goU 2 (fun _ => hHeld) ?_
      refine goT 3 hHeld ?_
      refine readyT (rs := [4]) (by kernel_rfl) (by simp) (all1 ?_)
      refine opT (i := 4) rfl (wanted_none rfl) (fun K hK => ?_)
      go_simp
      (refine (HCJ.out _ _ _ (below_tr hb bel) (Ge.out.below bel)).mono ?_; rintro e w1 ⟨A1, n1, c1, k1, bs1, rfl, r1, nd1, hb1, b1⟩; have B1 : Below wr.heap.size wr w1 := bel; have O1 := Lib.hid (one_newN (N := w1.heap.size) r1 47 rfl); have N1 := Lib.hid (And.intro nd1 (show ∀ y ∈ bs1, wr.heap.size ≤ y from fun y hy => by have := hb1 y hy; simp at this; omega)); clear r1 nd1 hb1)
      go_wp2_with fail
      refine hK.out _ _ (⟨hHeld.1.to b1, hHeld.2.to b1⟩) (fun hHeld => ?_)
      clear hK K
      try simp only [Act.put, List.setIfInBounds_toArray, List.set_cons_zero, List.set_cons_succ]
      refine readyT (rs := [5]) (by kernel_rfl) (by simp) (all1 ?_)
      refine opT (i := 5) rfl (wanted_none rfl) (fun K hK => ?_)
      (unfold Oper.wp; go_simp)
      refine hK.out _ _ (⟨hHeld.1.to ((Below.refl _ _).alloc (Nat.le_refl _) _), hHeld.2.to ((Below.refl _ _).alloc (Nat.le_refl _) _)⟩) (fun hHeld => ?_)
      clear hK K
      try simp only [Act.put, List.setIfInBounds_toArray, List.set_cons_zero, List.set_cons_succ]
      refine readyT (rs := [6]) (by kernel_rfl) (by simp) (all1 ?_)
      refine opT (i := 6) rfl (wanted_none rfl) (fun K hK => ?_)
      (refine wp_append_more (w0 := wr) (B := w.heap.size + 3) (xs := (x.subs.take j).map fun t => (F t).d) (ys := [(F a).d]) (.tmp 19) (.tmp 23) _ rfl _ Try.underlying44 Try.infoAff rfl (by decide) rfl HG.out ?hbw rfl O1.out ?hys ?hn ?hf ?hlen hz ?_; (case hbw => exact bel); (case hys => (intro y hy; simp only [List.mem_singleton] at hy; rw [hy]; rfl)); (case hn => exact N1.out.1); (case hf => exact N1.out.2); (case hlen => (simp; omega)); intro v2 w4 hG4 hg4; have B4 : Below (w.heap.size + 3) wr w4 := ((B1.alloc B1.size _).mono hz).trans (hg4.below (Nat.le_trans hz (Nat.le_trans B1.size (by simp))) (fun b hb => (HOW.out b hb).1)); have X2 : BoxW w4 (w.heap.size + 2) (.string x.arr) (.slice Au j cu) := BoxW.toB ⟨⟨k2a, k2b⟩, f2a, f2b⟩ (by omega) B4; have XR := Lib.hid (BoxW.toB HR.out (by omega) B4); have XZ := B4.size; obtain ⟨⟨k2d, k2e⟩, f2d, f2e⟩ := X2; obtain ⟨A4, c4, hf4, _, _⟩ := hG4.form; simp only [List.length_append, List.length_map, List.length_take, List.length_singleton] at hf4; rw [show min j x.subs.length + 1 = j + 1 by omega] at hf4; subst hf4; rw [← HT.out] at hG4; have HG4 := Lib.hid hG4; have HB4 := Lib.hid (hb.trans (B4.mono (by omega))))
      refine hK.out _ _ (⟨hg4.touch.box2 hHeld.1 (fun hm => by have := (HOW.out _ (mem_ownL.1 hm)).1; omega), hg4.touch.box2 hHeld.2 (fun hm => by have := (HOW.out _ (mem_ownL.1 hm)).2; omega)⟩) (fun hHeld => ?_)
      clear hK K
      try simp only [Act.put, List.setIfInBounds_toArray, List.set_cons_zero, List.set_cons_succ]
      refine goU 7 (fun _ => hHeld) ?_
      refine readyT (rs := [8]) (by kernel_rfl) (by simp) (all1 ?_)
      refine opTT (i := 8) rfl (wanted_none rfl) (by kernel_rfl) (fun K hK => ?_)
      (unfold Oper.wp; go_simp)
      refine hK.out _ _ ?_
      clear hK K
      try simp only [Act.put, List.setIfInBounds_toArray, List.set_cons_zero, List.set_cons_succ]
      refine wpAnyT_done (by kernel_rfl) ?_ _
      refine NoPanic.normal ?_
      (go_wp2; go_roundw; (case rel => exact ⟨j + 1, _, by omega, by go_num, ⟨⟨by go_simp, by go_simp⟩, by go_simp, by go_simp⟩, HG4.out.set_low (p := ⟨w.heap.size + 2, 1, none⟩) (by simp) _, ⟨Box2.set XR.out.1 (by first | (simp; done) | (simp; omega)) _, by rw [World.frozen?_setCell]; exact XR.out.2.1, by rw [World.frozen?_setCell]; exact XR.out.2.2⟩, by (simp [World.setCell]; omega), HB4.out.setCell (by (simp; omega)) _⟩); (case measure => (simp [intOf]; omega)))
    · have hjj : j = x.subs.length := by omega
      subst hjj
      have hmin : min x.subs.length x.subs.length = x.subs.length := by omega
      rw [hmin] at hfu
      subst hfu
      have hG := HG.out
      obtain ⟨A5, c5, bs5, he5, r5, nd5, hb5⟩ := hG.rep
      rw [List.length_map, List.length_take, Nat.min_self] at he5 r5
      simp only [Value.slice.injEq, true_and] at he5
      obtain ⟨rfl, rfl⟩ := he5
      rw [List.take_length] at r5
      have H5 := Lib.hid (And.intro r5 (And.intro nd5 hb5))
      clear hG r5 nd5 hb5
      obtain ⟨⟨m1, m2⟩, m3, m4⟩ := HR.out
      have lt1 := lt_of_cell m1
      have lt2 := lt_of_cell k2a
      go_wp2
      have hnb : w.heap.size + 1 ∉ bs5 := fun hm => by have := H5.out.2.2 _ hm; omega
      have hll : (x.subs.map F).length = x.subs.length := List.length_map _
      refine bodyPost_ret (v := .agg #[.string x.arr, .slice Au x.subs.length cu]) (by simp [results, Try.results79, go_sem, m1, m2]) rfl ⟨Au, cu, bs5, ?_, Rep.acc_iff.2 ⟨_, _, _, rfl, rfl, Garr.out, ?_⟩, H5.out.2.1, fun y hy => by have := H5.out.2.2 y hy; omega, (hb.setCell (by simp) _).setCell (by simp) _⟩
      · show _ = Ending.returned (.agg #[.string x.arr, .slice Au (x.subs.map F).length cu])
        rw [hll]
      · show Rep _ (sls Aff.d (x.subs.map F)) [.slice Au (x.subs.map F).length cu] bs5
        rw [hll]
        refine Rep.keep _ (w := wr) ?_ (((Keeps.refl _ _).setCell hnb _).setCell hnb _)
        have := H5.out.1
        unfold sls
        rw [List.map_map]
        exact this
end Go.Proofs.Ytadmmlflngkpiaa

/- Changed expressions and statements: exprMap, stmtMap, ownStmt of the program. -/
namespace Go.Proofs.Ytadmmlflngkpiaa
open Go.ChangeShapes Go.WideShapes Go.ChangeAt Go.RowKit Go.Deep

theorem Row.box7 {w : World} {g : Nat} {t : TypeId} {a0 a1 a2 a3 a4 a5 a6 : Value} (h : Row w g t [a0, a1, a2, a3, a4, a5, a6]) : Box7 w g a0 a1 a2 a3 a4 a5 a6 :=
  ⟨h.cell 0, h.cell 1, h.cell 2, h.cell 3, h.cell 4, h.cell 5, h.cell 6⟩
theorem Row.new (w : World) (l : List Value) (t : TypeId) : Row (w.alloc (.cells l.toArray t)) w.heap.size t l := by unfold Row; rw [heap_alloc_new]
theorem cell_alM {w : World} {p : Addr} {v : Value} {o : Obj} (h : w.cell? p = some v) : (w.alloc o).cell? p = some v := (World.cell?_alloc_some _ _ _ (by rw [h]; rfl)).trans h
theorem size_al (w : World) (o : Obj) : (w.alloc o).heap.size = w.heap.size + 1 := by simp
theorem three_rows (w : World) (l1 l2 l3 : List Value) (t : TypeId) {W : World} (hW : W = ((w.alloc (.cells l1.toArray t)).alloc (.cells l2.toArray t)).alloc (.cells l3.toArray t)) :
    Row W w.heap.size t l1 ∧ Row W (w.heap.size + 1) t l2 ∧ Row W (w.heap.size + 2) t l3 ∧ Below w.heap.size w W ∧ W.heap.size = w.heap.size + 3 := by
  subst hW
  have al : ∀ (v : World) (o : Obj), Below v.heap.size v (v.alloc o) := fun v o => (Below.refl _ _).alloc (Nat.le_refl _) _
  refine ⟨((Row.new w l1 t).to (al _ _)).to (al _ _), ?_, ?_, below_tr (below_tr (al _ _) (al _ _)) (al _ _), by rw [size_al, size_al, size_al]⟩
  · have h := (Row.new (w.alloc (.cells l1.toArray t)) l2 t).to (al _ (.cells l3.toArray t))
    rwa [size_al] at h
  · have h := Row.new ((w.alloc (.cells l1.toArray t)).alloc (.cells l2.toArray t)) l3 t
    rwa [size_al, size_al] at h
theorem Rep.accZero {w : World} : Rep w accZero.d [.string ⟨#[]⟩, .slice none 0 0] [] :=
  Rep.acc_iff.2 ⟨none, 0, [], rfl, rfl, by show 0 ≤ maxLen; exact Nat.zero_le _, (Rep.ints_nil (Nat.zero_le _) : Rep w (ints []) [.slice none 0 0] [])⟩
theorem Ex.rep_of {w : World} {k n : Int} {i : Aff} {r : Acc} {ks : List Ex} {v2 v3 v4 v5 : Value} {A : Option Addr} {c : Nat} {d3 d6 d7 : List Nat} (hk : I64 k) (hn : I64 n) (h1 : Rep w i.d [v2, v3] d3) (h2 : Rep w r.d [v4, v5] d6) (h3 : Rep w (sls Ex.d ks) [.slice A ks.length c] d7) :
    Rep w (Ex.d ⟨k, n, i, r, ks⟩) [.int .i64 k, .int .i64 n, v2, v3, v4, v5, .slice A ks.length c] (d3 ++ d6 ++ d7) := by
  rw [Ex.d_eq]
  simp only [Rep, Reps]
  exact ⟨[_], _, [], d3 ++ d6 ++ d7, rfl, rfl, ⟨rfl, rfl, hk⟩, [_], _, [], d3 ++ d6 ++ d7, rfl, rfl, ⟨rfl, rfl, hn⟩, [_, _], _, d3, d6 ++ d7, rfl, by simp, h1, [_, _], _, d6, d7, rfl, rfl, h2, [_], [], d7, [], rfl, by simp, h3, rfl, rfl⟩
theorem Try.infoEx : (Try.prog.info? 50).map (fun i => (i.zero, i.size, decide (i.bytes ≤ 1024))) = some (some (.agg #[.int .i64 0, .int .i64 0, .slice none 0 0, .int .i64 0, .string ⟨#[]⟩, .slice none 0 0, .slice none 0 0]), 7, true) := by kernel_rfl
theorem exAll_parts {p : Aff → Bool} {x : Ex} (h : exAll p x = true) : (x.kind = 2 → p x.index = true) ∧ (x.kind = 3 → (∀ t ∈ x.read.subs, p t = true) ∧ x.read.subs.length ≤ 1000000) ∧ x.kids.length ≤ 1000000 ∧ ∀ y ∈ x.kids, exAll p y = true := by
  rw [exAll_eq] at h
  simp only [Bool.and_eq_true, decide_eq_true_iff, List.all_eq_true] at h
  obtain ⟨h1, h2, h3, h4⟩ := h
  refine ⟨fun e => by rwa [if_pos e] at h1, fun e => ?_, h3, h4⟩
  rw [if_pos e] at h2
  simp only [Bool.and_eq_true, decide_eq_true_iff, List.all_eq_true] at h2
  exact h2

theorem Touch.then {bs : List Nat} {a b c : World} (h : Touch bs a b) (k : Below a.heap.size b c) : Touch bs a c :=
  ⟨k.os.trans h.os, k.tape.trans h.tape, k.output.trans h.output, Nat.le_trans h.size k.size, fun x hx hn => (k.block x hx).trans (h.block x hx hn)⟩
def MapX (g : FuncId) (cap : Array Value) (F : Aff → Aff) (p : Aff → Bool) (x : Ex) : Prop := ∀ (w : World) (cs : List Value) (bs : List Nat), Rep w x.d cs bs → (∀ t, p t = true → Changes w g cap F t) → exAll p x = true →
    Calls Try.prog 80 #[.agg cs.toArray, .func (.func g) #[] cap] w (MadeEx w (mapEx F x))
set_option maxRecDepth 100000 in
set_option maxHeartbeats 16000000 in
theorem exprMap_r {g : FuncId} {cap : Array Value} {F : Aff → Aff} {p : Aff → Bool} (hg : Enters Try.prog g) {x : Ex} (hrec : ∀ y ∈ x.kids, MapX g cap F p y) : MapX g cap F p x := by
  intro w cs bs h hc ha
  have HREC := Lib.hid hrec; clear hrec
  have HC := Lib.hid hc; clear hc
  have hp := exAll_parts ha
  have hkl := hp.2.2.1
  have HPA := Lib.hid hp; clear hp ha
  have HEQ := Lib.hid (mapEx_eq F x)
  obtain ⟨A3, c3, A6, c6, A7, c7, d3, d6, d7, rfl, rfl, g1, g2, g3, g4, g5, g6, g7⟩ := Rep.ex_iff.1 h
  have Gkind := Lib.hid g1
  have Gnum := Lib.hid g2
  have Gindex := Lib.hid ((Rep.aff_iff2 (x := x.index)).2 ⟨_, _, _, rfl, rfl, g3, g4⟩)
  have Gread := Lib.hid ((Rep.acc_iff (x := x.read)).2 ⟨_, _, _, rfl, rfl, g5, g6⟩)
  have Gkids := Lib.hid g7
  clear h g1 g2 g3 g4 g5 g6 g7
  have hn : x.kids.length ≤ 9223372036854775807 := by omega
  have HE := Lib.hid hg
  unfold Enters at hg
  obtain ⟨W, hW⟩ : ∃ W, W = ((w.alloc (.cells #[.int .i64 x.kind, .int .i64 x.num, .slice A3 x.index.coefs.length c3, .int .i64 x.index.const, .string x.read.arr, .slice A6 x.read.subs.length c6, .slice A7 x.kids.length c7] 50)).alloc (.cells #[.int .i64 0, .int .i64 0, .slice none 0 0, .int .i64 0, .string ⟨#[]⟩, .slice none 0 0, .slice none 0 0] 50)).alloc (.cells #[.int .i64 x.kind, .int .i64 x.num, .slice none 0 0, .int .i64 0, .string ⟨#[]⟩, .slice none 0 0, .slice none 0 0] 50) := ⟨_, rfl⟩
  obtain ⟨rp0, Z0, O0, B0, hWz⟩ := three_rows w _ _ _ _ hW
  have P0 : Box7 W w.heap.size (.int .i64 x.kind) (.int .i64 x.num) (.slice A3 x.index.coefs.length c3) (.int .i64 x.index.const) (.string x.read.arr) (.slice A6 x.read.subs.length c6) (.slice A7 x.kids.length c7) := rp0.box7
  clear rp0
  have HW := Lib.hid hW; clear hW
  have HWZ := Lib.hid hWz
  have hWz2 : w.heap.size + 3 ≤ W.heap.size := by omega
  clear hWz
  have GK0 := Lib.hid (Gkids.out.below B0)
  have HZ0 := Lib.hid Z0; clear Z0
  have HKK := Lib.hid (And.intro Gkind.out Gnum.out)
  have ZE := Lib.hid (show (mapEx F x).kids.length = x.kids.length by rw [HEQ.out]; exact List.length_map _)
  go_enter Try.func80, Try.ntmps80
  go_upto_block 0 with (fail)
  rw [← HW.out]
  go_cut [15] (fun _ wc => ∃ (AI : Option Addr) (nI cI : Nat) (kI : Int) (sR : ByteArray) (AR : Option Addr) (nR cR : Nat) (dI dR : List Nat), Row wc (w.heap.size + 2) 50 [.int .i64 x.kind, .int .i64 x.num, .slice AI nI cI, .int .i64 kI, .string sR, .slice AR nR cR, .slice none 0 0] ∧ Row wc (w.heap.size + 1) 50 [.int .i64 0, .int .i64 0, .slice none 0 0, .int .i64 0, .string ⟨#[]⟩, .slice none 0 0, .slice none 0 0] ∧ Rep wc (mapEx F x).index.d [.slice AI nI cI, .int .i64 kI] dI ∧ Rep wc (mapEx F x).read.d [.string sR, .slice AR nR cR] dR ∧ (dI ++ dR).Nodup ∧ (∀ y ∈ dI ++ dR, w.heap.size + 3 ≤ y) ∧ Box7 wc w.heap.size (.int .i64 x.kind) (.int .i64 x.num) (.slice A3 x.index.coefs.length c3) (.int .i64 x.index.const) (.string x.read.arr) (.slice A6 x.read.subs.length c6) (.slice A7 x.kids.length c7) ∧ w.heap.size + 3 ≤ wc.heap.size ∧ Below w.heap.size w wc)
  case first =>
    have OB := O0.box7
    have lo := lt_of_cell OB.1
    have lp := lt_of_cell P0.1
    have HO0 := Lib.hid O0; clear O0
    by_cases h2 : x.kind = 2
    case pos =>
      have q1 : (x.kind == 2) = true := ieq_t h2
      have HI := Lib.hid (HPA.out.1 h2)
      have HX := Lib.hid (show mapEx F x = ⟨x.kind, x.num, F x.index, accZero, x.kids.map (mapEx F)⟩ by rw [HEQ.out, if_pos h2, if_neg (by omega)])
      clear h2
      go_wp2_with fail
      refine (HC.out _ HI.out _ _ _ B0 (Gindex.out.below B0)).mono ?_
      rintro e w1 ⟨A1, n1, c1_, k1, bs1, rfl, r1, nd1, hb1, b1⟩
      have OB1 := OB.to b1
      have f12 := (b1.frozen (p := ⟨w.heap.size + 2, 2, none⟩) lo).trans (HO0.out.frozen 2)
      have f13 := (b1.frozen (p := ⟨w.heap.size + 2, 3, none⟩) lo).trans (HO0.out.frozen 3)
      have P1 := P0.to b1
      have lp1 := lt_of_cell P1.1
      have lo1 := lt_of_cell OB1.1
      have HO1 := Lib.hid (((HO0.out.to b1).set 2 (.slice A1 n1 c1_)).set 3 (.int .i64 k1))
      have HZ1 := Lib.hid (((HZ0.out.to b1).far (p := ⟨w.heap.size + 2, 2, none⟩) (by simp) (.slice A1 n1 c1_)).far (p := ⟨w.heap.size + 2, 3, none⟩) (by simp) (.int .i64 k1))
      have hge := Lib.hid (show ∀ y ∈ bs1, w.heap.size + 3 ≤ y from fun y hy => Nat.le_trans hWz2 (hb1 y hy))
      have hno : w.heap.size + 2 ∉ bs1 := fun hm => by have := hge.out _ hm; omega
      have HIX := Lib.hid (Rep.keep _ r1 (((Keeps.refl w1 bs1).setCell (p := ⟨w.heap.size + 2, 2, none⟩) hno (.slice A1 n1 c1_)).setCell (p := ⟨w.heap.size + 2, 3, none⟩) hno (.int .i64 k1)))
      have PQ := Lib.hid (show Box7 ((w1.setCell ⟨w.heap.size+2,2,none⟩ (.slice A1 n1 c1_)).setCell ⟨w.heap.size+2,3,none⟩ (.int .i64 k1)) w.heap.size (.int .i64 x.kind) (.int .i64 x.num) (.slice A3 x.index.coefs.length c3) (.int .i64 x.index.const) (.string x.read.arr) (.slice A6 x.read.subs.length c6) (.slice A7 x.kids.length c7) by refine ⟨?_, ?_, ?_, ?_, ?_, ?_, ?_⟩ <;> go_simp)
      have hz1 := b1.size
      have ND := Lib.hid nd1
      clear r1 nd1 hb1 OB P0
      go_wp2
      go_meet
      case rel =>
        refine ⟨_, _, _, _, _, _, _, _, bs1, [], HO1.out, HZ1.out, ?_, ?_, by simpa using ND.out, by simpa using hge.out, PQ.out, by (simp [World.setCell]; omega), bel⟩
        · rw [HX.out]; exact HIX.out
        · rw [HX.out]; exact Rep.accZero
    case neg =>
      by_cases h3 : x.kind = 3
      case pos =>
        have q1 : (x.kind == 2) = false := ieq_f h2
        have q2 : (x.kind == 3) = true := ieq_t h3
        obtain ⟨hs, hl⟩ := HPA.out.2.1 h3
        have HS := Lib.hid hs; clear hs
        have HX := Lib.hid (show mapEx F x = ⟨x.kind, x.num, affZero, mapAcc F x.read, x.kids.map (mapEx F)⟩ by rw [HEQ.out, if_neg h2, if_pos h3])
        clear h2 h3
        go_wp2_with fail
        refine (accessMap_c (Gread.out.below B0) hl HE.out (fun t ht => (HC.out t (HS.out t ht)).below B0)).mono ?_
        rintro e w1 ⟨A1, c1_, bs1, rfl, r1, nd1, hb1, b1⟩
        have OB1 := OB.to b1
        have f12 := (b1.frozen (p := ⟨w.heap.size + 2, 4, none⟩) lo).trans (HO0.out.frozen 4)
        have f13 := (b1.frozen (p := ⟨w.heap.size + 2, 5, none⟩) lo).trans (HO0.out.frozen 5)
        have P1 := P0.to b1
        have lp1 := lt_of_cell P1.1
        have lo1 := lt_of_cell OB1.1
        have HO1 := Lib.hid (((HO0.out.to b1).set 4 (.string (mapAcc F x.read).arr)).set 5 (.slice A1 (mapAcc F x.read).subs.length c1_))
        have HZ1 := Lib.hid (((HZ0.out.to b1).far (p := ⟨w.heap.size + 2, 4, none⟩) (by simp) (.string (mapAcc F x.read).arr)).far (p := ⟨w.heap.size + 2, 5, none⟩) (by simp) (.slice A1 (mapAcc F x.read).subs.length c1_))
        have hge := Lib.hid (show ∀ y ∈ bs1, w.heap.size + 3 ≤ y from fun y hy => Nat.le_trans hWz2 (hb1 y hy))
        have hno : w.heap.size + 2 ∉ bs1 := fun hm => by have := hge.out _ hm; omega
        have HIX := Lib.hid (Rep.keep _ r1 (((Keeps.refl w1 bs1).setCell (p := ⟨w.heap.size + 2, 4, none⟩) hno (.string (mapAcc F x.read).arr)).setCell (p := ⟨w.heap.size + 2, 5, none⟩) hno (.slice A1 (mapAcc F x.read).subs.length c1_)))
        have PQ := Lib.hid (show Box7 ((w1.setCell ⟨w.heap.size+2,4,none⟩ (.string (mapAcc F x.read).arr)).setCell ⟨w.heap.size+2,5,none⟩ (.slice A1 (mapAcc F x.read).subs.length c1_)) w.heap.size (.int .i64 x.kind) (.int .i64 x.num) (.slice A3 x.index.coefs.length c3) (.int .i64 x.index.const) (.string x.read.arr) (.slice A6 x.read.subs.length c6) (.slice A7 x.kids.length c7) by refine ⟨?_, ?_, ?_, ?_, ?_, ?_, ?_⟩ <;> go_simp)
        have hz1 := b1.size
        have ND := Lib.hid nd1
        clear r1 nd1 hb1 OB P0
        go_wp2
        go_meet
        case rel =>
          refine ⟨_, _, _, _, _, _, _, _, [], bs1, HO1.out, HZ1.out, ?_, ?_, by simpa using ND.out, by simpa using hge.out, PQ.out, by (simp [World.setCell]; omega), bel⟩
          · rw [HX.out]; exact Rep.affZero
          · rw [HX.out]; exact HIX.out
      case neg =>
        have q1 : (x.kind == 2) = false := ieq_f h2
        have q2 : (x.kind == 3) = false := ieq_f h3
        have HX := Lib.hid (show mapEx F x = ⟨x.kind, x.num, affZero, accZero, x.kids.map (mapEx F)⟩ by rw [HEQ.out, if_neg h2, if_neg h3])
        have PQ := Lib.hid P0
        clear h2 h3
        go_wp2
        go_meet
        case rel =>
          refine ⟨_, _, _, _, _, _, _, _, [], [], HO0.out, HZ0.out, ?_, ?_, by simp, by simp, PQ.out, hWz2, B0⟩
          · rw [HX.out]; exact Rep.affZero
          · rw [HX.out]; exact Rep.accZero
  case rest =>
    obtain ⟨AI, nI, cI, kI, sR, AR, nR, cR, dI, dR, ho, hz, hi, hr, hnd, hge, Pc, hsz, hbc⟩ := hcut
    rename World => wc
    clear P0 O0 HW HWZ HZ0
    have HO := Lib.hid ho
    have HZ := Lib.hid hz
    have HI := Lib.hid hi
    have HR := Lib.hid hr
    have HND := Lib.hid hnd
    have HGE := Lib.hid hge
    have GKc := Lib.hid (Gkids.out.below hbc)
    have lp := lt_of_cell Pc.1
    clear ho hz hi hr hnd hge
    have HMX := Lib.hid (show mapEx F x = ⟨x.kind, x.num, (mapEx F x).index, (mapEx F x).read, x.kids.map (mapEx F)⟩ by rw [HEQ.out])
    obtain ⟨IX, hIX⟩ : ∃ IX, IX = (mapEx F x).index := ⟨_, rfl⟩
    obtain ⟨RX, hRX⟩ : ∃ RX, RX = (mapEx F x).read := ⟨_, rfl⟩
    rw [← hIX] at HI HMX
    rw [← hRX] at HR HMX
    clear hIX hRX ZE HEQ
    have hgO : w.heap.size + 2 < wc.heap.size := by omega
    go_wp2
    go_loopw [32] (fun i wr => ∃ (j : Nat) (u : Value), j ≤ x.kids.length ∧ i = .int .i64 j ∧ Row wr (w.heap.size + 2) 50 [.int .i64 x.kind, .int .i64 x.num, .slice AI nI cI, .int .i64 kI, .string sR, .slice AR nR cR, u] ∧ Grow wr wc.heap.size 50 7 u ((x.kids.take j).map fun y => (mapEx F y).d) ∧ Touch [w.heap.size + 2] wc wr) (fun i _ => x.kids.length - (intOf i).toNat)
    case atStart => exact ⟨0, .slice none 0 0, Nat.zero_le _, rfl, HO.out, by simpa using Grow.nil _ _ _ _, Touch.refl _ _⟩
    case round =>
      obtain ⟨j, u, hj, rfl, hrow, hG, htc⟩ := hrel
      have HO2 := Lib.hid hrow; clear hrow
      have HTC := Lib.hid htc; clear htc
      have hbr : Below w.heap.size w wr := hbc.trans (HTC.out.below hbc.size (by simp))
      have hszr := HTC.out.size
      obtain ⟨Au, cu, hfu, _, _⟩ := hG.form
      rw [List.length_map, List.length_take] at hfu
      have HG := Lib.hid hG; clear hG
      by_cases hlt : j < x.kids.length
      · have HT := Lib.hid (show ((x.kids.take (j + 1)).map fun y => (mapEx F y).d) = ((x.kids.take j).map fun y => (mapEx F y).d) ++ [(mapEx F x.kids[j]).d] by rw [List.take_succ_eq_append_getElem hlt, List.map_append]; rfl)
        have HRJ := Lib.hid (HREC.out _ (List.getElem_mem hlt))
        have HAJ := Lib.hid (HPA.out.2.2.2 _ (List.getElem_mem hlt))
        obtain ⟨be, oe, cse, le, rfl, hble, hre, _, _, hce⟩ := (Gkids.out.below hbr).sls_at Ex.d_size (k := j) hlt
        have Ge := Lib.hid hre
        obtain ⟨A3e, c3e, A6e, c6e, A7e, c7e, d3e, d6e, d7e, rfl, rfl, g1e, g2e, g3e, g4e, g5e, g6e, g7e⟩ := Rep.ex_iff.1 hre
        have k0e := (hce 0 _ rfl).1; rw [Nat.add_zero] at k0e
        have k1e := (hce 1 _ rfl).1
        have k2e := (hce 2 _ rfl).1
        have k3e := (hce 3 _ rfl).1
        have k4e := (hce 4 _ rfl).1
        have k5e := (hce 5 _ rfl).1
        have k6e := (hce 6 _ rfl).1
        have Q1e := Lib.hid g1e
        have Q2e := Lib.hid g2e
        have Q3e := Lib.hid g3e
        have Q4e := Lib.hid g4e
        have Q5e := Lib.hid g5e
        have Q6e := Lib.hid g6e
        have Q7e := Lib.hid g7e
        clear hce hre g1e g2e g3e g4e g5e g6e g7e
        have OB := HO2.out.box7
        have lo := lt_of_cell OB.1
        obtain ⟨o0, o1, o2, o3, o4, o5, o6⟩ := OB
        have f6 := HO2.out.frozen 6
        have hmin : min j x.kids.length = j := by omega
        rw [hmin] at hfu
        subst hfu
        have HOW := Lib.hid HG.out.own_ge
        obtain ⟨y, hy⟩ : ∃ y, y = x.kids[j] := ⟨_, rfl⟩
        rw [← hy] at k0e k1e k2e k3e k4e k5e k6e Ge HT HRJ HAJ
        clear hmin hy
        go_wp2_with fail
        refine wp_region_noPanic ?_
        refine wp_regionT (S := fun w' => w'.cell? ⟨w.heap.size + 2, 6, none⟩ = some (.slice Au j cu) ∧ Box7 w' wr.heap.size (.int .i64 y.kind) (.int .i64 y.num) (.slice A3e y.index.coefs.length c3e) (.int .i64 y.index.const) (.string y.read.arr) (.slice A6e y.read.subs.length c6e) (.slice A7e y.kids.length c7e)) 8 (by kernel_rfl) (⟨by go_simp, by go_simp, by go_simp, by go_simp, by go_simp, by go_simp, by go_simp, by go_simp⟩) (fun hHeld => ?_)
        refine goU 0 (fun _ => hHeld) ?_
        refine goT 1 hHeld ?_
        refine goT 2 hHeld ?_
        refine goU 3 (fun _ => hHeld) ?_
        refine readyT (rs := [4]) (by kernel_rfl) (by simp) (all1 ?_)
        refine opT (i := 4) rfl (wanted_none rfl) (fun K hK => ?_)
        go_simp
        (refine (HRJ.out _ _ _ (Ge.out.below bel) (fun t ht => (HC.out t ht).below (below_tr hbr bel)) HAJ.out).mono ?_; rintro e w1 ⟨X3, z3, X6, z6, X7, z7, bs1, rfl, r1, nd1, hb1, b1⟩; have B1 : Below wr.heap.size wr w1 := bel; have O1 := Lib.hid (one_newN (N := w1.heap.size) r1 50 rfl); have N1 := Lib.hid (And.intro nd1 (show ∀ z ∈ bs1, wr.heap.size ≤ z from fun z hz => by have := hb1 z hz; simp at this; omega)); clear r1 nd1 hb1)
        go_wp2_with fail
        refine hK.out _ _ (⟨cell_toC hHeld.1 b1, hHeld.2.to b1⟩) (fun hHeld => ?_)
        clear hK K
        try simp only [Act.put, List.setIfInBounds_toArray, List.set_cons_zero, List.set_cons_succ]
        refine readyT (rs := [5]) (by kernel_rfl) (by simp) (all1 ?_)
        refine opT (i := 5) rfl (wanted_none rfl) (fun K hK => ?_)
        (unfold Oper.wp; go_simp)
        refine hK.out _ _ (⟨cell_alM hHeld.1, hHeld.2.to ((Below.refl _ _).alloc (Nat.le_refl _) _)⟩) (fun hHeld => ?_)
        clear hK K
        try simp only [Act.put, List.setIfInBounds_toArray, List.set_cons_zero, List.set_cons_succ]
        refine readyT (rs := [6]) (by kernel_rfl) (by simp) (all1 ?_)
        refine opT (i := 6) rfl (wanted_none rfl) (fun K hK => ?_)
        (refine wp_append_more (w0 := wr) (B := wc.heap.size) (xs := (x.kids.take j).map fun y => (mapEx F y).d) (ys := [(mapEx F y).d]) (.tmp 37) (.tmp 41) _ rfl _ Try.underlying48 Try.infoEx rfl (by decide) rfl HG.out ?hbw rfl O1.out ?hys ?hn ?hf ?hlen hszr ?_; (case hbw => exact bel); (case hys => (intro z hz; simp only [List.mem_singleton] at hz; rw [hz]; exact Ex.d_size _)); (case hn => exact N1.out.1); (case hf => exact N1.out.2); (case hlen => (simp; omega)); intro v2_ w4 hG4 hg4; have B4 : Below wc.heap.size wr w4 := ((B1.alloc B1.size _).mono hszr).trans (hg4.below (Nat.le_trans hszr (Nat.le_trans B1.size (by simp))) (fun b hb => (HOW.out b hb).1)); have XR := Lib.hid (HO2.out.of_block (B4.block _ hgO)); have XB := XR.out.box7; have XF := XR.out.frozen 6; have xlt := lt_of_cell XB.1; obtain ⟨A4, c4, hf4, _, _⟩ := hG4.form; simp only [List.length_append, List.length_map, List.length_take, List.length_singleton] at hf4; rw [show min j x.kids.length + 1 = j + 1 by omega] at hf4; subst hf4; rw [← HT.out] at hG4; have HG4 := Lib.hid hG4; have HT4 := Lib.hid (HTC.out.then B4))
        refine hK.out _ _ (⟨(hg4.touch.cell (lt_of_cell hHeld.1) (fun hm => by have := (HOW.out _ (mem_ownL.1 hm)).1; omega)).trans hHeld.1, hHeld.2.touch hg4.touch (fun hm => by have := (HOW.out _ (mem_ownL.1 hm)).2; omega)⟩) (fun hHeld => ?_)
        clear hK K
        try simp only [Act.put, List.setIfInBounds_toArray, List.set_cons_zero, List.set_cons_succ]
        refine goU 7 (fun _ => hHeld) ?_
        refine readyT (rs := [8]) (by kernel_rfl) (by simp) (all1 ?_)
        refine opTT (i := 8) rfl (wanted_none rfl) (by kernel_rfl) (fun K hK => ?_)
        (unfold Oper.wp; go_simp)
        refine hK.out _ _ ?_
        clear hK K
        try simp only [Act.put, List.setIfInBounds_toArray, List.set_cons_zero, List.set_cons_succ]
        refine wpAnyT_done (by kernel_rfl) ?_ _
        refine NoPanic.normal ?_
        (go_wp2; go_roundw; (case rel => exact ⟨j + 1, _, by omega, by go_num, XR.out.set 6 _, HG4.out.set_low (p := ⟨w.heap.size + 2, 6, none⟩) hgO _, HT4.out.setCell (by first | (simp; done) | (simp; omega)) _⟩); (case measure => (simp [intOf]; omega)))
      · have hjj : j = x.kids.length := by omega
        subst hjj
        rw [Nat.min_self] at hfu
        subst hfu
        obtain ⟨A5, c5, bs5, he5, r5, nd5, hb5⟩ := HG.out.rep
        rw [List.length_map, List.length_take, Nat.min_self] at he5 r5
        simp only [Value.slice.injEq, true_and] at he5
        obtain ⟨rfl, rfl⟩ := he5
        rw [List.take_length] at r5
        have HZr := Lib.hid (HZ.out.of_block (HTC.out.block (w.heap.size + 1) (by omega) (by simp)))
        obtain ⟨o0, o1, o2, o3, o4, o5, o6⟩ := HO2.out.box7
        obtain ⟨z0, z1, z2, z3, z4, z5, z6⟩ := HZr.out.box7
        have f0 := HZr.out.frozen 0
        have f1 := HZr.out.frozen 1
        have f2 := HZr.out.frozen 2
        have f3 := HZr.out.frozen 3
        have f4 := HZr.out.frozen 4
        have f5 := HZr.out.frozen 5
        have f6 := HZr.out.frozen 6
        have lz := lt_of_cell z0
        have lo := lt_of_cell o0
        have HIr := Lib.hid (Rep.keep _ HI.out (HTC.out.keeps fun z hz => ⟨Rep.lt _ HI.out z hz, by have := HGE.out z (List.mem_append_left _ hz); simp; omega⟩))
        have HRr := Lib.hid (Rep.keep _ HR.out (HTC.out.keeps fun z hz => ⟨Rep.lt _ HR.out z hz, by have := HGE.out z (List.mem_append_right _ hz); simp; omega⟩))
        have HLI := Lib.hid (And.intro (Rep.lt _ HI.out) (Rep.lt _ HR.out))
        have H5 := Lib.hid (And.intro r5 (And.intro nd5 hb5))
        clear r5 nd5 hb5
        go_wp2
        have hnb : ∀ bs : List Nat, (∀ z ∈ bs, w.heap.size + 3 ≤ z) → w.heap.size + 1 ∉ bs := fun bs h hm => by have := h _ hm; omega
        have RF := (((((((HZr.out.set 0 (.int .i64 x.kind)).set 1 (.int .i64 x.num)).set 2 (.slice AI nI cI)).set 3 (.int .i64 kI)).set 4 (.string sR)).set 5 (.slice AR nR cR)).set 6 (.slice Au x.kids.length cu))
        simp only [List.set_cons_zero, List.set_cons_succ] at RF
        have BF : Below w.heap.size w (((((((wr.setCell ⟨w.heap.size + 1, 0, none⟩ (.int .i64 x.kind)).setCell ⟨w.heap.size + 1, 1, none⟩ (.int .i64 x.num)).setCell ⟨w.heap.size + 1, 2, none⟩ (.slice AI nI cI)).setCell ⟨w.heap.size + 1, 3, none⟩ (.int .i64 kI)).setCell ⟨w.heap.size + 1, 4, none⟩ (.string sR)).setCell ⟨w.heap.size + 1, 5, none⟩ (.slice AR nR cR)).setCell ⟨w.heap.size + 1, 6, none⟩ (.slice Au x.kids.length cu)) := bel
        have KF : ∀ bs : List Nat, (∀ z ∈ bs, w.heap.size + 3 ≤ z) → Keeps wr (((((((wr.setCell ⟨w.heap.size + 1, 0, none⟩ (.int .i64 x.kind)).setCell ⟨w.heap.size + 1, 1, none⟩ (.int .i64 x.num)).setCell ⟨w.heap.size + 1, 2, none⟩ (.slice AI nI cI)).setCell ⟨w.heap.size + 1, 3, none⟩ (.int .i64 kI)).setCell ⟨w.heap.size + 1, 4, none⟩ (.string sR)).setCell ⟨w.heap.size + 1, 5, none⟩ (.slice AR nR cR)).setCell ⟨w.heap.size + 1, 6, none⟩ (.slice Au x.kids.length cu)) bs := fun bs h => by
          have hz5 := hnb bs h
          repeat (first | with_reducible exact Keeps.refl _ _ | refine Keeps.setCell ?_ hz5 _)
        refine bodyPost_ret (v := .agg #[.int .i64 x.kind, .int .i64 x.num, .slice AI nI cI, .int .i64 kI, .string sR, .slice AR nR cR, .slice Au x.kids.length cu]) ?_ rfl ?_
        · obtain ⟨y0, y1, y2, y3, y4, y5, y6⟩ := RF.box7
          obtain ⟨Wf, hWf⟩ : ∃ Wf, Wf = (((((((wr.setCell ⟨w.heap.size + 1, 0, none⟩ (.int .i64 x.kind)).setCell ⟨w.heap.size + 1, 1, none⟩ (.int .i64 x.num)).setCell ⟨w.heap.size + 1, 2, none⟩ (.slice AI nI cI)).setCell ⟨w.heap.size + 1, 3, none⟩ (.int .i64 kI)).setCell ⟨w.heap.size + 1, 4, none⟩ (.string sR)).setCell ⟨w.heap.size + 1, 5, none⟩ (.slice AR nR cR)).setCell ⟨w.heap.size + 1, 6, none⟩ (.slice Au x.kids.length cu)) := ⟨_, rfl⟩
          rw [← hWf] at y0 y1 y2 y3 y4 y5 y6 ⊢
          clear hWf
          simp [results, Try.results80, go_sem, y0, y1, y2, y3, y4, y5, y6]
        refine MadeEx.of ⟨[.int .i64 x.kind, .int .i64 x.num, .slice AI nI cI, .int .i64 kI, .string sR, .slice AR nR cR, .slice Au x.kids.length cu], dI ++ dR ++ bs5, rfl, ?_, ?_, ?_, ?_⟩
        · have hll : (x.kids.map (mapEx F)).length = x.kids.length := List.length_map _
          have := Ex.rep_of (w := wr) (A := Au) (c := cu) (d7 := bs5) HKK.out.1 HKK.out.2 HIr.out HRr.out (ks := x.kids.map (mapEx F)) (by
            rw [hll]
            have := H5.out.1
            unfold sls
            rw [List.map_map]
            exact this)
          rw [hll] at this
          rw [HMX.out]
          refine Rep.keep _ this (KF _ (fun z hz => by
            rcases List.mem_append.1 hz with hz | hz
            · exact HGE.out z hz
            · have := H5.out.2.2 z hz; omega))
        · refine List.nodup_append.2 ⟨HND.out, H5.out.2.1, fun a ha b hb e => ?_⟩
          subst e
          have h1 := H5.out.2.2 a hb
          rcases List.mem_append.1 ha with ha | ha
          · have := HLI.out.1 a ha; omega
          · have := HLI.out.2 a ha; omega
        · intro z hz
          rcases List.mem_append.1 hz with hz | hz
          · have := HGE.out z hz; omega
          · have := H5.out.2.2 z hz; omega
        · exact BF
theorem exprMap_c {g : FuncId} {cap : Array Value} {F : Aff → Aff} {p : Aff → Bool} (hg : Enters Try.prog g) (x : Ex) : MapX g cap F p x := Ex.ind (P := MapX g cap F p) (fun _ hx => exprMap_r hg hx) x
end Go.Proofs.Ytadmmlflngkpiaa

/- Changed statements: stmtMap, ownStmt of the program; StmtReads of both sides. -/
namespace Go.Proofs.Ytadmmlflngkpiaa
open Go.ChangeShapes Go.WideShapes Go.ChangeAt Go.RowKit Go.Deep

theorem Stm.rep_of {w : World} {x : Stm} {c1 c2 : List Value} {b1 b2 : List Nat} (h1 : Rep w x.write.d c1 b1) (h2 : Rep w x.value.d c2 b2) : Rep w x.d (c1 ++ c2) (b1 ++ b2) := by
  unfold Stm.d
  simp only [Rep, Reps]
  exact ⟨c1, c2, b1, b2, rfl, rfl, h1, c2, [], b2, [], by simp, by simp, h2, rfl, rfl⟩
theorem two_new {W N : Nat} {b1 b2 : List Nat} (n1 : b1.Nodup) (n2 : b2.Nodup) (h1 : ∀ y ∈ b1, W ≤ y) (l1 : ∀ y ∈ b1, y < N) (h2 : ∀ y ∈ b2, N ≤ y) (hN : W ≤ N) : (b1 ++ b2).Nodup ∧ (b2 ++ b1).Nodup ∧ (∀ y ∈ b1 ++ b2, W ≤ y) ∧ ∀ y ∈ b2 ++ b1, W ≤ y := by
  have hd : ∀ a ∈ b1, ∀ b ∈ b2, a ≠ b := fun a ha b hb e => by have := l1 a ha; have := h2 b hb; omega
  refine ⟨List.nodup_append.2 ⟨n1, n2, hd⟩, List.nodup_append.2 ⟨n2, n1, fun a ha b hb e => hd b hb a ha e.symm⟩, fun y hy => ?_, fun y hy => ?_⟩
  · rcases List.mem_append.1 hy with hy | hy
    · exact h1 y hy
    · have := h2 y hy; omega
  · rcases List.mem_append.1 hy with hy | hy
    · have := h2 y hy; omega
    · exact h1 y hy
theorem Row.box9 {w : World} {g : Nat} {t : TypeId} {a0 a1 a2 a3 a4 a5 a6 a7 a8 : Value} (h : Row w g t [a0, a1, a2, a3, a4, a5, a6, a7, a8]) : Box9 w g a0 a1 a2 a3 a4 a5 a6 a7 a8 :=
  ⟨h.cell 0, h.cell 1, h.cell 2, h.cell 3, h.cell 4, h.cell 5, h.cell 6, h.cell 7, h.cell 8⟩
theorem Row.new2 (w : World) (l1 l2 : List Value) (t : TypeId) : Row ((w.alloc (.cells l1.toArray t)).alloc (.cells l2.toArray t)) (w.heap.size + 1) t l2 := by
  have h := Row.new (w.alloc (.cells l1.toArray t)) l2 t
  rwa [size_al] at h
set_option maxRecDepth 100000 in
set_option maxHeartbeats 8000000 in
theorem stmtMap_c {w : World} {x : Stm} {cs : List Value} {bs : List Nat} {g : FuncId} {cap : Array Value} {F : Aff → Aff} {p : Aff → Bool} (h : Rep w x.d cs bs) (hg : Enters Try.prog g) (hc : ∀ t, p t = true → Changes w g cap F t) (ha : ∀ t ∈ x.write.subs, p t = true) (hl : x.write.subs.length ≤ 1000000) (hx : exAll p x.value = true) :
    Calls Try.prog 48 #[.agg cs.toArray, .func (.func g) #[] cap] w (MadeStm w (mapStm F x)) := by
  have HC := Lib.hid hc; clear hc
  have HA := Lib.hid ha; clear ha
  have HX := Lib.hid hx; clear hx
  have HG := Lib.hid hg; clear hg
  obtain ⟨A2, c2, A5, c5, A8, c8, A9, c9, d2, d5, d8, d9, rfl, rfl, g1, g2, g3, g4, g5, g6, g7, g8, g9⟩ := Rep.stm_iff.1 h
  have Gwrite := Lib.hid ((Rep.acc_iff (x := x.write)).2 ⟨_, _, _, rfl, rfl, g1, g2⟩)
  have Gvalue := Lib.hid ((Rep.ex_iff (x := x.value)).2 ⟨_, _, _, _, _, _, _, _, _, rfl, rfl, g3, g4, g5, g6, g7, g8, g9⟩)
  clear h g1 g2 g3 g4 g5 g6 g7 g8 g9
  have b0 : Below w.heap.size w ((w.alloc (.cells #[.string x.write.arr, .slice A2 x.write.subs.length c2, .int .i64 x.value.kind, .int .i64 x.value.num, .slice A5 x.value.index.coefs.length c5, .int .i64 x.value.index.const, .string x.value.read.arr, .slice A8 x.value.read.subs.length c8, .slice A9 x.value.kids.length c9] 52)).alloc (.cells #[.string ⟨#[]⟩, .slice none 0 0, .int .i64 0, .int .i64 0, .slice none 0 0, .int .i64 0, .string ⟨#[]⟩, .slice none 0 0, .slice none 0 0] 52)) := bel
  have HZ0 := Lib.hid (Row.new2 w [.string x.write.arr, .slice A2 x.write.subs.length c2, .int .i64 x.value.kind, .int .i64 x.value.num, .slice A5 x.value.index.coefs.length c5, .int .i64 x.value.index.const, .string x.value.read.arr, .slice A8 x.value.read.subs.length c8, .slice A9 x.value.kids.length c9] [.string ⟨#[]⟩, .slice none 0 0, .int .i64 0, .int .i64 0, .slice none 0 0, .int .i64 0, .string ⟨#[]⟩, .slice none 0 0, .slice none 0 0] 52)
  go_enter Try.func48, Try.ntmps48
  go_wp2_with fail
  refine wp_region_noPanic ?_
  refine wp_regionT (S := fun w' => Box9 w' w.heap.size (.string x.write.arr) (.slice A2 x.write.subs.length c2) (.int .i64 x.value.kind) (.int .i64 x.value.num) (.slice A5 x.value.index.coefs.length c5) (.int .i64 x.value.index.const) (.string x.value.read.arr) (.slice A8 x.value.read.subs.length c8) (.slice A9 x.value.kids.length c9)) 9 (by kernel_rfl) (⟨by go_simp, by go_simp, by go_simp, by go_simp, by go_simp, by go_simp, by go_simp, by go_simp, by go_simp⟩) (fun hHeld => ?_)
  refine goU 0 (fun _ => hHeld) ?_
  refine goT 1 hHeld ?_
  refine goU 2 (fun _ => hHeld) ?_
  refine goU 4 (fun _ => hHeld) ?_
  refine goT 5 hHeld ?_
  refine goU 6 (fun _ => hHeld) ?_
  refine readyT (rs := [3]) (by kernel_rfl) (by simp) (all1 ?_)
  refine opT (i := 3) rfl (wanted_none rfl) (fun K hK => ?_)
  go_simp
  (refine (accessMap_c (Gwrite.out.below bel) hl HG.out (fun t ht => (HC.out t (HA.out t ht)).below bel)).mono ?_; rintro e w3 ⟨Y1, y1, bs1, rfl, r1, nd1, hb1, b1⟩; have B1 : Below w.heap.size w w3 := bel; have R1 := Lib.hid r1; have L1 := Lib.hid (Rep.lt _ r1); have M1 := Lib.hid hb1; clear r1 hb1)
  go_wp2_with fail
  refine hK.out _ _ (hHeld.to b1) (fun hHeld => ?_)
  clear hK K
  try simp only [Act.put, List.setIfInBounds_toArray, List.set_cons_zero, List.set_cons_succ]
  refine readyT (rs := [7]) (by kernel_rfl) (by simp) (all1 ?_)
  refine opT (i := 7) rfl (wanted_none rfl) (fun K hK => ?_)
  go_simp
  (refine (exprMap_c HG.out x.value _ _ _ (Gvalue.out.below bel) (fun t ht => (HC.out t ht).below bel) HX.out).mono ?_; rintro e w7 ⟨X3, z3, X6, z6, X7, z7, bs2, rfl, r2, nd2, hb2, b2⟩; have B2 : Below w.heap.size w w7 := bel; have R2 := Lib.hid r2; have L2 := Lib.hid (Rep.lt _ r2); have M2 := Lib.hid hb2; clear r2 hb2; have HZ := Lib.hid ((HZ0.out.of_block (b1.block (w.heap.size + 1) (by simp))).to b2); obtain ⟨q0, q1, q2, q3, q4, q5, q6, q7, q8⟩ := HZ.out.box9; have f0 := HZ.out.frozen 0; have f1 := HZ.out.frozen 1; have f2 := HZ.out.frozen 2; have f3 := HZ.out.frozen 3; have f4 := HZ.out.frozen 4; have f5 := HZ.out.frozen 5; have f6 := HZ.out.frozen 6; have f7 := HZ.out.frozen 7; have f8 := HZ.out.frozen 8; have lz := lt_of_cell q0)
  go_wp2_with fail
  refine hK.out _ _ (hHeld.to b2) (fun hHeld => ?_)
  clear hK K
  try simp only [Act.put, List.setIfInBounds_toArray, List.set_cons_zero, List.set_cons_succ]
  refine goU 8 (fun _ => hHeld) ?_
  refine readyT (rs := [9]) (by kernel_rfl) (by simp) (all1 ?_)
  refine opTT (i := 9) rfl (wanted_none rfl) (by kernel_rfl) (fun K hK => ?_)
  (unfold Oper.wp; go_simp)
  refine hK.out _ _ ?_
  clear hK K
  try simp only [Act.put, List.setIfInBounds_toArray, List.set_cons_zero, List.set_cons_succ]
  refine wpAnyT_done (by kernel_rfl) ?_ _
  refine NoPanic.normal ?_
  (skip)
  go_wp2
  have RF := (((((((((HZ.out.set 0 (.string (mapAcc F x.write).arr)).set 1 (.slice Y1 (mapAcc F x.write).subs.length y1)).set 2 (.int .i64 (mapEx F x.value).kind)).set 3 (.int .i64 (mapEx F x.value).num)).set 4 (.slice X3 (mapEx F x.value).index.coefs.length z3)).set 5 (.int .i64 (mapEx F x.value).index.const)).set 6 (.string (mapEx F x.value).read.arr)).set 7 (.slice X6 (mapEx F x.value).read.subs.length z6)).set 8 (.slice X7 (mapEx F x.value).kids.length z7))
  simp only [List.set_cons_zero, List.set_cons_succ] at RF
  have ND := two_new nd1 nd2 (W := w.heap.size + 2) (N := w3.heap.size) (fun y hy => by have := M1.out y hy; simp at this; omega) L1.out M2.out (by have := b1.size; simp at this; omega)
  have BF : Below w.heap.size w (((((((((w7.setCell ⟨w.heap.size + 1, 0, none⟩ (.string (mapAcc F x.write).arr)).setCell ⟨w.heap.size + 1, 1, none⟩ (.slice Y1 (mapAcc F x.write).subs.length y1)).setCell ⟨w.heap.size + 1, 2, none⟩ (.int .i64 (mapEx F x.value).kind)).setCell ⟨w.heap.size + 1, 3, none⟩ (.int .i64 (mapEx F x.value).num)).setCell ⟨w.heap.size + 1, 4, none⟩ (.slice X3 (mapEx F x.value).index.coefs.length z3)).setCell ⟨w.heap.size + 1, 5, none⟩ (.int .i64 (mapEx F x.value).index.const)).setCell ⟨w.heap.size + 1, 6, none⟩ (.string (mapEx F x.value).read.arr)).setCell ⟨w.heap.size + 1, 7, none⟩ (.slice X6 (mapEx F x.value).read.subs.length z6)).setCell ⟨w.heap.size + 1, 8, none⟩ (.slice X7 (mapEx F x.value).kids.length z7)) := bel
  have hnb : w.heap.size + 1 ∉ bs1 ++ bs2 := fun hm => by have := ND.2.2.1 _ hm; omega
  have KF : Keeps w7 (((((((((w7.setCell ⟨w.heap.size + 1, 0, none⟩ (.string (mapAcc F x.write).arr)).setCell ⟨w.heap.size + 1, 1, none⟩ (.slice Y1 (mapAcc F x.write).subs.length y1)).setCell ⟨w.heap.size + 1, 2, none⟩ (.int .i64 (mapEx F x.value).kind)).setCell ⟨w.heap.size + 1, 3, none⟩ (.int .i64 (mapEx F x.value).num)).setCell ⟨w.heap.size + 1, 4, none⟩ (.slice X3 (mapEx F x.value).index.coefs.length z3)).setCell ⟨w.heap.size + 1, 5, none⟩ (.int .i64 (mapEx F x.value).index.const)).setCell ⟨w.heap.size + 1, 6, none⟩ (.string (mapEx F x.value).read.arr)).setCell ⟨w.heap.size + 1, 7, none⟩ (.slice X6 (mapEx F x.value).read.subs.length z6)).setCell ⟨w.heap.size + 1, 8, none⟩ (.slice X7 (mapEx F x.value).kids.length z7)) (bs1 ++ bs2) := by
    repeat (first | with_reducible exact Keeps.refl _ _ | refine Keeps.setCell ?_ hnb _)
  refine bodyPost_ret (v := .agg #[.string (mapAcc F x.write).arr, .slice Y1 (mapAcc F x.write).subs.length y1, .int .i64 (mapEx F x.value).kind, .int .i64 (mapEx F x.value).num, .slice X3 (mapEx F x.value).index.coefs.length z3, .int .i64 (mapEx F x.value).index.const, .string (mapEx F x.value).read.arr, .slice X6 (mapEx F x.value).read.subs.length z6, .slice X7 (mapEx F x.value).kids.length z7]) ?_ rfl ?_
  · obtain ⟨p0, p1, p2, p3, p4, p5, p6, p7, p8⟩ := RF.box9
    obtain ⟨Wf, hWf⟩ : ∃ Wf, Wf = (((((((((w7.setCell ⟨w.heap.size + 1, 0, none⟩ (.string (mapAcc F x.write).arr)).setCell ⟨w.heap.size + 1, 1, none⟩ (.slice Y1 (mapAcc F x.write).subs.length y1)).setCell ⟨w.heap.size + 1, 2, none⟩ (.int .i64 (mapEx F x.value).kind)).setCell ⟨w.heap.size + 1, 3, none⟩ (.int .i64 (mapEx F x.value).num)).setCell ⟨w.heap.size + 1, 4, none⟩ (.slice X3 (mapEx F x.value).index.coefs.length z3)).setCell ⟨w.heap.size + 1, 5, none⟩ (.int .i64 (mapEx F x.value).index.const)).setCell ⟨w.heap.size + 1, 6, none⟩ (.string (mapEx F x.value).read.arr)).setCell ⟨w.heap.size + 1, 7, none⟩ (.slice X6 (mapEx F x.value).read.subs.length z6)).setCell ⟨w.heap.size + 1, 8, none⟩ (.slice X7 (mapEx F x.value).kids.length z7)) := ⟨_, rfl⟩
    rw [← hWf] at p0 p1 p2 p3 p4 p5 p6 p7 p8 ⊢
    clear hWf
    simp [results, Try.results48, go_sem, p0, p1, p2, p3, p4, p5, p6, p7, p8]
  refine MadeStm.of ⟨_, bs1 ++ bs2, rfl, Rep.keep _ (Stm.rep_of (x := mapStm F x) (R1.out.below b2) R2.out) KF, ND.1, fun y hy => by have := ND.2.2.1 y hy; omega, BF⟩
theorem ownAffine_e : Enters Try.prog 83 := fun args W => by go_simp
theorem ownAffine_ch (w : World) (a : Aff) (ha : affOk a = true) : Changes w 83 #[] id a := by
  intro cs bs W hW h
  obtain ⟨A, n, c, rfl, h1, h2⟩ := Rep.aff_iff.1 h
  have hn := h1.ints_len.1
  have h4 := (affOk_iff.1 ha).1
  show Calls Try.prog 83 #[.agg #[.slice A n c, .int .i64 a.const]] W (MadeAff W a)
  exact ownAffine_c h (by omega)
theorem stm_ok {x : Stm} {d : Int} (hv : StmtValidF x d = true) : (∀ t ∈ x.write.subs, affOk t = true) ∧ x.write.subs.length ≤ 1000000 ∧ exAll affOk x.value = true := by
  obtain ⟨h1, h2, h3⟩ := stmtValid_parts hv
  refine ⟨(accOk_subs h1).2, ?_, (shape_all x.value 5 d h2).1⟩
  simp only [accOk, Bool.and_eq_true] at h1
  have := (sideOk_iff h1.2).2.1
  omega
set_option maxRecDepth 100000 in
set_option maxHeartbeats 4000000 in
theorem ownStmt_c {w : World} {x : Stm} {cs : List Value} {bs : List Nat} (h : Rep w x.d cs bs) (hv : StmtValidF x 4 = true) : Calls Try.prog 55 #[.agg cs.toArray] w (MadeStm w x) := by
  have HO := Lib.hid (stm_ok hv)
  have HID := Lib.hid (mapStm_id hv)
  have HH := Lib.hid h
  obtain ⟨A2, c2, A5, c5, A8, c8, A9, c9, d2, d5, d8, d9, rfl, rfl, g1, g2, g3, g4, g5, g6, g7, g8, g9⟩ := Rep.stm_iff.1 h
  have Gwrite := Lib.hid ((Rep.acc_iff (x := x.write)).2 ⟨_, _, _, rfl, rfl, g1, g2⟩)
  have Gvalue := Lib.hid ((Rep.ex_iff (x := x.value)).2 ⟨_, _, _, _, _, _, _, _, _, rfl, rfl, g3, g4, g5, g6, g7, g8, g9⟩)
  clear h g1 g2 g3 g4 g5 g6 g7 g8 g9
  clear hv
  have HZ0 := Lib.hid (Row.new2 w [.string x.write.arr, .slice A2 x.write.subs.length c2, .int .i64 x.value.kind, .int .i64 x.value.num, .slice A5 x.value.index.coefs.length c5, .int .i64 x.value.index.const, .string x.value.read.arr, .slice A8 x.value.read.subs.length c8, .slice A9 x.value.kids.length c9] [.string ⟨#[]⟩, .slice none 0 0, .int .i64 0, .int .i64 0, .slice none 0 0, .int .i64 0, .string ⟨#[]⟩, .slice none 0 0, .slice none 0 0] 52)
  go_enter Try.func55, Try.ntmps55
  go_wp2_with fail
  refine (stmtMap_c (F := id) (p := affOk) (HH.out.below bel) ownAffine_e (fun t ht => ownAffine_ch _ t ht) HO.out.1 HO.out.2.1 HO.out.2.2).mono ?_
  rw [HID.out]
  rintro e w1 ⟨Y2, y2, Y5, y5, Y8, y8, Y9, y9, bs1, rfl, r1, nd1, hb1, b1⟩
  have HZ := Lib.hid (HZ0.out.of_block (b1.block (w.heap.size + 1) (by simp)))
  obtain ⟨q0, q1, q2, q3, q4, q5, q6, q7, q8⟩ := HZ.out.box9
  have f0 := HZ.out.frozen 0; have f1 := HZ.out.frozen 1; have f2 := HZ.out.frozen 2; have f3 := HZ.out.frozen 3; have f4 := HZ.out.frozen 4; have f5 := HZ.out.frozen 5; have f6 := HZ.out.frozen 6; have f7 := HZ.out.frozen 7; have f8 := HZ.out.frozen 8
  have lz := lt_of_cell q0
  have R1 := Lib.hid r1; clear r1
  have hge : ∀ y ∈ bs1, w.heap.size + 2 ≤ y := fun y hy => by have := hb1 y hy; simp at this; omega
  have HGE := Lib.hid hge; clear hge hb1
  go_wp2
  have hnb : w.heap.size + 1 ∉ bs1 := fun hm => by have := HGE.out _ hm; omega
  have RF := (((((((((HZ.out.set 0 (.string x.write.arr)).set 1 (.slice Y2 x.write.subs.length y2)).set 2 (.int .i64 x.value.kind)).set 3 (.int .i64 x.value.num)).set 4 (.slice Y5 x.value.index.coefs.length y5)).set 5 (.int .i64 x.value.index.const)).set 6 (.string x.value.read.arr)).set 7 (.slice Y8 x.value.read.subs.length y8)).set 8 (.slice Y9 x.value.kids.length y9))
  simp only [List.set_cons_zero, List.set_cons_succ] at RF
  have BF : Below w.heap.size w (((((((((w1.setCell ⟨w.heap.size + 1, 0, none⟩ (.string x.write.arr)).setCell ⟨w.heap.size + 1, 1, none⟩ (.slice Y2 x.write.subs.length y2)).setCell ⟨w.heap.size + 1, 2, none⟩ (.int .i64 x.value.kind)).setCell ⟨w.heap.size + 1, 3, none⟩ (.int .i64 x.value.num)).setCell ⟨w.heap.size + 1, 4, none⟩ (.slice Y5 x.value.index.coefs.length y5)).setCell ⟨w.heap.size + 1, 5, none⟩ (.int .i64 x.value.index.const)).setCell ⟨w.heap.size + 1, 6, none⟩ (.string x.value.read.arr)).setCell ⟨w.heap.size + 1, 7, none⟩ (.slice Y8 x.value.read.subs.length y8)).setCell ⟨w.heap.size + 1, 8, none⟩ (.slice Y9 x.value.kids.length y9)) := bel
  have KF : Keeps w1 (((((((((w1.setCell ⟨w.heap.size + 1, 0, none⟩ (.string x.write.arr)).setCell ⟨w.heap.size + 1, 1, none⟩ (.slice Y2 x.write.subs.length y2)).setCell ⟨w.heap.size + 1, 2, none⟩ (.int .i64 x.value.kind)).setCell ⟨w.heap.size + 1, 3, none⟩ (.int .i64 x.value.num)).setCell ⟨w.heap.size + 1, 4, none⟩ (.slice Y5 x.value.index.coefs.length y5)).setCell ⟨w.heap.size + 1, 5, none⟩ (.int .i64 x.value.index.const)).setCell ⟨w.heap.size + 1, 6, none⟩ (.string x.value.read.arr)).setCell ⟨w.heap.size + 1, 7, none⟩ (.slice Y8 x.value.read.subs.length y8)).setCell ⟨w.heap.size + 1, 8, none⟩ (.slice Y9 x.value.kids.length y9)) bs1 := by
    repeat (first | with_reducible exact Keeps.refl _ _ | refine Keeps.setCell ?_ hnb _)
  refine bodyPost_ret (v := .agg #[.string x.write.arr, .slice Y2 x.write.subs.length y2, .int .i64 x.value.kind, .int .i64 x.value.num, .slice Y5 x.value.index.coefs.length y5, .int .i64 x.value.index.const, .string x.value.read.arr, .slice Y8 x.value.read.subs.length y8, .slice Y9 x.value.kids.length y9]) ?_ rfl ?_
  · obtain ⟨p0, p1, p2, p3, p4, p5, p6, p7, p8⟩ := RF.box9
    obtain ⟨Wf, hWf⟩ : ∃ Wf, Wf = (((((((((w1.setCell ⟨w.heap.size + 1, 0, none⟩ (.string x.write.arr)).setCell ⟨w.heap.size + 1, 1, none⟩ (.slice Y2 x.write.subs.length y2)).setCell ⟨w.heap.size + 1, 2, none⟩ (.int .i64 x.value.kind)).setCell ⟨w.heap.size + 1, 3, none⟩ (.int .i64 x.value.num)).setCell ⟨w.heap.size + 1, 4, none⟩ (.slice Y5 x.value.index.coefs.length y5)).setCell ⟨w.heap.size + 1, 5, none⟩ (.int .i64 x.value.index.const)).setCell ⟨w.heap.size + 1, 6, none⟩ (.string x.value.read.arr)).setCell ⟨w.heap.size + 1, 7, none⟩ (.slice Y8 x.value.read.subs.length y8)).setCell ⟨w.heap.size + 1, 8, none⟩ (.slice Y9 x.value.kids.length y9)) := ⟨_, rfl⟩
    rw [← hWf] at p0 p1 p2 p3 p4 p5 p6 p7 p8 ⊢
    clear hWf
    simp [results, Try.results55, go_sem, p0, p1, p2, p3, p4, p5, p6, p7, p8]
  refine MadeStm.of ⟨_, bs1, rfl, Rep.keep _ R1.out KF, nd1, fun y hy => by have := HGE.out y hy; omega, BF⟩
theorem isStmt_c {w : World} {x : Stm} {cs : List Value} {bs : List Nat} (h : Rep w x.d cs bs) : Calls Try.prog 47 #[.agg cs.toArray] w fun e w' => e = .returned (.bool (StmtValidF x 4)) ∧ Below w.heap.size w w' := by
  have HH := Lib.hid h
  obtain ⟨A2, c2, A5, c5, A8, c8, A9, c9, d2, d5, d8, d9, rfl, rfl, g1, g2, g3, g4, g5, g6, g7, g8, g9⟩ := Rep.stm_iff.1 h
  have Gwrite := Lib.hid ((Rep.acc_iff (x := x.write)).2 ⟨_, _, _, rfl, rfl, g1, g2⟩)
  have Gvalue := Lib.hid ((Rep.ex_iff (x := x.value)).2 ⟨_, _, _, _, _, _, _, _, _, rfl, rfl, g3, g4, g5, g6, g7, g8, g9⟩)
  clear h g1 g2 g3 g4 g5 g6 g7 g8 g9
  go_enter Try.func47, Try.ntmps47
  go_wp2_with fail
  refine (implStmtValid_c (HH.out.below bel)).mono ?_
  rintro e w1 ⟨rfl, b1⟩
  go_wp2
  go_ret
  exact ⟨rfl, bel⟩
def StmtReadsF (s : Stm) : List Acc := if StmtValidF s 4 then readsF s.value else []
theorem StmtReadsF_n {s : Stm} (h : StmtValidF s 4 = false) : StmtReadsF s = [] := by unfold StmtReadsF; rw [h]; rfl
theorem StmtReadsF_y {s : Stm} (h : StmtValidF s 4 = true) : StmtReadsF s = readsF s.value := by unfold StmtReadsF; rw [h]; rfl
theorem reads_ok {s : Stm} (h : StmtValidF s 4 = true) : (readsF s.value).length ≤ 1000 ∧ ∀ a ∈ readsF s.value, a.subs.length ≤ 2 ∧ ∀ t ∈ a.subs, t.coefs.length = 4 := by
  obtain ⟨h1, h2, h3⟩ := stmtValid_parts h
  refine ⟨by have := reads_len s.value 5 ⟨4, h2⟩; omega, fun a ha => ?_⟩
  have h5 := shape_reads s.value 5 4 h2 a ha
  have h6 := accOk_subs h5
  simp only [accOk, Bool.and_eq_true] at h5
  exact ⟨(sideOk_iff h5.2).2.1, fun t ht => (affOk_iff.1 (h6.2 t ht)).1⟩
theorem StmtReadsF_len (s : Stm) : cntL Acc.cntE (StmtReadsF s) ≤ 1000000 := by
  cases h : StmtValidF s 4 with
  | false => rw [StmtReadsF_n h]; simp [cntL]
  | true =>
    rw [StmtReadsF_y h]
    obtain ⟨h1, h2⟩ := reads_ok h
    have hm : ∀ {α : Type} {cnt : α → Nat} {k : Nat} (xs : List α), (∀ x ∈ xs, cnt x ≤ k) → cntL cnt xs ≤ xs.length * k := by
      intro α cnt k xs
      induction xs with
      | nil => intro _; simp [cntL]
      | cons x xs ih =>
        intro h
        have a1 := h x List.mem_cons_self
        have a2 := ih fun y hy => h y (List.mem_cons_of_mem _ hy)
        rw [cntL, List.length_cons, Nat.add_mul]; omega
    have h3 := hm (cnt := Acc.cntE) (k := 11) (readsF s.value) (fun a ha => by
      have h4 := hm (cnt := Aff.cntE) (k := 5) a.subs (fun t ht => by have := (h2 a ha).2 t ht; unfold Aff.cntE; omega)
      have := (h2 a ha).1
      unfold Acc.cntE; omega)
    omega
end Go.Proofs.Ytadmmlflngkpiaa

/- The accesses that a statement reads: StmtReads of both sides. -/
namespace Go.Proofs.Ytadmmlflngkpiaa
open Go.ChangeShapes Go.WideShapes Go.ChangeAt Go.RowKit Go.Deep

theorem head_nodup {bs : List Nat} {N : Nat} (h1 : bs.tail.Nodup) (h2 : ∀ y ∈ bs.tail, y < N) (h3 : ∀ y ∈ bs.head?, N ≤ y) : bs.Nodup := by
  cases bs with
  | nil => simp
  | cons b l =>
    have h4 := h3 b (by simp)
    refine List.nodup_cons.2 ⟨fun hm => by have := h2 b hm; omega, h1⟩
theorem head_ge {bs : List Nat} {N W : Nat} (hW : W ≤ N) (h2 : ∀ y ∈ bs.tail, W ≤ y) (h3 : ∀ y ∈ bs.head?, N ≤ y) : ∀ y ∈ bs, W ≤ y := by
  cases bs with
  | nil => simp
  | cons b l =>
    intro y hy
    rcases List.mem_cons.1 hy with rfl | hy
    · have := h3 y (by simp); omega
    · exact h2 y hy
theorem run_field_stm (a b c d e f g h i : Value) (w : World) : (Instr.field 52 (.agg #[a, b, c, d, e, f, g, h, i]) 1).run Try.prog w = .ok (.agg #[c, d, e, f, g, h, i]) w := by kernel_rfl
set_option maxRecDepth 100000 in
set_option maxHeartbeats 4000000 in
theorem implStmtReads_c {w : World} {x : Stm} {cs : List Value} {bs : List Nat} (h : Rep w x.d cs bs) :
    Calls Try.prog 21 #[.agg cs.toArray] w (MadeS w (sls Acc.d (StmtReadsF x))) := by
  have HH := Lib.hid h
  obtain ⟨A2, c2, A5, c5, A8, c8, A9, c9, d2, d5, d8, d9, rfl, rfl, g1, g2, g3, g4, g5, g6, g7, g8, g9⟩ := Rep.stm_iff.1 h
  have Gwrite := Lib.hid ((Rep.acc_iff (x := x.write)).2 ⟨_, _, _, rfl, rfl, g1, g2⟩)
  have Gvalue := Lib.hid ((Rep.ex_iff (x := x.value)).2 ⟨_, _, _, _, _, _, _, _, _, rfl, rfl, g3, g4, g5, g6, g7, g8, g9⟩)
  clear h g1 g2 g3 g4 g5 g6 g7 g8 g9
  go_enter Try.func21, Try.ntmps21
  go_wp2_with fail
  refine (isStmt_c (HH.out.below bel)).mono ?_
  rintro e w1 ⟨rfl, b1⟩
  have P1 : Box9 w1 w.heap.size (.string x.write.arr) (.slice A2 x.write.subs.length c2) (.int .i64 x.value.kind) (.int .i64 x.value.num) (.slice A5 x.value.index.coefs.length c5) (.int .i64 x.value.index.const) (.string x.value.read.arr) (.slice A8 x.value.read.subs.length c8) (.slice A9 x.value.kids.length c9) := by
    refine ⟨?_, ?_, ?_, ?_, ?_, ?_, ?_, ?_, ?_⟩ <;> (rw [b1.cell (by simp [World.setCell]; try omega)]; go_simp)
  have S1 : Below w.heap.size w w1 := bel
  cases hv : StmtValidF x 4 with
  | false =>
    have HE := Lib.hid (StmtReadsF_n hv); clear hv
    go_wp2
    go_ret
    rw [HE.out]
    exact ⟨none, 0, 0, [], rfl, (Rep.ints_nil (Nat.zero_le _) : Rep w1 (ints []) [.slice none 0 0] []), by simp, by simp, S1⟩
  | true =>
    have HE := Lib.hid (StmtReadsF_y hv)
    have HN := Lib.hid (reads_ok hv).1
    have HV := Lib.hid hv; clear hv b1
    go_wp2_with fail
    refine (ownStmt_c (HH.out.below bel) HV.out).mono ?_
    rintro e w2 ⟨Y2, y2, Y5, y5, Y8, y8, Y9, y9, bs1, rfl, r1, nd1, hb1, b2⟩
    have s2 : Below w1.heap.size w1 w2 := bel
    have P2 := P1.to s2; clear P1
    have S2 : Below w.heap.size w w2 := below_tr S1 s2
    clear s2
    obtain ⟨X2, x2, X5, x5, X8, x8, X9, x9, d2', d5', d8', d9', he, rfl, g1, g2, g3, g4, g5, g6, g7, g8, g9⟩ := Rep.stm_iff.1 r1
    simp only [List.cons.injEq, Value.slice.injEq, true_and, and_true] at he
    obtain ⟨⟨rfl, rfl⟩, ⟨rfl, rfl⟩, ⟨rfl, rfl⟩, rfl, rfl⟩ := he
    have GV := Lib.hid (Rep.ex_iff.2 ⟨_, _, _, _, _, _, d5', d8', d9', rfl, rfl, g3, g4, g5, g6, g7, g8, g9⟩ : Rep w2 x.value.d [.int .i64 x.value.kind, .int .i64 x.value.num, .slice Y5 x.value.index.coefs.length y5, .int .i64 x.value.index.const, .string x.value.read.arr, .slice Y8 x.value.read.subs.length y8, .slice Y9 x.value.kids.length y9] (d5' ++ d8' ++ d9'))
    have hnd : (d5' ++ d8' ++ d9').Nodup := by
      have := nd1
      rw [List.append_assoc, List.append_assoc] at this
      have := (List.nodup_append.1 this).2.1
      rwa [← List.append_assoc] at this
    have HND := Lib.hid hnd
    have HGE := Lib.hid (show ∀ y ∈ d5' ++ d8' ++ d9', w.heap.size ≤ y from fun y hy => Nat.le_trans S1.size (hb1 y (by rw [List.append_assoc, List.append_assoc]; rw [List.append_assoc] at hy; exact List.mem_append_right _ hy)))
    have HLT := Lib.hid (Rep.lt _ GV.out)
    have hz := S2.size
    clear r1 g1 g2 g3 g4 g5 g6 g7 g8 g9 nd1 hb1 b2 hnd
    have hfv := run_field_stm
    go_wp2_with fail
    refine (reads_c x.value _ _ _ (by have := HN.out; omega) GV.out).mono ?_
    rintro e w3 ⟨A3, c3, bs3, rfl, r3, hs3, hy3, b3⟩
    go_wp2
    go_ret
    rw [HE.out]
    have ht := hs3.subset
    exact ⟨A3, _, c3, bs3, rfl, r3, head_nodup (hs3.nodup HND.out) (fun y hy => HLT.out y (ht hy)) hy3, head_ge hz (fun y hy => HGE.out y (ht hy)) hy3, below_tr S2 b3⟩
set_option maxRecDepth 100000 in
set_option maxHeartbeats 4000000 in
theorem specStmtReads_c {w : World} {x : Stm} {cs : List Value} {bs : List Nat} (h : Rep w x.d cs bs) :
    Calls Try.prog 20 #[.agg cs.toArray] w (MadeS w (sls Acc.d (StmtReadsF x))) := by
  have HH := Lib.hid h
  have HLT := Lib.hid (Rep.lt _ h)
  obtain ⟨A2, c2, A5, c5, A8, c8, A9, c9, d2, d5, d8, d9, rfl, rfl, g1, g2, g3, g4, g5, g6, g7, g8, g9⟩ := Rep.stm_iff.1 h
  have Gwrite := Lib.hid ((Rep.acc_iff (x := x.write)).2 ⟨_, _, _, rfl, rfl, g1, g2⟩)
  have Gvalue := Lib.hid ((Rep.ex_iff (x := x.value)).2 ⟨_, _, _, _, _, _, _, _, _, rfl, rfl, g3, g4, g5, g6, g7, g8, g9⟩)
  clear h g1 g2 g3 g4 g5 g6 g7 g8 g9
  go_enter Try.func20, Try.ntmps20
  go_wp2_with fail
  refine (specStmtValid_c (HH.out.below bel)).mono ?_
  rintro e w1 ⟨rfl, b1⟩
  have P1 : Box9 w1 w.heap.size (.string x.write.arr) (.slice A2 x.write.subs.length c2) (.int .i64 x.value.kind) (.int .i64 x.value.num) (.slice A5 x.value.index.coefs.length c5) (.int .i64 x.value.index.const) (.string x.value.read.arr) (.slice A8 x.value.read.subs.length c8) (.slice A9 x.value.kids.length c9) := by
    refine ⟨?_, ?_, ?_, ?_, ?_, ?_, ?_, ?_, ?_⟩ <;> (rw [b1.cell (by simp [World.setCell]; try omega)]; go_simp)
  have S1 : Below w.heap.size w w1 := bel
  have hz := S1.size
  have lp := lt_of_cell P1.1
  cases hv : StmtValidF x 4 with
  | false =>
    have HE := Lib.hid (StmtReadsF_n hv); clear hv
    go_wp2
    go_ret
    rw [HE.out]
    obtain ⟨A, c, bs', he, h1, h2, h3⟩ := (Grow.made w1 46 2 (Nat.le_refl _)).rep
    exact ⟨A, _, c, bs', congrArg _ he, h1, h2, fun y hy => Nat.le_trans hz (h3 y hy), S1.alloc hz _⟩
  | true =>
    have HE := Lib.hid (StmtReadsF_y hv)
    have HN := Lib.hid (reads_ok hv).1
    have HSH := Lib.hid (stmtValid_parts hv).2.1
    have HV := Lib.hid hv; clear hv b1
    go_wp2_with fail
    refine (l3Reads_c x.value 5 4 _ _ _ w1.heap.size _ [] HSH.out (by omega) (by have := HN.out; simp; omega) (Gvalue.out.below (below_tr S1 bel)) (Grow.made w1 46 2 (Nat.le_refl _)) (by simp) (fun y hy e => by
      have h1 := HLT.out y (by rw [List.append_assoc, List.append_assoc]; rw [List.append_assoc] at hy; exact List.mem_append_right _ hy)
      simp [Value.ownBlock] at e
      omega)).mono ?_
    rintro e w3 ⟨v3, rfl, hG, hg⟩
    obtain ⟨A, c, bs', rfl, h1, h2, h3⟩ := hG.rep
    rw [List.length_map, List.nil_append] at h1 ⊢
    go_wp2
    go_ret
    rw [HE.out]
    exact ⟨A, _, c, bs', rfl, h1, h2, fun y hy => Nat.le_trans hz (h3 y hy), S1.trans ((below_al (Below.refl _ _) _ |>.mono hz).trans (hg.below (by simp; omega) (fun b hb => by simp [Value.ownBlock] at hb; omega)))⟩
end Go.Proofs.Ytadmmlflngkpiaa
