/- slices.Insert of one part into a slice of parts of the call's own. -/
import Derived.Test.YtgogjbnneoadkaaGreatZdBasic
import Derived.Test.YtgogjbnneoadkaaGreatZdTyPart
import Derived.Test.YtgogjbnneoadkaaGreatZdCore
import Derived.Laws.CopyRow
import Derived.Lib.AppendZerosOnto
import Derived.Lib.Overlaps
import Derived.Laws.NewBlocks
set_option linter.all false
set_option maxHeartbeats 4000000
set_option maxRecDepth 100000
namespace Go.Proofs.YtgogjbnneoadkaaGreat
open Go.ChangeShapes Go.WideShapes Go.ChangeAt Go.RowKit Go.Deep
section
variable {P : Program} {w w' : World}
theorem run_copy_rowS (w : World) (dT sT ty elem : TypeId) (g o dLen dCap : Nat) (a : Addr) (sLen sCap s k : Nat) (cur : List Value) (t : TypeId) (cs : List Value)
  (hu : P.underlying dT = some (.slice elem)) (hs : (P.info? elem).map (·.size) = some s) (hg : Row w g t cur) (hk : Nat.min sLen dLen = k) (hn : cs.length = k * s)
  (hsrc : ∀ j v, cs[j]? = some v → w.cell? (a.add j) = some v) (hfit : o + cs.length ≤ cur.length) (h1 : ∀ v ∈ cs, v.oneCell' = true) :
  ∃ w', (Builtin.copy_ #[dT, sT] ty #[.slice (some ⟨g, o, none⟩) dLen dCap, .slice (some a) sLen sCap]).run P w = .ok (goInt k) w' ∧ Row w' g t (cur.take o ++ cs ++ cur.drop (o + cs.length)) ∧ Touch [g] w w' := by
 have hl := run_loadCells_list (P := P) w a cs hsrc
 have hst := run_storeCells_at P g o t cs 0 cur.toArray w hg (by simpa using hfit) h1
 refine ⟨w.setRow g (cur.take o ++ cs ++ cur.drop (o + cs.length)).toArray, ?_, ?_, ?_⟩
 ·cases hq : P.info? elem with
  | none => simp [hq] at hs
  | some i =>
   have hi : i.size = s := by simpa [hq] using hs
   simp [Builtin.copy_, run_underlying hu, Builtin.lenOf, Builtin.firstCells, sizeOf, typeInfo, hq, hi, hk, ← hn, hl, hst]
 ·exact setRow_heap w g cur.toArray _ t _ hg
 ·exact ⟨rfl, rfl, rfl, by simp, fun x _ hx => setRow_other w g x _ (fun e => hx (by simp [e]))⟩
theorem wp_copy_rowS {o : Oper} {a : Act} {K : Act → World → Prop} {Q : Exit → Act → World → Prop} (d x : Operand) (dT sT elem : TypeId)
  (ho : o.op = .call { callee := .builtin .copy, args := #[d, x], argTypes := #[dT, sT] }) {g q dLen dCap sLen sCap s k : Nat} {ad : Addr} {cur cs : List Value} {t : TypeId}
  (hd : a.eval d = .slice (some ⟨g, q, none⟩) dLen dCap) (hx : a.eval x = .slice (some ad) sLen sCap)
  (hu : P.underlying dT = some (.slice elem)) (hs : (P.info? elem).map (·.size) = some s) (hg : Row w g t cur) (hk : Nat.min sLen dLen = k) (hn : cs.length = k * s)
  (hsrc : ∀ j v, cs[j]? = some v → w.cell? (ad.add j) = some v) (hfit : q + cs.length ≤ cur.length) (h1 : ∀ v ∈ cs, v.oneCell' = true)
  (h : ∀ w', Row w' g t (cur.take q ++ cs ++ cur.drop (q + cs.length)) → Touch [g] w w' → K (a.put o.dst (goInt k)) w') : o.wp P a w K Q := by
 obtain ⟨w', hrun, h2, h3⟩ := run_copy_rowS (P := P) w dT sT o.type elem g q dLen dCap ad sLen sCap s k cur t cs hu hs hg hk hn hsrc hfit h1
 unfold Oper.wp execOp
 simp only [ho, resolve, invoke, builtin, Sem.run_bind, Sem.run_pure, Result.andThen_ok, List.map_toArray, List.map_cons, List.map_nil, hd, hx, hrun]
 exact h w' h2 h3
end
theorem ins_row (es ns rest : List Value) {k m q : Nat} (hk : k ≤ es.length) (hl : ns.length = m) (hr : rest.length = q) (hmq : m ≤ q) :
  ((es ++ rest).take (k + m) ++ es.drop k ++ (es ++ rest).drop (k + m + (es.drop k).length)).take k ++ ns ++ ((es ++ rest).take (k + m) ++ es.drop k ++ (es ++ rest).drop (k + m + (es.drop k).length)).drop (k + m) = (es.take k ++ ns ++ es.drop k) ++ rest.drop m := by
 have h1 : ((es ++ rest).take (k + m)).length = k + m := by simp; omega
 have e1 : ((es ++ rest).take (k + m) ++ es.drop k ++ (es ++ rest).drop (k + m + (es.drop k).length)).take k = es.take k := by
  rw [List.append_assoc, List.take_append_of_le_length (by omega), List.take_take, Nat.min_eq_left (by omega), List.take_append_of_le_length hk]
 have e2 : ((es ++ rest).take (k + m) ++ es.drop k ++ (es ++ rest).drop (k + m + (es.drop k).length)).drop (k + m) = es.drop k ++ rest.drop m := by
  have hd : ∀ X Y : List Value, X.length = k + m → (X ++ Y).drop (k + m) = Y := fun X Y h => by rw [← h, List.drop_left]
  rw [List.append_assoc, hd _ _ h1, List.length_drop, show k + m + (es.length - k) = es.length + m by omega, List.drop_append, show es.length + m - es.length = m by omega, List.drop_eq_nil_of_le (show es.length ≤ es.length + m by omega), List.nil_append]
 rw [e1, e2]
 simp
theorem ins_row2 (es ns zs : List Value) {k q : Nat} (hk : k ≤ es.length) (hl : ns.length = 2) (hz : zs.length = q) (hq : es.length - k + 2 ≤ q) :
  ((es.take k ++ zs).take k ++ ns ++ (es.take k ++ zs).drop (k + 2)).take (k + 2) ++ es.drop k ++ ((es.take k ++ zs).take k ++ ns ++ (es.take k ++ zs).drop (k + 2)).drop (k + 2 + (es.drop k).length) = (es.take k ++ ns ++ es.drop k) ++ zs.drop (es.length - k + 2) := by
 have h1 : (es.take k).length = k := by simp; omega
 have e1 : (es.take k ++ zs).take k = es.take k := by
  have : (es.take k ++ zs).take (es.take k).length = es.take k := List.take_left
  rwa [h1] at this
 have e2 : (es.take k ++ zs).drop (k + 2) = zs.drop 2 := by
  have : (es.take k ++ zs).drop ((es.take k).length + 2) = zs.drop 2 := by rw [List.drop_append, List.drop_eq_nil_of_le (by omega), List.nil_append, Nat.add_sub_cancel_left]
  rwa [h1] at this
 rw [e1, e2]
 have h2 : (es.take k ++ ns).length = k + 2 := by rw [List.length_append, h1, hl]
 have e3 : (es.take k ++ ns ++ zs.drop 2).take (k + 2) = es.take k ++ ns := by
  have : (es.take k ++ ns ++ zs.drop 2).take (es.take k ++ ns).length = es.take k ++ ns := List.take_left
  rwa [h2] at this
 have e4 : (es.take k ++ ns ++ zs.drop 2).drop (k + 2 + (es.drop k).length) = zs.drop (es.length - k + 2) := by
  have : (es.take k ++ ns ++ zs.drop 2).drop ((es.take k ++ ns).length + (es.drop k).length) = (zs.drop 2).drop (es.drop k).length := by rw [List.drop_append, List.drop_eq_nil_of_le (by omega), List.nil_append, Nat.add_sub_cancel_left]
  rw [h2] at this
  rw [this, List.drop_drop, List.length_drop, Nat.add_comm]
 rw [e3, e4]
theorem Tryz.sizePart : (Tryz.prog.info? 54).map (·.size) = some 2 := by kernel_rfl
theorem InsertP_end {w : World} {B : Nat} {v : Value} {n : Nat} {es ns : List Value} {vb : Nat} {t : TypeId} (h : w.ownsRow B 54 2 v n es) (hn : n ≤ 1000000) (hv : Row w vb t ns) (hl : ns.length = 2) (h1 : ∀ u ∈ ns, u.oneCell' = true) (hB : B ≤ w.heap.size) :
  Calls Tryz.prog 40 #[v, .int .i64 (n : Int), .slice (some ⟨vb, 0, none⟩) 1 1] w fun e w' => ∃ v', e = .returned v' ∧ w'.ownsRow B 54 2 v' (n + 1) (es ++ ns) ∧ Grew w w' v v' := by
 obtain ⟨i0, hi0, hzz⟩ := Option.map_eq_some_iff.1 Tryz.infoPart
 simp only [Prod.mk.injEq, decide_eq_true_iff] at hzz
 have HI := Lib.hid (And.intro hi0 hzz)
 have HO := Lib.hid h
 have HV := Lib.hid (And.intro hv (And.intro hl h1))
 have HG := Lib.hid (show ∀ b, v.ownBlock = some b → B ≤ b ∧ b < w.heap.size from fun b hb => own_lt' h hb)
 clear hi0 hzz hv hl h1
 rcases h.2 with ⟨rfl, rfl⟩ | ⟨g, cap, cur, rfl, _, _, hnc, hcm, _, _⟩
 ·clear h
  go_enter Tryz.func40, Tryz.ntmps40
  go_wp2_with (at_builtin; (refine wpList_append_own_at _ rfl _ _ 28 rfl B 54 i0 (.agg #[.slice none 0 0, .slice none 0 0]) 2 i0.bytes Tryz.underlying28 HI.out.1 HI.out.2.1 HI.out.2.2.1 rfl rfl (by decide) (.slice none 0 0) 0 es rfl HO.out ⟨vb, 0, none⟩ 1 1 ns rfl (by rw [HV.out.2.1]) (fun j u hu => by rw [add_none, HV.out.1.cell, Nat.zero_add]; exact hu) HV.out.2.2 (by unfold maxLen; omega) (by have := HI.out.2.2.2; omega) hB ?_; intro v' w1 hown1 hgrow _ hat))
  have HA := Lib.hid (And.intro hown1 (And.intro hgrow hat))
  obtain ⟨Av, cv, rfl⟩ : ∃ A c, v' = .slice A 1 c := by
   rcases hown1.2 with ⟨h0, h9⟩ | ⟨g, cap, cur, h0, _⟩
   ·exact absurd h9 (by omega)
   ·exact ⟨_, _, h0⟩
  clear hown1 hgrow hat
  go_wp2
  go_ret
  obtain ⟨q1, q2, q3⟩ := HA.out
  exact ⟨.slice Av 1 cv, rfl, q1, ⟨q2.os, q2.tape, q2.output, q2.size, fun y hy hm => q2.block y hy fun e => hm (mem_ownL.2 e.symm)⟩, fun y hy => by
   rcases q3 with q3 | q3
   ·exact .inl (by rw [← q3]; exact hy)
   ·rw [q3] at hy
    have : w.heap.size = y := by simpa using hy
    exact .inr (by omega)⟩
 ·clear h
  have hn1 : n ≤ 9223372036854775807 := by omega
  unfold maxLen at hcm
  go_enter Tryz.func40, Tryz.ntmps40
  by_cases hcn : cap = n
  all_goals
   go_wp2_with (at_builtin; (refine wpList_append_own_at _ rfl _ _ 28 rfl B 54 i0 (.agg #[.slice none 0 0, .slice none 0 0]) 2 i0.bytes Tryz.underlying28 HI.out.1 HI.out.2.1 HI.out.2.2.1 rfl rfl (by decide) (.slice (some ⟨g, 0, none⟩) n cap) n es rfl HO.out ⟨vb, 0, none⟩ 1 1 ns rfl (by rw [HV.out.2.1]) (fun j u hu => by rw [add_none, HV.out.1.cell, Nat.zero_add]; exact hu) HV.out.2.2 (by unfold maxLen; omega) (by have := HI.out.2.2.2; have := Nat.mul_le_mul (show n + 1 ≤ 1000001 by omega) HI.out.2.2.2; omega) hB ?_; intro v' w1 hown1 hgrow _ hat))
   have HA := Lib.hid (And.intro hown1 (And.intro hgrow hat))
   obtain ⟨Av, cv, rfl⟩ : ∃ A c, v' = .slice A (n + 1) c := by
    rcases hown1.2 with ⟨h0, h9⟩ | ⟨g, cap, cur, h0, _⟩
    ·exact absurd h9 (by omega)
    ·exact ⟨_, _, h0⟩
   clear hown1 hgrow hat
   go_wp2
   go_ret
   obtain ⟨q1, q2, q3⟩ := HA.out
   exact ⟨.slice Av (n + 1) cv, rfl, q1, ⟨q2.os, q2.tape, q2.output, q2.size, fun y hy hm => q2.block y hy fun e => hm (mem_ownL.2 e.symm)⟩, fun y hy => by
    rcases q3 with q3 | q3
    ·exact .inl (by rw [← q3]; exact hy)
    ·rw [q3] at hy
     have : w.heap.size = y := by simpa using hy
     exact .inr (by omega)⟩
theorem Tryz.sizeOfPart (w : World) : (Go.sizeOf 54).run Tryz.prog w = .ok 2 w := by kernel_rfl
theorem Row.shape {w : World} {g : Nat} {t : TypeId} {l : List Value} (h : Row w g t l) : w.shape? g = some (t, l.length) := by
 unfold Row at h
 simp [World.shape?, h]
theorem InsertP_room {w : World} {g n cap i vb : Nat} {es rest ns : List Value} {t : TypeId} (hr : Row w g 54 (es ++ rest)) (he : es.length = n * 2) (hrl : rest.length = (cap - n) * 2) (hroom : n + 1 ≤ cap) (hi : i < n) (hcap : cap ≤ maxLen)
  (hv : Row w vb t ns) (hl : ns.length = 2) (hne : vb ≠ g) (h1 : ∀ u ∈ es, u.oneCell' = true) (h1n : ∀ u ∈ ns, u.oneCell' = true) :
  Calls Tryz.prog 40 #[.slice (some ⟨g, 0, none⟩) n cap, .int .i64 (i : Int), .slice (some ⟨vb, 0, none⟩) 1 1] w fun e w' =>
   e = .returned (.slice (some ⟨g, 0, none⟩) (n + 1) cap) ∧ Row w' g 54 ((es.take (i * 2) ++ ns ++ es.drop (i * 2)) ++ rest.drop 2) ∧ Touch [g] w w' := by
 unfold maxLen at hcap
 have hov : ∀ lb cb, (callFunc 85 #[.slice (some ⟨vb, 0, none⟩) 1 1, .slice (some ⟨g, (i + 1) * 2, none⟩) lb cb]).run Tryz.prog w = .ok (.value (.bool false)) w := fun lb cb => by
  rw [run_callFunc_extern Tryz.func85 (by kernel_rfl) (by kernel_rfl) (by kernel_rfl) (e := Extern.SlicesOverlaps.overlaps #[28, 28] #[4]) (by kernel_rfl),
   Lib.run_overlaps_apart w 28 4 54 Tryz.underlying28 2 Tryz.sizeOfPart ⟨vb, 0, none⟩ ⟨g, (i + 1) * 2, none⟩ 1 1 lb cb hne t 54 _ _ hv.shape hr.shape (by rw [List.length_append]; omega) (hv.frozen 0) (hv.frozen _)]
  rfl
 have HR := Lib.hid hr
 have HV := Lib.hid (And.intro hv (And.intro hl h1n))
 have HE := Lib.hid (And.intro he (And.intro hrl h1))
 clear hr hv hl h1n he hrl h1
 have HNE := Lib.hid hne; clear hne
 have hw1 : IntKind.i64.wrap ((i : Int) + 1) = (i : Int) + 1 := by rw [IntKind.wrap_i64]; omega
 have hz2 : ¬ ((i : Int) = (n : Int)) := by omega
 have hb1 : (0 : Int) ≤ (i : Int) + 1 := by omega
 have htn : ((i : Int) + 1).toNat = i + 1 := by omega
 have hb2 : ¬ (cap = i + 1) := by omega
 have hb3 : (i : Int) + 1 ≤ (n : Int) + 1 := by omega
 have hb4 : ¬ (cap = i) := by omega
 have hb5 : (i : Int) ≤ (n : Int) + 1 := by omega
 have hin : i ≤ n := by omega
 go_enter Tryz.func40, Tryz.ntmps40
 go_wp2_with (simp only [hov])
 refine wp_region_noPanic ?_
 refine wp_region_held_drew (S := fun w' => True) (by kernel_rfl) (trivial) (fun hHeld => ?_)
 refine goR 0 hHeld ?_
 refine goR 1 hHeld ?_
 refine goR 2 hHeld ?_
 refine takeR (i := 3) (v := ?_) rfl rfl (by kernel_rfl) (by kernel_rfl) (by kernel_rfl) (fun _ _ _ h => h) ?_ hHeld ?_
 rotate_left 1
 ·intro w hSw; (try dsimp only at hSw); go_simp
  try simp only [hw1, htn, hb1, hb2, hb3, hb4, hb5, hin, if_true, if_false, Nat.zero_add, Int.toNat_natCast, Nat.add_sub_add_right]
  try with_reducible rfl
 simp only [Act.put, aq0, aq1, aq2]
 refine takeR (i := 4) (v := ?_) rfl rfl (by kernel_rfl) (by kernel_rfl) (by kernel_rfl) (fun _ _ _ h => h) ?_ hHeld ?_
 rotate_left 1
 ·intro w hSw; (try dsimp only at hSw); go_simp
  try simp only [hw1, htn, hb1, hb2, hb3, hb4, hb5, hin, if_true, if_false, Nat.zero_add, Int.toNat_natCast, Nat.add_sub_add_right]
  try with_reducible rfl
 simp only [Act.put, aq0, aq1, aq2]
 refine goR 5 hHeld ?_
 refine goR 6 hHeld ?_
 refine takeR (i := 7) (v := ?_) rfl rfl (by kernel_rfl) (by kernel_rfl) (by kernel_rfl) (fun _ _ _ h => h) ?_ hHeld ?_
 rotate_left 1
 ·intro w hSw; (try dsimp only at hSw); go_simp
  try simp only [hw1, htn, hb1, hb2, hb3, hb4, hb5, hin, if_true, if_false, Nat.zero_add, Int.toNat_natCast, Nat.add_sub_add_right]
  try with_reducible rfl
 simp only [Act.put, aq0, aq1, aq2]
 refine stepR (i := 8) rfl (by kernel_rfl) (wanted_none rfl) (fun K hK => ?_)
 (refine wp_copy_rowS (t := 54) (cs := es.drop (i * 2)) (cur := es ++ rest) (s := 2) (k := n - i) (.tmp 73) (.tmp 76) 28 28 54 rfl rfl rfl Tryz.underlying28 Tryz.sizePart HR.out ?hk ?hn ?hsrc ?hfit ?h1 ?_; (case hk => (simp only [Nat.min_def]; split <;> omega)); (case hn => (rw [List.length_drop, HE.out.1]; omega)); (case hsrc => (intro jj u hu; rw [add_none]; show w.cell? _ = _; rw [HR.out.cell, List.getElem?_append_left (by (have := HE.out.1; rcases Nat.lt_or_ge (i * 2 + jj) es.length with h | h; exact h; rw [List.getElem?_drop, List.getElem?_eq_none h] at hu; cases hu)), ← List.getElem?_drop]; exact hu)); (case hfit => (rw [List.length_drop, List.length_append, HE.out.1, HE.out.2.1]; omega)); (case h1 => exact fun u hu => HE.out.2.2 u (List.mem_of_mem_drop hu)); intro w1 hr1 t1)
 refine hK.out _ _ (trivial) (fun hHeld => ?_)
 clear hK K
 try simp only [Act.put, aq0, aq1, aq2]
 refine wpAnyH_done (by kernel_rfl) ?_ _
 refine NoPanic.normal ?_
 have T1 := Lib.hid (show Touch [g] w w1 from ⟨t1.os, t1.tape, t1.output, t1.size, t1.block⟩)
 have HR1 := Lib.hid hr1
 have HV1 := Lib.hid (HV.out.1.of_block (T1.out.block vb HV.out.1.lt (by simpa using HNE.out)))
 clear t1 hr1
 obtain ⟨w2, hcp, hr2, t2⟩ := run_copy_rowS (P := Tryz.prog) w1 28 28 3 54 g (i * 2) (n + 1 - i) (cap - i) ⟨vb, 0, none⟩ 1 1 2 1 _ 54 ns Tryz.underlying28 Tryz.sizePart HR1.out (by simp only [Nat.min_def]; split <;> omega) (by rw [HV.out.2.1]) (fun j u hu => by rw [add_none, HV1.out.cell, Nat.zero_add]; exact hu) (by have := HE.out.1; have := HE.out.2.1; simp only [List.length_append, List.length_take, List.length_drop, HV.out.2.1]; omega) HV.out.2.2
 have HR2 := Lib.hid hr2
 have T2 := Lib.hid (T1.out.trans t2)
 clear hr2 t2
 go_wp2
 go_ret
 refine ⟨rfl, ?_, T2.out⟩
 have e := ins_row es ns rest (k := i * 2) (m := 2) (q := (cap - n) * 2) (by have := HE.out.1; omega) HV.out.2.1 HE.out.2.1 (by omega)
 have hr2 := HR2.out
 rw [HV.out.2.1, show (i + 1) * 2 = i * 2 + 2 by omega, e] at hr2
 exact hr2
theorem run_append_zerosP {w : World} {g n i : Nat} {es : List Value} (hr : ∀ j u, es[j]? = some u → w.cell? ⟨g, j, none⟩ = some u) (he : es.length = n * 2) (hi : i < n) (hn : n ≤ 1000000) :
  ∃ (G : Nat) (w1 : World) (zs : List Value), (∀ ty, (Builtin.append_ #[28, 3] ty #[.slice (some ⟨g, 0, none⟩) i n, .int .i64 ((n : Int) + 1 - (i : Int))]).run Tryz.prog w = .ok (.slice (some ⟨w.heap.size, 0, none⟩) (n + 1) G) w1) ∧
   Row w1 w.heap.size 54 (es.take (i * 2) ++ zs) ∧ zs.length = (G - i) * 2 ∧ n + 1 ≤ G ∧ G ≤ maxLen ∧ Below w.heap.size w w1 := by
 obtain ⟨i0, hi0, hzz⟩ := Option.map_eq_some_iff.1 Tryz.infoPart
 simp only [Prod.mk.injEq, decide_eq_true_iff] at hzz
 obtain ⟨hz0, hzs, hzb⟩ := hzz
 have hik : i + (n + 1 - i) = n + 1 := by omega
 have hkk : (n : Int) + 1 - (i : Int) = ((n + 1 - i : Nat) : Int) := by omega
 have hbig : (n + 1) * i0.bytes ≤ 140737488355328 := by have := Nat.mul_le_mul (show n + 1 ≤ 1000001 by omega) hzb; omega
 have hold : (Builtin.firstCells i0.size i (.slice (some ⟨g, 0, none⟩) i n)).run Tryz.prog w.drew = .ok (es.take (i * 2)).toArray w.drew := by
  rw [hzs]
  exact run_firstCells_some w.drew 2 i ⟨g, 0, none⟩ i n (es.take (i * 2)) (by rw [List.length_take]; omega) (fun j v hj => by
   rw [add_none, Nat.zero_add]
   rw [List.getElem?_take] at hj
   split at hj
   ·exact hr j v hj
   ·cases hj)
 refine ⟨grownCap w (n + 1) n 54, _, Builtin.zeroCells (Value.agg #[.slice none 0 0, .slice none 0 0]).cells (n + 1 - i) |>.toList.append (Builtin.zeroCells (Value.agg #[.slice none 0 0, .slice none 0 0]).cells (grownCap w (n + 1) n 54 - (n + 1))).toList, fun ty => by
  have h := Lib.run_append_grow_zeros w 28 3 ty 54 i0 _ .i64 .i64 Tryz.underlying28 Tryz.underlying3 hi0 hz0 (some ⟨g, 0, none⟩) i n (es.take (i * 2)) hold (n + 1 - i) (by omega) (by omega) (by omega) (by omega) (by have := Nat.mul_le_mul (show n + 1 - i ≤ n + 1 by omega) (Nat.le_refl i0.bytes); omega) (by rw [hik]; exact growslice_fits (by omega) hbig)
  rw [hik] at h
  rw [hkk]
  exact h, ?_, ?_, grownCap_ge w _ _ _, grownCap_le_maxLen w _ _ _ (by unfold maxLen; omega), (Below.refl _ _).drew.alloc (Nat.le_refl _) _⟩
 ·unfold Row
  show (World.alloc w.drew _).heap[w.drew.heap.size]? = _
  rw [heap_alloc_new]
  simp
 ·have hG := grownCap_ge w (n + 1) n 54
  simp [Builtin.zeroCells, Value.cells]
  omega
theorem InsertP_grow {w : World} {g n i vb : Nat} {es ns : List Value} {t : TypeId} (hr : Row w g 54 es) (he : es.length = n * 2) (hi : i < n) (hn : n ≤ 1000000)
  (hv : Row w vb t ns) (hl : ns.length = 2) (h1 : ∀ u ∈ es, u.oneCell' = true) (h1n : ∀ u ∈ ns, u.oneCell' = true) :
  Calls Tryz.prog 40 #[.slice (some ⟨g, 0, none⟩) n n, .int .i64 (i : Int), .slice (some ⟨vb, 0, none⟩) 1 1] w fun e w' => ∃ G rest,
   e = .returned (.slice (some ⟨w.heap.size, 0, none⟩) (n + 1) G) ∧ Row w' w.heap.size 54 ((es.take (i * 2) ++ ns ++ es.drop (i * 2)) ++ rest) ∧ rest.length = (G - (n + 1)) * 2 ∧ n + 1 ≤ G ∧ G ≤ maxLen ∧ Below w.heap.size w w' := by
 obtain ⟨G, w1, zs, happ, hr1, hz, hG, hGm, hb1⟩ := run_append_zerosP (fun j u hu => (hr.cell j).trans hu) he hi hn
 have HR := Lib.hid hr
 have HV := Lib.hid (And.intro hv (And.intro hl h1n))
 have HE := Lib.hid (And.intro he (And.intro hz h1))
 have HR1 := Lib.hid hr1
 have HV1 := Lib.hid (hv.to hb1)
 have HRW := Lib.hid (hr.to hb1)
 have hgN := hr.lt
 have B1 := Lib.hid hb1
 obtain ⟨N, hN⟩ : ∃ N, N = w.heap.size := ⟨_, rfl⟩
 have hNg : N ≠ g := by omega
 have HNV := Lib.hid (show N ≠ vb by have := hv.lt; omega)
 rw [← hN] at happ HR1 B1 ⊢
 have HN := Lib.hid hN
 clear hr hv hl h1n he hz h1 hr1 hb1 hgN hN
 have HGM := Lib.hid hGm
 unfold maxLen at hGm
 obtain ⟨w2, hcp, hr2, t2⟩ := run_copy_rowS (P := Tryz.prog) w1 28 28 3 54 N (i * 2) (n + 1 - i) (G - i) ⟨vb, 0, none⟩ 1 1 2 1 _ 54 ns Tryz.underlying28 Tryz.sizePart HR1.out (by simp only [Nat.min_def]; split <;> omega) (by rw [HV.out.2.1]) (fun j u hu => by rw [add_none, HV1.out.cell, Nat.zero_add]; exact hu) (by have := HE.out.1; have := HE.out.2.1; simp only [List.length_append, List.length_take, HV.out.2.1]; omega) HV.out.2.2
 have HR2 := Lib.hid hr2
 have HS2 := Lib.hid (HRW.out.of_block (t2.block g HRW.out.lt (by simpa using hNg.symm)))
 have T2 := Lib.hid t2
 clear hr2 t2
 have hw1 : IntKind.i64.wrap ((i : Int) + 1) = (i : Int) + 1 := by rw [IntKind.wrap_i64]; omega
 have hz2 : ¬ ((i : Int) = (n : Int)) := by omega
 have hb1 : (0 : Int) ≤ (i : Int) + 1 := by omega
 have htn : ((i : Int) + 1).toNat = i + 1 := by omega
 have hb2 : ¬ (G = i + 1) := by omega
 have hb3 : (i : Int) + 1 ≤ (n : Int) + 1 := by omega
 have hb4 : ¬ (G = i) := by omega
 have hb5 : (i : Int) ≤ (n : Int) + 1 := by omega
 have hb6 : ¬ (n = i) := by omega
 have hin : i ≤ n := by omega
 go_enter Tryz.func40, Tryz.ntmps40
 go_wp2_with (at_builtin; refine Lib.wpList_append_run _ rfl _ _ _ _ rfl _ _ rfl rfl _ _ (happ _) ?_)
 refine wp_region_noPanic ?_
 refine wp_region_held_drew (S := fun w' => True) (by kernel_rfl) (trivial) (fun hHeld => ?_)
 refine goR 0 hHeld ?_
 refine goR 1 hHeld ?_
 refine goR 2 hHeld ?_
 refine takeR (i := 3) (v := ?_) rfl rfl (by kernel_rfl) (by kernel_rfl) (by kernel_rfl) (fun _ _ _ h => h) ?_ hHeld ?_
 rotate_left 1
 ·intro w hSw; (try dsimp only at hSw); go_simp
  try simp only [hw1, htn, hb1, hb2, hb3, hb4, hb5, hb6, hin, if_true, if_false, Nat.zero_add, Int.toNat_natCast, Nat.add_sub_add_right]
  try with_reducible rfl
 simp only [Act.put, aq0, aq1, aq2]
 refine takeR (i := 4) (v := ?_) rfl rfl (by kernel_rfl) (by kernel_rfl) (by kernel_rfl) (fun _ _ _ h => h) ?_ hHeld ?_
 rotate_left 1
 ·intro w hSw; (try dsimp only at hSw); go_simp
  try simp only [hw1, htn, hb1, hb2, hb3, hb4, hb5, hb6, hin, if_true, if_false, Nat.zero_add, Int.toNat_natCast, Nat.add_sub_add_right]
  try with_reducible rfl
 simp only [Act.put, aq0, aq1, aq2]
 refine goR 5 hHeld ?_
 refine goR 6 hHeld ?_
 refine takeR (i := 7) (v := ?_) rfl rfl (by kernel_rfl) (by kernel_rfl) (by kernel_rfl) (fun _ _ _ h => h) ?_ hHeld ?_
 rotate_left 1
 ·intro w hSw; (try dsimp only at hSw); go_simp
  try simp only [hw1, htn, hb1, hb2, hb3, hb4, hb5, hb6, hin, if_true, if_false, Nat.zero_add, Int.toNat_natCast, Nat.add_sub_add_right]
  try with_reducible rfl
 simp only [Act.put, aq0, aq1, aq2]
 refine stepR (i := 8) rfl (by kernel_rfl) (wanted_none rfl) (fun K hK => ?_)
 (refine wp_copy_rowS (t := 54) (cs := es.drop (i * 2)) (s := 2) (k := n - i) (.tmp 50) (.tmp 53) 28 28 54 rfl rfl rfl Tryz.underlying28 Tryz.sizePart HR2.out ?hk ?hn ?hsrc ?hfit ?h1 ?_; (case hk => (simp only [Nat.min_def]; split <;> omega)); (case hn => (rw [List.length_drop, HE.out.1]; omega)); (case hsrc => (intro jj u hu; rw [add_none]; show w2.cell? _ = _; rw [HS2.out.cell, ← List.getElem?_drop]; exact hu)); (case hfit => (have := HE.out.1; have := HE.out.2.1; simp only [List.length_append, List.length_take, List.length_drop, HV.out.2.1]; omega)); (case h1 => exact fun u hu => HE.out.2.2 u (List.mem_of_mem_drop hu)); intro w3 hr3 t3)
 refine hK.out _ _ (trivial) (fun hHeld => ?_)
 clear hK K
 try simp only [Act.put, aq0, aq1, aq2]
 refine wpAnyH_done (by kernel_rfl) ?_ _
 refine NoPanic.normal ?_
 have HR3 := Lib.hid hr3
 have T3 := Lib.hid (T2.out.trans (show Touch [N] w2 w3 from ⟨t3.os, t3.tape, t3.output, t3.size, t3.block⟩))
 clear hr3 t3
 go_wp2
 go_ret
 refine ⟨G, (zs.drop ((n + 1 - i) * 2)), rfl, ?_, ?_, hG, HGM.out, ?_⟩
 ·have hr3 := HR3.out
  have e := ins_row2 es ns zs (k := i * 2) (q := (G - i) * 2) (by have := HE.out.1; omega) HV.out.2.1 HE.out.2.1 (by have := HE.out.1; omega)
  rw [HV.out.2.1, show (i + 1) * 2 = i * 2 + 2 by omega, e, show es.length - i * 2 + 2 = (n + 1 - i) * 2 by have := HE.out.1; omega] at hr3
  exact hr3
 ·rw [List.length_drop, HE.out.2.1]; omega
 ·exact B1.out.trans (T3.out.below (by have := HR1.out.lt; omega) (by simp))
theorem InsertP_c {w : World} {B : Nat} {v : Value} {n i : Nat} {es ns : List Value} {vb : Nat} {t : TypeId} (h : w.ownsRow B 54 2 v n es) (hi : i ≤ n) (hn : n ≤ 1000000) (hv : Row w vb t ns) (hl : ns.length = 2) (hne : v.ownBlock ≠ some vb)
  (h1 : ∀ u ∈ es, u.oneCell' = true) (h1n : ∀ u ∈ ns, u.oneCell' = true) (hB : B ≤ w.heap.size) :
  Calls Tryz.prog 40 #[v, .int .i64 (i : Int), .slice (some ⟨vb, 0, none⟩) 1 1] w fun e w' => ∃ v', e = .returned v' ∧ w'.ownsRow B 54 2 v' (n + 1) (es.take (i * 2) ++ ns ++ es.drop (i * 2)) ∧ Grew w w' v v' := by
 have he := h.1
 rcases Nat.lt_or_ge i n with hlt | hge
 case inr =>
  obtain rfl : i = n := by omega
  rw [List.take_of_length_le (by omega), List.drop_eq_nil_of_le (by omega), List.append_nil]
  exact InsertP_end h hn hv hl h1n hB
 rcases h.2 with ⟨_, h0⟩ | ⟨g, cap, cur, rfl, hg, hc, hnc, hcm, hcs, ht⟩
 ·omega
 have hcur : cur.toList = es ++ cur.toList.drop (n * 2) := by rw [← ht, List.take_append_drop]
 have hrow : Row w g 54 (es ++ cur.toList.drop (n * 2)) := by rw [← hcur]; exact hc
 have hrl : (cur.toList.drop (n * 2)).length = (cap - n) * 2 := by rw [List.length_drop, Array.length_toList, hcs]; omega
 have hgv : vb ≠ g := fun e => hne (by rw [e]; rfl)
 have hl3 : (es.take (i * 2) ++ ns ++ es.drop (i * 2)).length = (n + 1) * 2 := by simp only [List.length_append, List.length_take, List.length_drop]; omega
 rcases Nat.lt_or_ge n cap with hroom | hfull
 ·refine (InsertP_room hrow he hrl (by omega) hlt hcm hv hl hgv h1 h1n).mono ?_
  rintro e w' ⟨rfl, r, tt⟩
  refine ⟨_, rfl, ⟨hl3, .inr ⟨g, cap, _, rfl, hg, r, by omega, hcm, ?_, ?_⟩⟩, ⟨?_, fun y hy => .inl hy⟩⟩
  ·simp only [List.size_toArray, List.length_append, List.length_drop, Array.length_toList, hcs] at hl3 ⊢
   omega
  ·rw [List.toList_toArray, ← hl3]; exact List.take_left
  ·exact tt.mono (fun y hy => mem_ownL.2 (by rw [List.mem_singleton.1 hy]; rfl))
 ·obtain rfl : n = cap := by omega
  rw [show cur.toList.drop (n * 2) = [] from List.drop_eq_nil_of_le (by rw [Array.length_toList]; omega), List.append_nil] at hrow
  refine (InsertP_grow hrow he hlt hn hv hl h1 h1n).mono ?_
  rintro e w' ⟨G, rest, rfl, r, hr2, hG, hGm, hb⟩
  refine ⟨_, rfl, ⟨hl3, .inr ⟨w.heap.size, G, _, rfl, hB, r, hG, hGm, ?_, ?_⟩⟩, ⟨Touch.of_below hb, fun y hy => .inr ?_⟩⟩
  ·rw [List.size_toArray, List.length_append, hl3, hr2]; omega
  ·rw [List.toList_toArray, ← hl3]; exact List.take_left
  ·have : w.heap.size = y := by simpa [Value.ownBlock] using hy
   omega
theorem InsertP_k {w : World} {B : Nat} {v : Value} {n k : Nat} {es ns : List Value} {vb : Nat} {t : TypeId} (h : w.ownsRow B 54 2 v n es) (hi : k < n) (hn : n ≤ 1000000) (hv : Row w vb t ns) (hl : ns.length = 2) (hne : v.ownBlock ≠ some vb)
  (h1 : ∀ u ∈ es, u.oneCell' = true) (h1n : ∀ u ∈ ns, u.oneCell' = true) (hB : B ≤ w.heap.size) :
  Calls Tryz.prog 40 #[v, .int .i64 ((k : Int) + 1), .slice (some ⟨vb, 0, none⟩) 1 1] w fun e w' => ∃ v', e = .returned v' ∧ w'.ownsRow B 54 2 v' (n + 1) (es.take ((k + 1) * 2) ++ ns ++ es.drop ((k + 1) * 2)) ∧ Grew w w' v v' :=
 InsertP_c (i := k + 1) h hi hn hv hl hne h1 h1n hB
end Go.Proofs.YtgogjbnneoadkaaGreat
