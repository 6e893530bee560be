/- slices.Clone and slices.Delete on slices of integer slices. -/
import Derived.Test.YtgogjbnneoadkaaGreatZpGrpS
import Derived.Lib.SliceRun
set_option linter.all false
set_option linter.unusedSimpArgs false
set_option linter.unusedVariables false
namespace Go.Proofs.YtgogjbnneoadkaaGreat
open Go.ChangeShapes Go.WideShapes Go.ChangeAt Go.RowKit Go.Deep

section
variable {P : Program} {w w' : World} {B : Nat} {e : TypeId} {size : Nat}
/-- append onto a row of the call's own that has room: in place -/
theorem run_append_in (t ty : TypeId) (i : TypeInfo) (ht : P.underlying t = some (.slice e)) (hi : P.info? e = some i) (hsize : i.size = size) {g n cap : Nat} {xs : List Value} (hown : w.ownsRow B e size (.slice (some ⟨g, 0, none⟩) n cap) n xs)
    (a : Addr) (m c : Nat) (news : List Value) (hl : news.length = m * size) (hnews : ∀ j u, news[j]? = some u → w.cell? (a.add j) = some u) (h1 : ∀ u ∈ news, u.oneCell' = true) (hroom : n + m ≤ cap) :
    ∃ w', (Builtin.append_ #[t, t] ty #[.slice (some ⟨g, 0, none⟩) n cap, .slice (some a) m c]).run P w = .ok (.slice (some ⟨g, 0, none⟩) (n + m) cap) w' ∧ w'.ownsRow B e size (.slice (some ⟨g, 0, none⟩) (n + m) cap) (n + m) (xs ++ news) ∧ w.grownBy w' (some g) := by
  subst hsize
  have hlen : (xs ++ news).length = (n + m) * i.size := by rw [List.length_append, hown.1, hl, Nat.add_mul]
  rcases hown.2 with ⟨h0, _⟩ | ⟨g', cap', cur, hv, hbg, hg, hnc, hcm, hcs, htake⟩
  · cases h0
  · simp only [Value.slice.injEq, Option.some.injEq, Addr.mk.injEq] at hv
    obtain ⟨⟨rfl, _⟩, _, rfl⟩ := hv
    have hfit : n * i.size + news.length ≤ cur.size := by rw [hl, hcs, ← Nat.add_mul]; exact Nat.mul_le_mul_right _ hroom
    have hr := run_append_room (P := P) w t ty e i ht hi g n cap cur hg a m c news hl hnews h1 hroom hfit
    refine ⟨_, hr, ⟨hlen, .inr ⟨g, cap, _, rfl, hbg, setRow_heap w g cur _ e _ hg, hroom, hcm, ?_, ?_⟩⟩, ⟨rfl, rfl, rfl, by simp, fun k _ hk => setRow_other w g k _ (fun e => hk (by rw [e]))⟩⟩
    · simp only [List.size_toArray, List.length_append, List.length_take, List.length_drop, Array.length_toList]
      omega
    · rw [htake, ← hlen]
      exact List.take_left
/-- the row's beginning -/
theorem own_take {g n cap k : Nat} {xs : List Value} (h : w.ownsRow B e size (.slice (some ⟨g, 0, none⟩) n cap) n xs) (hk : k ≤ n) : w.ownsRow B e size (.slice (some ⟨g, 0, none⟩) k cap) k (xs.take (k * size)) := by
  obtain ⟨h1, ⟨h0, _⟩ | ⟨g', cap', cur, hv, h2, h3, h4, h5, h6, h7⟩⟩ := h
  · cases h0
  · simp only [Value.slice.injEq, Option.some.injEq, Addr.mk.injEq] at hv
    obtain ⟨⟨rfl, _⟩, _, rfl⟩ := hv
    have hks : k * size ≤ n * size := Nat.mul_le_mul_right _ hk
    refine ⟨by rw [List.length_take, h1]; omega, .inr ⟨g, cap, cur, rfl, h2, h3, by omega, h5, h6, ?_⟩⟩
    rw [← h7, List.take_take, Nat.min_eq_left hks]
/-- what lies behind the row's end may be written -/
theorem own_behind {g n cap : Nat} {xs : List Value} (h : w.ownsRow B e size (.slice (some ⟨g, 0, none⟩) n cap) n xs) {o : Nat} (ho : n * size ≤ o) (hc : o < cap * size) (u : Value) :
    (∃ x, w.cell? ⟨g, o, none⟩ = some x) ∧ w.frozen? ⟨g, o, none⟩ = false ∧ (w.setCell ⟨g, o, none⟩ u).ownsRow B e size (.slice (some ⟨g, 0, none⟩) n cap) n xs := by
  obtain ⟨h1, ⟨h0, _⟩ | ⟨g', cap', cur, hv, h2, h3, h4, h5, h6, h7⟩⟩ := h
  · cases h0
  · simp only [Value.slice.injEq, Option.some.injEq, Addr.mk.injEq] at hv
    obtain ⟨⟨rfl, _⟩, _, rfl⟩ := hv
    have hr : Row w g e cur.toList := by unfold Row; rw [h3]
    refine ⟨⟨cur[o]'(by omega), by rw [hr.cell, List.getElem?_eq_getElem (by simpa using (by omega : o < cur.size))]; simp⟩, hr.frozen _, h1, .inr ⟨g, cap, (cur.toList.set o u).toArray, rfl, h2, ?_, h4, h5, by simpa using h6, ?_⟩⟩
    · have := hr.set o u
      unfold Row at this
      exact this
    · rw [← h7]
      simp only [List.toList_toArray]
      rw [List.take_set_of_le ho]
end
section
variable {P : Program} {w w' : World} {B : Nat} {e : TypeId} {size : Nat}
theorem wp_append_in {o : Oper} {a : Act} {K : Act → World → Prop} {Q : Exit → Act → World → Prop} (s x : Operand) (t : TypeId)
    (ho : o.op = .call { callee := .builtin .append, args := #[s, x], argTypes := #[t, t] })
    (z : Value) (ht : P.underlying t = some (.slice e)) (hinfo : (P.info? e).map (fun i => (i.zero, i.size, decide (i.bytes ≤ 1024))) = some (some z, size, true)) {g n cap : Nat} {xs : List Value} (hs : a.eval s = .slice (some ⟨g, 0, none⟩) n cap) (hG : w.ownsRow B e size (.slice (some ⟨g, 0, none⟩) n cap) n xs)
    {ad : Addr} {m c : Nat} {news : List Value} (hx : a.eval x = .slice (some ad) m c) (hl : news.length = m * size) (hnews : ∀ j u, news[j]? = some u → w.cell? (ad.add j) = some u) (h1 : ∀ u ∈ news, u.oneCell' = true) {N : Nat} (hN : n + m = N) (hroom : N ≤ cap)
    (h : ∀ w', w'.ownsRow B e size (.slice (some ⟨g, 0, none⟩) N cap) N (xs ++ news) → Touch [g] w w' → K (a.put o.dst (.slice (some ⟨g, 0, none⟩) N cap)) w') : o.wp P a w K Q := by
  subst hN
  obtain ⟨i, hi, hzz⟩ := Option.map_eq_some_iff.1 hinfo
  simp only [Prod.mk.injEq, decide_eq_true_iff] at hzz
  obtain ⟨w', hrun, h2, h3⟩ := run_append_in (P := P) t o.type i ht hi hzz.2.1 hG ad m c news hl hnews h1 hroom
  unfold Oper.wp execOp
  simp only [ho, resolve, invoke, builtin, Sem.run_bind, Sem.run_pure, Result.andThen_ok, List.map_toArray, List.map_cons, List.map_nil, hs, hx, hrun]
  exact h w' h2 ⟨h3.os, h3.tape, h3.output, h3.size, fun y hy hm => h3.block y hy fun e => hm (by simpa using e)⟩
theorem run_clear_one (w : World) (t ty : TypeId) (z : Value) (ht : P.underlying t = some (.slice e)) (hv : ∀ w, (zeroValue e).run P w = .ok z w) (hz : z.cells = #[z]) (h1 : z.oneCell' = true) (g q c : Nat)
    (hc : ∃ x, w.cell? ⟨g, q, none⟩ = some x) (hf : w.frozen? ⟨g, q, none⟩ = false) : (Builtin.clear_ #[t] ty #[.slice (some ⟨g, q, none⟩) 1 c]).run P w = .ok (.tuple #[]) (w.setCell ⟨g, q, none⟩ z) := by
  obtain ⟨x, hx⟩ := hc
  exact Lib.run_clear_slice (P := P) w t e ty z ht hv hz h1 g q 1 c (by omega) (fun j hj => by rw [show j = 0 by omega, Nat.add_zero, hx]; rfl) (fun j hj => by rw [show j = 0 by omega, Nat.add_zero]; exact hf)
end
theorem GrowA.erase {w w' : World} {g k : Nat} {es : List Value} {cb : List Nat} {xs : List (List Int)} {S : List Nat} (h2 : Reps w (xs.map ints) es cb) (h3 : ∀ y ∈ cb, y ∈ S) (hk : k < xs.length) (hS : ∀ y ∈ S, y ≠ g) (t : Touch [g] w w') :
    ∃ cb', Reps w' ((xs.eraseIdx k).map ints) (es.take k ++ es.drop (k + 1)) cb' ∧ ∀ y ∈ cb', y ∈ S := by
  obtain ⟨e0, e1, e2, l0, l1, l2, rfl, rfl, h5, h6, h7, h8, h9⟩ := Reps.at_ h2 (s := 1) (fun x hx => by obtain ⟨y, _, rfl⟩ := List.mem_map.1 hx; rfl) (k := k) (x := ints xs[k]) (by simp [hk])
  rw [Nat.mul_one] at h5
  have ht : (e0 ++ e1 ++ e2).take k = e0 := by rw [List.append_assoc, ← h5]; exact List.take_left
  have hd : (e0 ++ e1 ++ e2).drop (k + 1) = e2 := by
    rw [show k + 1 = (e0 ++ e1).length by rw [List.length_append, h5, h6]]; exact List.drop_left
  rw [ht, hd]
  have keep : ∀ l, (∀ y ∈ l, y < w.heap.size) → (∀ y ∈ l, y ∈ S) → Keeps w w' l := fun l hl hs => ⟨t.size, fun y hy => t.block y (hl y hy) fun hm => hS y (hs y hy) (by simpa using hm)⟩
  refine ⟨l0 ++ l2, ?_, fun y hy => by
    rcases List.mem_append.1 hy with hy | hy
    · exact h3 y (by simp [hy])
    · exact h3 y (by simp [hy])⟩
  have e3 : (xs.eraseIdx k).map ints = (xs.map ints).take k ++ (xs.map ints).drop (k + 1) := by
    rw [List.eraseIdx_eq_take_drop_succ, List.map_append, List.map_take, List.map_drop]
  rw [e3]
  exact (Reps_append _ _).2 ⟨e0, e2, l0, l2, rfl, rfl, Reps.keep _ h7 (keep _ (Reps.lt _ h7) fun y hy => h3 y (by simp [hy])), Reps.keep _ h9 (keep _ (Reps.lt _ h9) fun y hy => h3 y (by simp [hy]))⟩
theorem Tryz.zeroInts (w : World) : (zeroValue 39).run Tryz.prog w = .ok (.slice none 0 0) w := by kernel_rfl
set_option maxRecDepth 100000 in
set_option maxHeartbeats 4000000 in
theorem DeleteA_c {w : World} {B : Nat} {xs : List (List Int)} {S : List Nat} {g q cap k : Nat} (h : GrowA w B 39 (.slice (some ⟨g, 0, none⟩) (q + 1) cap) xs S) (hk : k < xs.length) (hl : xs.length ≤ 1000000) (hS : ∀ y ∈ S, y ≠ g) :
    Calls Tryz.prog 68 #[.slice (some ⟨g, 0, none⟩) (q + 1) cap, .int .i64 (k : Int), .int .i64 ((k : Int) + 1)] w fun e w' => e = .returned (.slice (some ⟨g, 0, none⟩) q cap) ∧ GrowA w' B 39 (.slice (some ⟨g, 0, none⟩) q cap) (xs.eraseIdx k) S ∧ Touch [g] w w' := by
  obtain ⟨A0, c0, hf0, hnc, hcm⟩ := h.form
  simp only [Value.slice.injEq] at hf0
  obtain ⟨rfl, hxl, rfl⟩ := hf0
  obtain ⟨es, cb, q1, q2, q3⟩ := h
  rw [← hxl] at q1 hk hl hnc
  have HXL := Lib.hid hxl; clear hxl
  have hel : es.length = q + 1 := by rw [q1.1, Nat.mul_one]
  have hone := Reps.one _ q2
  have HQ2 := Lib.hid q2
  have HQ3 := Lib.hid q3
  have HON := Lib.hid (show ∀ u ∈ es.drop (k + 1), u.oneCell' = true from fun u hu => hone u (List.mem_of_mem_drop hu))
  have HDL := Lib.hid (show (es.drop (k + 1)).length = (q - k) * 1 by rw [List.length_drop, hel]; omega)
  have hlg := (own_lt' q1 (g := g) rfl).2
  have HT := Lib.hid (own_take (k := k) q1 (by omega))
  have HCE := Lib.hid (show ∀ j u, (es.drop (k + 1))[j]? = some u → w.cell? ⟨g, k + 1 + j, none⟩ = some u from fun j u hu => by
    rw [List.getElem?_drop] at hu
    have := q1.cells (g := g) rfl (k + 1 + j) u hu
    rwa [add_none, Nat.zero_add] at this)
  have HTK := Lib.hid (show es.take (k * 1) ++ es.drop (k + 1) = es.take k ++ es.drop (k + 1) by rw [Nat.mul_one])
  clear q1 q2 q3 hone hel
  have hk1 : (k ≤ cap) = True := eq_true (by omega)
  have hk2 : (k + 1 ≤ q + 1) = True := eq_true (by omega)
  have hk3 : q + 1 - (k + 1) = q - k := by omega
  have hk0 : (0 ≤ (k : Int) + 1) = True := eq_true (by omega)
  rw [show ((k : Int) + 1) = ((k + 1 : Nat) : Int) from rfl]
  go_enter Tryz.func68, Tryz.ntmps68
  go_wp2_with fail
  by_cases hcap : cap = k + 1
  · have hkq : k = q := by omega
    subst hkq
    subst hcap
    have hk5 : ((k : Int) ≤ (k : Int) + 1) = True := eq_true (by omega)
    refine wp_region_noPanic ?_
    refine wp_region_held_drew (S := fun w' => True) (by kernel_rfl) (trivial) (fun hHeld => ?_)
    refine goR 0 hHeld ?_
    refine goR 1 hHeld ?_
    refine takeR (i := 2) (v := ?_) rfl rfl (by kernel_rfl) (by kernel_rfl) (by kernel_rfl) (fun _ _ _ h => h) ?_ hHeld ?_
    rotate_left 1
    · intro w hSw; (try dsimp only at hSw); go_simp
      try simp only [hk0, hk1, hk2, hk3, hk5, if_true, if_false, Nat.zero_add, Int.toNat_natCast]
      try with_reducible rfl
    simp only [Act.put, aq0, aq1, aq2]
    refine goR 3 hHeld ?_
    refine goR 4 hHeld ?_
    refine takeR (i := 5) (v := ?_) rfl rfl (by kernel_rfl) (by kernel_rfl) (by kernel_rfl) (fun _ _ _ h => h) ?_ hHeld ?_
    rotate_left 1
    · intro w hSw; (try dsimp only at hSw); go_simp
      try simp only [hk0, hk1, hk2, hk3, hk5, if_true, if_false, Nat.zero_add, Int.toNat_natCast]
      try with_reducible rfl
    simp only [Act.put, aq0, aq1, aq2]
    refine stepR (i := 6) rfl (by kernel_rfl) (wanted_none rfl) (fun K hK => ?_)
    (refine wp_append_in (N := k) (.tmp 22) (.tmp 25) _ rfl _ Tryz.underlying91 Tryz.infoInts rfl (own_eqL HT.out (fun _ _ => rfl)) rfl (show (es.drop (k + 1)).length = 0 * 1 by rw [HDL.out]; omega) ?hn HON.out ?hN ?hr ?_; (case hn => (intro jj u hu; have h0 : (es.drop (k + 1)).length = 0 := (by rw [HDL.out]; omega); rw [List.length_eq_zero_iff.1 h0] at hu; simp at hu)); (case hN => omega); (case hr => omega); intro w1 hO1 t1)
    refine hK.out _ _ (trivial) (fun hHeld => ?_)
    clear hK K
    try simp only [Act.put, aq0, aq1, aq2]
    refine goR 7 hHeld ?_
    refine wpAnyH_done (by kernel_rfl) ?_ _
    refine NoPanic.normal ?_
    rw [HTK.out] at hO1
    obtain ⟨hc1, hf1, hO2⟩ := own_behind hO1 (o := k) (by omega) (by omega) (.slice none 0 0)
    have HO2 := Lib.hid hO2
    have t1b := Lib.hid (show Touch [g] w w1 from ⟨t1.os, t1.tape, t1.output, t1.size, t1.block⟩)
    clear hO1 hO2 t1
    have hcq : ¬ (k + 1) = k := by omega
    have hlg1 := t1b.out.size
    have hclr := fun c => run_clear_one (P := Tryz.prog) w1 91 0 (.slice none 0 0) Tryz.underlying91 Tryz.zeroInts rfl rfl g k c hc1 hf1
    go_wp2
    go_ret
    obtain ⟨cb2, he1, he2⟩ := GrowA.erase HQ2.out HQ3.out (show k < xs.length by have := HXL.out; omega) hS (t1b.out.setCell (p := ⟨g, k, none⟩) (by simp) (.slice none 0 0))
    have e9 : (xs.eraseIdx k).length = k := by have := HXL.out; rw [List.length_eraseIdx]; split <;> omega
    exact ⟨rfl, ⟨_, cb2, by rw [e9]; exact HO2.out, he1, he2⟩, t1b.out.setCell (by simp) _⟩
  · have hcf : (cap = k + 1) = False := eq_false hcap
    have hkq : k ≤ q := by omega
    refine wp_region_noPanic ?_
    refine wp_region_held_drew (S := fun w' => True) (by kernel_rfl) (trivial) (fun hHeld => ?_)
    refine goR 0 hHeld ?_
    refine goR 1 hHeld ?_
    refine takeR (i := 2) (v := ?_) rfl rfl (by kernel_rfl) (by kernel_rfl) (by kernel_rfl) (fun _ _ _ h => h) ?_ hHeld ?_
    rotate_left 1
    · intro w hSw; (try dsimp only at hSw); go_simp
      try simp only [hk0, hk1, hk2, hk3, hcf, if_true, if_false, Nat.zero_add, Int.toNat_natCast]
      try with_reducible rfl
    simp only [Act.put, aq0, aq1, aq2]
    refine goR 3 hHeld ?_
    refine goR 4 hHeld ?_
    refine takeR (i := 5) (v := ?_) rfl rfl (by kernel_rfl) (by kernel_rfl) (by kernel_rfl) (fun _ _ _ h => h) ?_ hHeld ?_
    rotate_left 1
    · intro w hSw; (try dsimp only at hSw); go_simp
      try simp only [hk0, hk1, hk2, hk3, hcf, if_true, if_false, Nat.zero_add, Int.toNat_natCast]
      try with_reducible rfl
    simp only [Act.put, aq0, aq1, aq2]
    refine stepR (i := 6) rfl (by kernel_rfl) (wanted_none rfl) (fun K hK => ?_)
    (refine wp_append_in (N := q) (.tmp 22) (.tmp 25) _ rfl _ Tryz.underlying91 Tryz.infoInts rfl (own_eqL HT.out (fun _ _ => rfl)) rfl HDL.out ?hn2 HON.out ?hN2 ?hr2 ?_; (case hn2 => (intro jj u hu; rw [add_none]; exact HCE.out jj u hu)); (case hN2 => omega); (case hr2 => omega); intro w1 hO1 t1)
    refine hK.out _ _ (trivial) (fun hHeld => ?_)
    clear hK K
    try simp only [Act.put, aq0, aq1, aq2]
    refine goR 7 hHeld ?_
    refine wpAnyH_done (by kernel_rfl) ?_ _
    refine NoPanic.normal ?_
    rw [HTK.out] at hO1
    obtain ⟨hc1, hf1, hO2⟩ := own_behind hO1 (o := q) (by omega) (by omega) (.slice none 0 0)
    have HO2 := Lib.hid hO2
    have t1b := Lib.hid (show Touch [g] w w1 from ⟨t1.os, t1.tape, t1.output, t1.size, t1.block⟩)
    clear hO1 hO2 t1
    have hcq : ¬ cap = q := by omega
    have hlg1 := t1b.out.size
    have hclr := fun c => run_clear_one (P := Tryz.prog) w1 91 0 (.slice none 0 0) Tryz.underlying91 Tryz.zeroInts rfl rfl g q c hc1 hf1
    go_wp2
    go_ret
    obtain ⟨cb2, he1, he2⟩ := GrowA.erase HQ2.out HQ3.out (show k < xs.length by have := HXL.out; omega) hS (t1b.out.setCell (p := ⟨g, q, none⟩) (by simp) (.slice none 0 0))
    have e9 : (xs.eraseIdx k).length = q := by have := HXL.out; rw [List.length_eraseIdx]; split <;> omega
    exact ⟨rfl, ⟨_, cb2, by rw [e9]; exact HO2.out, he1, he2⟩, t1b.out.setCell (by simp) _⟩
set_option maxRecDepth 100000 in
set_option maxHeartbeats 1000000 in
theorem CloneA_c {w : World} {xs : List (List Int)} {A : Option Addr} {n c : Nat} {bs : List Nat} (h : Rep w (sls ints xs) [.slice A n c] bs) (hn : n ≤ 10000000) :
    Calls Tryz.prog 66 #[.slice A n c] w fun e w' => ∃ v, e = .returned v ∧ GrowA w' w.heap.size 39 v xs bs ∧ Below w.heap.size w w' := by
  obtain ⟨rfl, _, _⟩ := h.sls_len
  obtain ⟨A', c', es, cb, he, _, _, hr, h0⟩ := h
  simp only [List.cons.injEq, Value.slice.injEq] at he
  obtain ⟨⟨rfl, hwx, rfl⟩, hwy⟩ := he
  clear hwx hwy
  have hel : es.length = xs.length := by rw [Reps.length _ hr, sizes_eq (s := 1) _ (fun x hx => by obtain ⟨y, _, rfl⟩ := List.mem_map.1 hx; rfl), List.length_map, Nat.mul_one]
  have hone := Reps.one _ hr
  have HN := Lib.hid hn; clear hn
  rcases A with _ | ad
  · have hx : xs = [] := by
      rcases h0 with ⟨h1, _⟩ | ⟨_, _, h1, _⟩
      · simpa using h1
      · cases h1
    subst hx
    have hq := fun W => Lib.run_eql_slice_nil (P := Tryz.prog) W 91 39 none 0 c 0 0 Tryz.underlying91
    clear hr h0 hel hone
    go_enter Tryz.func66, Tryz.ntmps66
    go_wp2
    go_ret
    exact ⟨_, rfl, GrowA.nil _ _ _ _, bel⟩
  · have hq := fun W => Lib.run_eql_slice_nil (P := Tryz.prog) W 91 39 (some ad) xs.length c 0 0 Tryz.underlying91
    have hcb : ∀ y ∈ cb, y ∈ bs := by
      rcases h0 with ⟨h1, rfl⟩ | ⟨b, o, _, rfl, _⟩
      · rw [h1] at hr; obtain ⟨_, rfl⟩ := hr; simp
      · exact fun y hy => List.mem_cons_of_mem _ hy
    have hcells : ∀ j u, es[j]? = some u → (w.alloc (.cells #[] 39)).cell? (ad.add j) = some u := by
      intro j u hu
      rcases h0 with ⟨h1, rfl⟩ | ⟨b, o, e1, rfl, hb, hc⟩
      · rw [h1] at hr; obtain ⟨rfl, _⟩ := hr; simp at hu
      · obtain rfl := Option.some.inj e1
        rw [add_none, World.cell?_alloc_lt _ _ _ hb]
        exact (hc j u hu).1
    have hown : (w.alloc (.cells #[] 39)).ownsRow w.heap.size 39 1 (.slice (some ⟨w.heap.size, 0, none⟩) 0 0) 0 [] := World.ownsRow_made w #[] 0 (Nat.le_refl _) (Nat.zero_le _) (by simp)
    have HW := Lib.hid (And.intro hown (And.intro hcells hone))
    have HEL := Lib.hid hel
    have HR := Lib.hid hr
    have HCB := Lib.hid hcb
    obtain ⟨i0, hi0, hzz⟩ := Option.map_eq_some_iff.1 Tryz.infoInts
    simp only [Prod.mk.injEq, decide_eq_true_iff] at hzz
    have HI := Lib.hid (And.intro hi0 hzz)
    clear hown hcells hone hr hcb h0 hel hi0 hzz
    go_enter Tryz.func66, Tryz.ntmps66
    go_wp2_with (at_builtin; (refine wpList_append_own_at _ rfl _ _ 91 rfl w.heap.size 39 i0 (.slice none 0 0) 1 i0.bytes Tryz.underlying91 HI.out.1 HI.out.2.1 HI.out.2.2.1 rfl rfl (by decide) (.slice (some ⟨w.heap.size, 0, none⟩) 0 0) 0 [] rfl HW.out.1 ad xs.length c es rfl (by rw [HEL.out, Nat.mul_one]) HW.out.2.1 HW.out.2.2 (by have := HN.out; unfold maxLen; omega) (by have := HN.out; have := HI.out.2.2.2; have := Nat.mul_le_mul (show 0 + xs.length ≤ 10000000 by omega) HI.out.2.2.2; omega) (by simp) ?_; intro v' w1 hown1 hgrow _ hat))
    rw [Nat.zero_add, List.nil_append] at hown1
    have hS : Below w.heap.size w w1 := by
      refine ((Below.refl _ _).alloc (Nat.le_refl _) _).grown hgrow (by simp) fun k hk => ?_
      have : w.heap.size = k := by simpa [Value.ownBlock] using hk
      omega
    have HG := Lib.hid (show GrowA w1 w.heap.size 39 v' xs bs from ⟨es, cb, hown1, Reps.keep _ HR.out (.of_below hS (Reps.lt _ HR.out)), HCB.out⟩)
    clear hown1 hgrow
    obtain ⟨Av, cv, rfl, _, _⟩ := HG.out.form
    go_wp2
    go_ret
    exact ⟨_, rfl, HG.out, hS⟩
end Go.Proofs.YtgogjbnneoadkaaGreat
