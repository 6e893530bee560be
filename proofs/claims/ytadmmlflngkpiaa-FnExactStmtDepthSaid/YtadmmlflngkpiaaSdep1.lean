/- Texts of this seat, joined: DepR, DepA, DepE, Sdep. -/
import Derived.Test.YtadmmlflngkpiaaMaps1
/- A slice that grows, its elements not looked at; the closure of StmtDepth. -/
set_option linter.all false
set_option linter.unusedSimpArgs false
set_option linter.unusedVariables false
namespace Go.Proofs.Ytadmmlflngkpiaa
open Go.ChangeShapes Go.WideShapes Go.ChangeAt Go.RowKit Go.Deep

/-- v is a slice of j elements that the call has made since the heap had B blocks -/
def OwnW (w : World) (B : Nat) (e : TypeId) (size : Nat) (v : Value) (j : Nat) : Prop := ∃ es, w.ownsRow B e size v j es
section
variable {P : Program} {w w' : World} {B : Nat} {e : TypeId} {size : Nat} {v : Value} {j : Nat}
theorem OwnW.nil (w : World) (B : Nat) (e : TypeId) (size : Nat) : OwnW w B e size (.slice none 0 0) 0 := ⟨[], by simp, .inl ⟨rfl, rfl⟩⟩
theorem OwnW.kept (h : OwnW w B e size v j) (hs : w.heap.size ≤ w'.heap.size) (hb : ∀ g, B ≤ g → g < w.heap.size → w'.heap[g]? = w.heap[g]?) : OwnW w' B e size v j := by
  obtain ⟨es, h⟩ := h
  exact ⟨es, own_kept h hs hb⟩
theorem OwnW.own_ge (h : OwnW w B e size v j) : ∀ b, v.ownBlock = some b → B ≤ b ∧ b < w.heap.size := by
  obtain ⟨es, h⟩ := h
  exact fun b hb => own_lt' h hb
theorem OwnW.form (h : OwnW w B e size v j) : ∃ A c, v = .slice A j c := by
  obtain ⟨es, h1, h0 | ⟨g, cap, cur, rfl, _⟩⟩ := h
  · obtain ⟨rfl, rfl⟩ := h0; exact ⟨none, 0, rfl⟩
  · exact ⟨_, _, rfl⟩
theorem OwnW.touch {bs : List Nat} (h : OwnW w B e size v j) (t : Touch bs w w') (hb : ∀ y ∈ bs, y < B) : OwnW w' B e size v j :=
  h.kept t.size fun g hg hl => t.block g hl fun hm => by have := hb g hm; omega
theorem wp_append_raw {o : Oper} {a : Act} {K : Act → World → Prop} {Q : Exit → Act → World → Prop} (s x : Operand) (t : TypeId)
    (ho : o.op = .call { callee := .builtin .append, args := #[s, x], argTypes := #[t, t] })
    (z : Value) (ht : P.underlying t = some (.slice e)) (hinfo : (P.info? e).map (fun i => (i.zero, i.size, decide (i.bytes ≤ 1024))) = some (some z, size, true)) (hzs : z.cells.size = size) (hsz : 0 < size) (hs : a.eval s = v) (hG : OwnW w B e size v j) {g0 : Nat} {news : List Value}
    (hx : a.eval x = .slice (some ⟨g0, 0, none⟩) 1 1) (hcells : ∀ j u, news[j]? = some u → w.cell? ⟨g0, j, none⟩ = some u) (hlen : news.length = size) (h1 : ∀ u ∈ news, u.oneCell' = true)
    (h63 : j + 1 ≤ 1000000000) (hbase : B ≤ w.heap.size)
    (h : ∀ v' w', OwnW w' B e size v' (j + 1) → Grew w w' v v' → K (a.put o.dst v') w') : o.wp P a w K Q := by
  obtain ⟨i, hi, hzz⟩ := Option.map_eq_some_iff.1 hinfo
  simp only [Prod.mk.injEq, decide_eq_true_iff] at hzz
  obtain ⟨es, hown⟩ := hG
  have hadd : ∀ j, (⟨g0, 0, none⟩ : Addr).add j = ⟨g0, j, none⟩ := fun j => by
    unfold Addr.add; split
    · simp_all
    · simp
  obtain ⟨v', w', hrun, h2, h3, _, h5⟩ := run_append_own_at (P := P) w B t o.type e i z size i.bytes ht hi hzz.1 hzz.2.1 rfl hzs hsz v j es hown ⟨g0, 0, none⟩ 1 1 news (by rw [hlen, Nat.one_mul]) (fun j u hu => by rw [hadd]; exact hcells j u hu) h1
    (by unfold maxLen; omega) (by have := Nat.mul_le_mul h63 hzz.2.2; omega) hbase
  unfold Oper.wp execOp
  simp only [ho, resolve, invoke, builtin, Sem.run_bind, Sem.run_pure, Result.andThen_ok, List.map_toArray, List.map_cons, List.map_nil, hs, hx, hrun]
  refine h v' w' ⟨_, h2⟩ ⟨⟨h3.os, h3.tape, h3.output, h3.size, fun y hy hm => h3.block y hy fun e => hm (mem_ownL.2 e.symm)⟩, fun y hy => ?_⟩
  rcases h5 with h5 | h5
  · rw [h5] at hy; exact .inl hy
  · rw [h5] at hy
    have : w.heap.size = y := by simpa using hy
    exact .inr (by omega)
end
theorem Touch.grew {bs : List Nat} {a b c : World} {u v : Value} (h : Touch bs a b) (k : Grew b c u v) (ho : ∀ y, u.ownBlock = some y → a.heap.size ≤ y) : Touch bs a c :=
  ⟨k.touch.os.trans h.os, k.touch.tape.trans h.tape, k.touch.output.trans h.output, Nat.le_trans h.size k.touch.size, fun x hx hn => (k.touch.block x (Nat.lt_of_lt_of_le hx h.size) (fun hm => by have := ho x (mem_ownL.1 hm); omega)).trans (h.block x hx hn)⟩
theorem Touch.cellV {w w' : World} {bs : List Nat} {g o : Nat} {v : Value} (t : Touch bs w w') (h : w.cell? ⟨g, o, none⟩ = some v) (hn : g ∉ bs) : w'.cell? ⟨g, o, none⟩ = some v := (t.cell (lt_of_cell h) hn).trans h
theorem OwnW.below {w w' : World} {B : Nat} {e : TypeId} {size : Nat} {v : Value} {j : Nat} (h : OwnW w B e size v j) (hb : Below w.heap.size w w') : OwnW w' B e size v j := h.kept hb.size fun g _ hl => hb.block g hl
theorem OwnW.set_low {w : World} {B : Nat} {e : TypeId} {size : Nat} {v : Value} {j : Nat} (h : OwnW w B e size v j) {p : Addr} (hp : p.block < B) (u : Value) : OwnW (w.setCell p u) B e size v j :=
  h.kept (by simp [World.setCell]) fun g hg _ => Below.heap_setCell _ _ _ _ (fun e => by omega)
theorem new_cellsM (w : World) (l : List Value) (t : TypeId) {N : Nat} (hN : w.heap.size = N) : ∀ j u, l[j]? = some u → (w.alloc (.cells l.toArray t)).cell? ⟨N, j, none⟩ = some u := by subst hN; exact new_cells w l t
theorem set_cellN {w : World} {g b o : Nat} {v u : Value} (h : w.cell? ⟨g, 0, none⟩ = some v) (hn : g ≠ b) : (w.setCell ⟨b, o, none⟩ u).cell? ⟨g, 0, none⟩ = some v := by
  have hne : ¬ g = b := hn
  have := lt_of_cell h
  go_simp
theorem depL_snoc (n : Nat) (xs : List Aff) (a : Aff) : depL n (xs ++ [a]) = max (depL n xs) (depF a.coefs) := by unfold depL; rw [List.foldl_append]; rfl
/-- the number that the closure counts in -/
def Ran (w : World) (g : Nat) (n : Nat) (w' : World) : Prop := w'.cell? ⟨g, 0, none⟩ = some (.int .i64 n) ∧ w'.frozen? ⟨g, 0, none⟩ = false ∧ Touch [g] w w'
theorem Rep.tch {w w' : World} {d : D} {cs : List Value} {bs : List Nat} {g : Nat} (h : Rep w d cs bs) (t : Touch [g] w w') (hg : g ∉ bs) : Rep w' d cs bs :=
  Rep.keep _ h (t.keeps fun y hy => ⟨Rep.lt _ h y hy, fun hm => hg (by rw [List.mem_singleton] at hm; rwa [← hm])⟩)
theorem depCl_e : Enters Try.prog 49 := fun args W => by go_simp
set_option maxRecDepth 100000 in
set_option maxHeartbeats 4000000 in
theorem depCl_c {w : World} {g n : Nat} {a : Aff} {A : Option Addr} {m c : Nat} {bs : List Nat} (hn : w.cell? ⟨g, 0, none⟩ = some (.int .i64 n)) (hf : w.frozen? ⟨g, 0, none⟩ = false) (h : Rep w a.d [.slice A m c, .int .i64 a.const] bs) :
    Calls Try.prog 49 #[.agg #[.slice A m c, .int .i64 a.const], .pointer (some ⟨g, 0, none⟩)] w fun e w' => e = .returned (.agg #[.slice A m c, .int .i64 a.const]) ∧ Ran w g (max n (depF a.coefs)) w' := by
  have HH := Lib.hid h; clear h
  have lg := lt_of_cell hn
  go_enter Try.func49, Try.ntmps49
  go_wp2_with fail
  refine wp_region_noPanic ?_
  refine wp_regionT (S := fun w' => w'.cell? ⟨g, 0, none⟩ = some (.int .i64 n) ∧ Box2 w' w.heap.size (.slice A m c) (.int .i64 a.const)) 4 (by kernel_rfl) (⟨by go_simp, by go_simp, by go_simp⟩) (fun hHeld => ?_)
  refine goT 0 hHeld ?_
  refine goT 1 hHeld ?_
  refine readyT (rs := [2]) (by kernel_rfl) (by simp) (all1 ?_)
  refine opT (i := 2) rfl (wanted_none rfl) (fun K hK => ?_)
  go_simp
  (refine (depth_c (HH.out.below bel)).mono ?_; rintro e w1 ⟨rfl, b1⟩; have F1 : w1.frozen? ⟨g, 0, none⟩ = false := (by rw [b1.frozen (by first | (simp; done) | (simp; omega))]; go_simp); have R1 : BoxW w1 (w.heap.size + 1) (.slice none 0 0) (.int .i64 0) := (by refine ⟨⟨?_, ?_⟩, ?_, ?_⟩ <;> first | (rw [b1.cell (by simp)]; go_simp; done) | (rw [b1.frozen (by simp)]; go_simp)); have S1 : Below w.heap.size w w1 := bel)
  go_wp2_with fail
  refine hK.out _ _ (⟨cell_toC hHeld.1 b1, hHeld.2.to b1⟩) (fun hHeld => ?_)
  clear hK K
  try simp only [Act.put, List.setIfInBounds_toArray, List.set_cons_zero, List.set_cons_succ]
  refine readyT (rs := [3]) (by kernel_rfl) (by simp) (all1 ?_)
  refine opT (i := 3) rfl (wanted_none rfl) (fun K hK => ?_)
  (unfold Oper.wp; go_simp)
  refine hK.out _ _ (hHeld) (fun hHeld => ?_)
  clear hK K
  try simp only [Act.put, List.setIfInBounds_toArray, List.set_cons_zero, List.set_cons_succ]
  refine readyT (rs := [4]) (by kernel_rfl) (by simp) (all1 ?_)
  refine opTT (i := 4) rfl (wanted_none rfl) (by kernel_rfl) (fun K hK => ?_)
  (unfold Oper.wp; go_simp)
  refine hK.out _ _ ?_
  clear hK K
  try simp only [Act.put, List.setIfInBounds_toArray, List.set_cons_zero, List.set_cons_succ]
  refine wpAnyT_done (by kernel_rfl) ?_ _
  refine NoPanic.normal ?_
  (skip)
  obtain ⟨hc1, hx1, hx2⟩ := hHeld
  obtain ⟨⟨r1, r2⟩, r3, r4⟩ := R1
  have lx := lt_of_cell hx1
  have lr := lt_of_cell r1
  have lc := lt_of_cell hc1
  go_wp2
  refine bodyPost_ret (v := .agg #[.slice A m c, .int .i64 a.const]) (by simp [results, Try.results49, go_sem, r1, r2]) rfl ⟨rfl, ?_, ?_, ?_⟩
  · have hmx : ((max n (depF a.coefs) : Nat) : Int) = max (n : Int) (depF a.coefs : Int) := by omega
    rw [hmx]
    have hne : ¬ g = w.heap.size + 1 := by omega
    go_simp
  · rw [World.frozen?_setCell, World.frozen?_setCell, World.frozen?_setCell]; exact F1
  · have T0 : Touch [g] w (w1.setCell ⟨g, 0, none⟩ (.int .i64 (max (n : Int) (depF a.coefs : Int)))) := (Touch.of_below (bs := [g]) S1).setCell (by simp) _
    exact T0.then (((Below.refl _ _).setCell (by simp) _).setCell (by simp) _)
end Go.Proofs.Ytadmmlflngkpiaa

/- accessMap with the closure of StmtDepth. -/
namespace Go.Proofs.Ytadmmlflngkpiaa
open Go.ChangeShapes Go.WideShapes Go.ChangeAt Go.RowKit Go.Deep

set_option maxRecDepth 100000 in
set_option maxHeartbeats 8000000 in
theorem depAcc_c {w : World} {x : Acc} {cs : List Value} {bs : List Nat} {g n : Nat} (h : Rep w x.d cs bs) (hl : x.subs.length ≤ 1000000) (hgb : g ∉ bs) (hgc : w.cell? ⟨g, 0, none⟩ = some (.int .i64 n)) (hgf : w.frozen? ⟨g, 0, none⟩ = false) :
    Calls Try.prog 79 #[.agg cs.toArray, .func (.func 49) #[] #[.pointer (some ⟨g, 0, none⟩)]] w fun e w' => ∃ A m c, e = .returned (.agg #[.string x.arr, .slice A m c]) ∧ Ran w g (depL n x.subs) w' := by
  obtain ⟨A2, c2, d2, rfl, rfl, g1, g2⟩ := Rep.acc_iff.1 h
  have Garr := Lib.hid g1
  have Gsubs := Lib.hid g2
  clear h g1 g2
  have hn : x.subs.length ≤ 9223372036854775807 := by omega
  have hg := depCl_e
  unfold Enters at hg
  have lg := lt_of_cell hgc
  have HGB := Lib.hid hgb; clear hgb
  go_enter Try.func79, Try.ntmps79
  go_wp2
  go_loopw [14] (fun i wr => ∃ (j : Nat) (u : Value), j ≤ x.subs.length ∧ i = .int .i64 j ∧ BoxW wr (w.heap.size + 2) (.string x.arr) u ∧ OwnW wr (w.heap.size + 3) 47 2 u j ∧ BoxW wr (w.heap.size + 1) (.string ⟨#[]⟩) (.slice none 0 0) ∧ w.heap.size + 3 ≤ wr.heap.size ∧ Ran w g (depL n (x.subs.take j)) wr) (fun i _ => x.subs.length - (intOf i).toNat)
  case atStart => exact ⟨0, .slice none 0 0, Nat.zero_le _, rfl, ⟨⟨by go_simp, by go_simp⟩, by go_simp, by go_simp⟩, OwnW.nil _ _ _ _, ⟨⟨by go_simp, by go_simp⟩, by go_simp, by go_simp⟩, by simp, ((show Below w.heap.size w _ from bel).cell lg).trans hgc, ((show Below w.heap.size w _ from bel).frozen lg).trans hgf, Touch.of_below bel⟩
  case round =>
    obtain ⟨j, u, hj, rfl, ⟨⟨k2a, k2b⟩, f2a, f2b⟩, hG, hR, hz, hr1, hr2, htc⟩ := hrel
    have HR := Lib.hid hR; clear hR
    have HTC := Lib.hid htc; clear htc
    obtain ⟨Au, cu, hfu⟩ := hG.form
    subst hfu
    have HG := Lib.hid hG; clear hG
    by_cases hlt : j < x.subs.length
    · have HT := Lib.hid (show depL n (x.subs.take (j + 1)) = max (depL n (x.subs.take j)) (depF x.subs[j].coefs) by rw [List.take_succ_eq_append_getElem hlt, depL_snoc])
      have GW := Lib.hid (Gsubs.out.tch HTC.out HGB.out)
      have hbR := Below.refl wr.heap.size wr
      obtain ⟨be, oe, cse, le, rfl, hble, hre, _, _, hce⟩ := (GW.out.below hbR).sls_at Aff.d_size (k := j) hlt
      have Ge := Lib.hid hre
      obtain ⟨A1e, c1e, d1e, rfl, rfl, g1e, g2e⟩ := Rep.aff_iff2.1 hre
      have k0e := (hce 0 _ rfl).1; rw [Nat.add_zero] at k0e
      have k1e := (hce 1 _ rfl).1
      have Q1e := Lib.hid g1e
      have Q2e := Lib.hid g2e
      clear hce hre g1e g2e
      have lt2 := lt_of_cell k2a
      have lgr := lt_of_cell hr1
      have HOW := Lib.hid HG.out.own_ge
      obtain ⟨a, ha⟩ : ∃ a, a = x.subs[j] := ⟨_, rfl⟩
      rw [← ha] at k0e k1e Ge HT
      clear ha
      obtain ⟨N, hN⟩ : ∃ N, N = depL n (x.subs.take j) := ⟨_, rfl⟩
      rw [← hN] at hr1 HT
      clear hN
      go_wp2_with fail
      refine wp_region_noPanic ?_
      refine wp_regionT (S := fun w' => Box2 w' (w.heap.size + 2) (.string x.arr) (.slice Au j cu) ∧ Box2 w' wr.heap.size (.slice A1e a.coefs.length c1e) (.int .i64 a.const)) 8 (by kernel_rfl) (⟨⟨by go_simp, by go_simp⟩, by go_simp, by go_simp⟩) (fun hHeld => ?_)
      refine goU 0 (fun _ => hHeld) ?_
      refine goT 1 hHeld ?_
      refine goU 2 (fun _ => hHeld) ?_
      refine goT 3 hHeld ?_
      refine readyT (rs := [4]) (by kernel_rfl) (by simp) (all1 ?_)
      refine opT (i := 4) rfl (wanted_none rfl) (fun K hK => ?_)
      go_simp
      (refine (depCl_c (n := N) (g := g) (by go_simp) (by go_simp) (Ge.out.below bel)).mono ?_; rintro e w1 ⟨rfl, q1, q2, t1⟩; have hz1 := t1.size; (try simp at hz1); have T1 : Touch [g] wr w1 := (Touch.of_below (bs := [g]) (show Below wr.heap.size wr _ from bel)).trans t1)
      go_wp2_with fail
      refine hK.out _ _ (⟨t1.box2 hHeld.1 (by simp; omega), t1.box2 hHeld.2 (by simp; omega)⟩) (fun hHeld => ?_)
      clear hK K
      try simp only [Act.put, List.setIfInBounds_toArray, List.set_cons_zero, List.set_cons_succ]
      refine readyT (rs := [5]) (by kernel_rfl) (by simp) (all1 ?_)
      refine opT (i := 5) rfl (wanted_none rfl) (fun K hK => ?_)
      (unfold Oper.wp; go_simp)
      refine hK.out _ _ (⟨hHeld.1.to ((Below.refl _ _).alloc (Nat.le_refl _) _), hHeld.2.to ((Below.refl _ _).alloc (Nat.le_refl _) _)⟩) (fun hHeld => ?_)
      clear hK K
      try simp only [Act.put, List.setIfInBounds_toArray, List.set_cons_zero, List.set_cons_succ]
      refine readyT (rs := [6]) (by kernel_rfl) (by simp) (all1 ?_)
      refine opT (i := 6) rfl (wanted_none rfl) (fun K hK => ?_)
      (have O1 : OwnW (w1.alloc (.cells #[.slice A1e a.coefs.length c1e, .int .i64 a.const] 47)) (w.heap.size + 3) 47 2 (.slice Au j cu) j := (HG.out.touch T1 (by simp; omega)).below ((Below.refl _ _).alloc (Nat.le_refl _) _); refine wp_append_raw (.tmp 19) (.tmp 23) _ rfl _ Try.underlying44 Try.infoAff rfl (by decide) rfl O1 (news := [.slice A1e a.coefs.length c1e, .int .i64 a.const]) rfl (new_cellsM _ [_, _] _ (by simp)) rfl ?hone ?hlen ?hbs ?_; (case hone => (intro u hu; simp only [List.mem_cons, List.not_mem_nil, or_false] at hu; rcases hu with rfl | rfl <;> rfl)); (case hlen => omega); (case hbs => (simp; omega)); intro v2 w4 hG4 hg4; have HG4 := Lib.hid hG4; obtain ⟨A4, c4, hf4⟩ := hG4.form; subst hf4; have TA : Touch [g] wr (w1.alloc (.cells #[.slice A1e a.coefs.length c1e, .int .i64 a.const] 47)) := T1.trans (Touch.of_below ((Below.refl _ _).alloc (Nat.le_refl _) _)); have T4 : Touch (g :: ownL (.slice Au j cu)) wr w4 := (TA.mono (by simp)).trans (hg4.touch.mono (by intro y hy; exact List.mem_cons_of_mem _ hy)); have hnin : ∀ b, b < w.heap.size + 3 → b ≠ g → b ∉ g :: ownL (.slice Au j cu) := (fun b hb hne hm => by rcases List.mem_cons.1 hm with e | e; exact hne e; (have := (HOW.out _ (mem_ownL.1 e)).1; omega)); have X2 := T4.boxW (g := w.heap.size + 2) ⟨⟨k2a, k2b⟩, f2a, f2b⟩ (hnin _ (by omega) (by omega)); have XR := Lib.hid (T4.boxW HR.out (hnin _ (by omega) (by omega))); obtain ⟨⟨k2d, k2e⟩, f2d, f2e⟩ := X2; have lA := lt_of_cell k2d; have hgo : g ∉ ownL (.slice Au j cu) := (fun hm => by have := (HOW.out _ (mem_ownL.1 hm)).1; omega); have Q1 := hg4.touch.cellV (cell_alM q1) hgo; have Q2 : w4.frozen? ⟨g, 0, none⟩ = false := ((hg4.touch.frozen (by simp; omega) hgo).trans (by rw [((Below.refl w1.heap.size w1).alloc (Nat.le_refl _) _).frozen (show g < w1.heap.size by omega)]; exact q2)); have TW := Lib.hid ((HTC.out.trans TA).grew hg4 (fun y hy => by have := (HOW.out _ hy).1; omega)); have hz4 := TA.size; have hz5 := hg4.touch.size; rw [← HT.out] at Q1)
      refine hK.out _ _ (⟨hg4.touch.box2 hHeld.1 (fun hm => by have := (HOW.out _ (mem_ownL.1 hm)).1; omega), hg4.touch.box2 hHeld.2 (fun hm => by have := (HOW.out _ (mem_ownL.1 hm)).2; omega)⟩) (fun hHeld => ?_)
      clear hK K
      try simp only [Act.put, List.setIfInBounds_toArray, List.set_cons_zero, List.set_cons_succ]
      refine goU 7 (fun _ => hHeld) ?_
      refine readyT (rs := [8]) (by kernel_rfl) (by simp) (all1 ?_)
      refine opTT (i := 8) rfl (wanted_none rfl) (by kernel_rfl) (fun K hK => ?_)
      (unfold Oper.wp; go_simp)
      refine hK.out _ _ ?_
      clear hK K
      try simp only [Act.put, List.setIfInBounds_toArray, List.set_cons_zero, List.set_cons_succ]
      refine wpAnyT_done (by kernel_rfl) ?_ _
      refine NoPanic.normal ?_
      (go_wp2; go_roundw; (case rel => exact ⟨j + 1, _, by omega, by go_num, ⟨⟨by go_simp, by go_simp⟩, by go_simp, by go_simp⟩, HG4.out.set_low (p := ⟨w.heap.size + 2, 1, none⟩) (by simp) _, ⟨Box2.set XR.out.1 (by first | (simp; done) | (simp; omega)) _, by rw [World.frozen?_setCell]; exact XR.out.2.1, by rw [World.frozen?_setCell]; exact XR.out.2.2⟩, by (simp [World.setCell]; omega), (set_cellN Q1 (by omega)), by rw [World.frozen?_setCell]; exact Q2, TW.out.then ((Below.refl _ _).setCell (by first | (simp; done) | (simp; omega)) _)⟩); (case measure => (simp [intOf]; omega)))
    · have hjj : j = x.subs.length := by omega
      subst hjj
      obtain ⟨⟨m1, m2⟩, m3, m4⟩ := HR.out
      have lt1 := lt_of_cell m1
      have lt2 := lt_of_cell k2a
      rw [List.take_length] at hr1
      go_wp2
      refine bodyPost_ret (v := .agg #[.string x.arr, .slice Au x.subs.length cu]) (by simp [results, Try.results79, go_sem, m1, m2]) rfl ⟨Au, _, cu, rfl, ?_, ?_, HTC.out.then (((Below.refl _ _).setCell (by first | (simp; done) | (simp; omega)) _).setCell (by first | (simp; done) | (simp; omega)) _)⟩
      · have hne : ¬ g = w.heap.size + 1 := by omega
        go_simp
      · rw [World.frozen?_setCell, World.frozen?_setCell]; exact hr2
end Go.Proofs.Ytadmmlflngkpiaa

/- exprMap with the closure of StmtDepth. -/
namespace Go.Proofs.Ytadmmlflngkpiaa
open Go.ChangeShapes Go.WideShapes Go.ChangeAt Go.RowKit Go.Deep

theorem Touch.cut {bs : List Nat} {a b c : World} {q : Nat} (h : Touch bs a b) (k : Touch (q :: bs) b c) (hq : a.heap.size ≤ q) : Touch bs a c :=
  ⟨k.os.trans h.os, k.tape.trans h.tape, k.output.trans h.output, Nat.le_trans h.size k.size, fun x hx hn => (k.block x (Nat.lt_of_lt_of_le hx h.size) (fun hm => by rcases List.mem_cons.1 hm with e | e; omega; exact hn e)).trans (h.block x hx hn)⟩
theorem Row.tch {w w' : World} {g : Nat} {t : TypeId} {l : List Value} {bs : List Nat} (h : Row w g t l) (t1 : Touch bs w w') (hg : g < w.heap.size) (hn : g ∉ bs) : Row w' g t l := h.of_block (t1.block g hg hn)
def depB (n : Nat) (x : Ex) : Nat := if x.kind = 2 then max n (depF x.index.coefs) else if x.kind = 3 then depL n x.read.subs else n
theorem depEx_B (n : Nat) (x : Ex) : depEx n x = x.kids.foldl depEx (depB n x) := depEx_eq n x
def DepX (g : Nat) (x : Ex) : Prop := ∀ (w : World) (cs : List Value) (bs : List Nat) (n : Nat), Rep w x.d cs bs → g ∉ bs → w.cell? ⟨g, 0, none⟩ = some (.int .i64 n) → w.frozen? ⟨g, 0, none⟩ = false → exAll affOk x = true →
    Calls Try.prog 80 #[.agg cs.toArray, .func (.func 49) #[] #[.pointer (some ⟨g, 0, none⟩)]] w fun e w' => ∃ (a2 : Option Addr) (n2 c2 : Nat) (k3 : Int) (s4 : ByteArray) (a5 : Option Addr) (n5 c5 : Nat) (a6 : Option Addr) (n6 c6 : Nat), e = .returned (.agg #[.int .i64 x.kind, .int .i64 x.num, .slice a2 n2 c2, .int .i64 k3, .string s4, .slice a5 n5 c5, .slice a6 n6 c6]) ∧ Ran w g (depEx n x) w'
set_option maxRecDepth 100000 in
set_option maxHeartbeats 16000000 in
theorem depEx_r {g : Nat} {x : Ex} (hrec : ∀ y ∈ x.kids, DepX g y) : DepX g x := by
  intro w cs bs n h hgb hgc hgf ha
  have HREC := Lib.hid hrec; clear hrec
  have hp := exAll_parts ha
  have hkl := hp.2.2.1
  have HPA := Lib.hid hp; clear hp ha
  have hg := depCl_e
  have lg := lt_of_cell hgc
  have HGB := Lib.hid hgb; clear hgb
  obtain ⟨A3, c3, A6, c6, A7, c7, d3, d6, d7, rfl, rfl, g1, g2, g3, g4, g5, g6, g7⟩ := Rep.ex_iff.1 h
  have Gkind := Lib.hid g1
  have Gnum := Lib.hid g2
  have Gindex := Lib.hid ((Rep.aff_iff2 (x := x.index)).2 ⟨_, _, _, rfl, rfl, g3, g4⟩)
  have Gread := Lib.hid ((Rep.acc_iff (x := x.read)).2 ⟨_, _, _, rfl, rfl, g5, g6⟩)
  have Gkids := Lib.hid g7
  clear h g1 g2 g3 g4 g5 g6 g7
  have hn : x.kids.length ≤ 9223372036854775807 := by omega
  have HN := Lib.hid (show g ∉ d3 ∧ g ∉ d6 ∧ g ∉ d7 by have := HGB.out; simp only [List.mem_append, not_or] at this; exact ⟨this.1.1, this.1.2, this.2⟩)
  clear HGB
  unfold Enters at hg
  obtain ⟨W, hW⟩ : ∃ W, W = ((w.alloc (.cells #[.int .i64 x.kind, .int .i64 x.num, .slice A3 x.index.coefs.length c3, .int .i64 x.index.const, .string x.read.arr, .slice A6 x.read.subs.length c6, .slice A7 x.kids.length c7] 50)).alloc (.cells #[.int .i64 0, .int .i64 0, .slice none 0 0, .int .i64 0, .string ⟨#[]⟩, .slice none 0 0, .slice none 0 0] 50)).alloc (.cells #[.int .i64 x.kind, .int .i64 x.num, .slice none 0 0, .int .i64 0, .string ⟨#[]⟩, .slice none 0 0, .slice none 0 0] 50) := ⟨_, rfl⟩
  obtain ⟨rp0, Z0, O0, B0, hWz⟩ := three_rows w _ _ _ _ hW
  have P0 : Box7 W w.heap.size (.int .i64 x.kind) (.int .i64 x.num) (.slice A3 x.index.coefs.length c3) (.int .i64 x.index.const) (.string x.read.arr) (.slice A6 x.read.subs.length c6) (.slice A7 x.kids.length c7) := rp0.box7
  clear rp0
  have HW := Lib.hid hW; clear hW
  have hWz2 : w.heap.size + 3 ≤ W.heap.size := by omega
  have HWZ := Lib.hid hWz
  clear hWz
  have HZ0 := Lib.hid Z0; clear Z0
  have hgW := (B0.cell lg).trans hgc
  have hfW := (B0.frozen (p := ⟨g, 0, none⟩) lg).trans hgf
  have HEQ := Lib.hid (depEx_B n x)
  go_enter Try.func80, Try.ntmps80
  go_upto_block 0 with (fail)
  rw [← HW.out]
  go_cut [15] (fun _ wc => ∃ (AI : Option Addr) (nI cI : Nat) (kI : Int) (sR : ByteArray) (AR : Option Addr) (nR cR : Nat), Row wc (w.heap.size + 2) 50 [.int .i64 x.kind, .int .i64 x.num, .slice AI nI cI, .int .i64 kI, .string sR, .slice AR nR cR, .slice none 0 0] ∧ Row wc (w.heap.size + 1) 50 [.int .i64 0, .int .i64 0, .slice none 0 0, .int .i64 0, .string ⟨#[]⟩, .slice none 0 0, .slice none 0 0] ∧ Box7 wc w.heap.size (.int .i64 x.kind) (.int .i64 x.num) (.slice A3 x.index.coefs.length c3) (.int .i64 x.index.const) (.string x.read.arr) (.slice A6 x.read.subs.length c6) (.slice A7 x.kids.length c7) ∧ w.heap.size + 3 ≤ wc.heap.size ∧ Ran w g (depB n x) wc)
  case first =>
    have OB := O0.box7
    have lo := lt_of_cell OB.1
    have lp := lt_of_cell P0.1
    have HO0 := Lib.hid O0; clear O0
    by_cases h2 : x.kind = 2
    case pos =>
      have q1 : (x.kind == 2) = true := ieq_t h2
      have HX := Lib.hid (show depB n x = max n (depF x.index.coefs) by unfold depB; rw [if_pos h2])
      clear h2
      go_wp2_with fail
      refine (depCl_c (n := n) (g := g) hgW hfW (Gindex.out.below B0)).mono ?_
      rintro e w1 ⟨rfl, q2, q3, t1⟩
      have OB1 := OB.touch t1 (by simp; omega)
      have f12 := (t1.frozen (g := w.heap.size + 2) (o := 2) lo (by simp; omega)).trans (HO0.out.frozen 2)
      have f13 := (t1.frozen (g := w.heap.size + 2) (o := 3) lo (by simp; omega)).trans (HO0.out.frozen 3)
      have P1 := P0.touch t1 (by simp; omega)
      have lp1 := lt_of_cell P1.1
      have lo1 := lt_of_cell OB1.1
      have HO1 := Lib.hid (((HO0.out.tch t1 lo (by simp; omega)).set 2 (.slice A3 x.index.coefs.length c3)).set 3 (.int .i64 x.index.const))
      have HZ1 := Lib.hid (((HZ0.out.tch t1 (by omega) (by simp; omega)).far (p := ⟨w.heap.size + 2, 2, none⟩) (by simp) (.slice A3 x.index.coefs.length c3)).far (p := ⟨w.heap.size + 2, 3, none⟩) (by simp) (.int .i64 x.index.const))
      have PQ := Lib.hid (show Box7 ((w1.setCell ⟨w.heap.size+2,2,none⟩ (.slice A3 x.index.coefs.length c3)).setCell ⟨w.heap.size+2,3,none⟩ (.int .i64 x.index.const)) w.heap.size (.int .i64 x.kind) (.int .i64 x.num) (.slice A3 x.index.coefs.length c3) (.int .i64 x.index.const) (.string x.read.arr) (.slice A6 x.read.subs.length c6) (.slice A7 x.kids.length c7) by refine ⟨?_, ?_, ?_, ?_, ?_, ?_, ?_⟩ <;> go_simp)
      have hz1 := t1.size
      have RN := Lib.hid (show Ran w g (max n (depF x.index.coefs)) ((w1.setCell ⟨w.heap.size+2,2,none⟩ (.slice A3 x.index.coefs.length c3)).setCell ⟨w.heap.size+2,3,none⟩ (.int .i64 x.index.const)) from ⟨set_cellN (set_cellN q2 (by omega)) (by omega), by rw [World.frozen?_setCell, World.frozen?_setCell]; exact q3, ((Touch.of_below (bs := [g]) B0).trans t1).then (((Below.refl _ _).setCell (by first | (simp; done) | (simp; omega)) _).setCell (by first | (simp; done) | (simp; omega)) _)⟩)
      clear OB P0
      go_wp2
      go_meet
      case rel =>
        refine ⟨_, _, _, _, _, _, _, _, HO1.out, HZ1.out, PQ.out, by (simp [World.setCell]; omega), ?_⟩
        rw [HX.out]; exact RN.out
    case neg =>
      by_cases h3 : x.kind = 3
      case pos =>
        have q1 : (x.kind == 2) = false := ieq_f h2
        have q2 : (x.kind == 3) = true := ieq_t h3
        obtain ⟨hs, hl⟩ := HPA.out.2.1 h3
        have HS := Lib.hid hs; clear hs
        have HX := Lib.hid (show depB n x = depL n x.read.subs by unfold depB; rw [if_neg h2, if_pos h3])
        clear h2 h3
        go_wp2_with fail
        refine (depAcc_c (n := n) (Gread.out.below B0) hl HN.out.2.1 hgW hfW).mono ?_
        rintro e w1 ⟨A1, m1, c1_, rfl, q3, q4, t1⟩
        have OB1 := OB.touch t1 (by simp; omega)
        have f12 := (t1.frozen (g := w.heap.size + 2) (o := 4) lo (by simp; omega)).trans (HO0.out.frozen 4)
        have f13 := (t1.frozen (g := w.heap.size + 2) (o := 5) lo (by simp; omega)).trans (HO0.out.frozen 5)
        have P1 := P0.touch t1 (by simp; omega)
        have lp1 := lt_of_cell P1.1
        have lo1 := lt_of_cell OB1.1
        have HO1 := Lib.hid (((HO0.out.tch t1 lo (by simp; omega)).set 4 (.string x.read.arr)).set 5 (.slice A1 m1 c1_))
        have HZ1 := Lib.hid (((HZ0.out.tch t1 (by omega) (by simp; omega)).far (p := ⟨w.heap.size + 2, 4, none⟩) (by simp) (.string x.read.arr)).far (p := ⟨w.heap.size + 2, 5, none⟩) (by simp) (.slice A1 m1 c1_))
        have PQ := Lib.hid (show Box7 ((w1.setCell ⟨w.heap.size+2,4,none⟩ (.string x.read.arr)).setCell ⟨w.heap.size+2,5,none⟩ (.slice A1 m1 c1_)) w.heap.size (.int .i64 x.kind) (.int .i64 x.num) (.slice A3 x.index.coefs.length c3) (.int .i64 x.index.const) (.string x.read.arr) (.slice A6 x.read.subs.length c6) (.slice A7 x.kids.length c7) by refine ⟨?_, ?_, ?_, ?_, ?_, ?_, ?_⟩ <;> go_simp)
        have hz1 := t1.size
        have RN := Lib.hid (show Ran w g (depL n x.read.subs) ((w1.setCell ⟨w.heap.size+2,4,none⟩ (.string x.read.arr)).setCell ⟨w.heap.size+2,5,none⟩ (.slice A1 m1 c1_)) from ⟨set_cellN (set_cellN q3 (by omega)) (by omega), by rw [World.frozen?_setCell, World.frozen?_setCell]; exact q4, ((Touch.of_below (bs := [g]) B0).trans t1).then (((Below.refl _ _).setCell (by first | (simp; done) | (simp; omega)) _).setCell (by first | (simp; done) | (simp; omega)) _)⟩)
        clear OB P0
        go_wp2
        go_meet
        case rel =>
          refine ⟨_, _, _, _, _, _, _, _, HO1.out, HZ1.out, PQ.out, by (simp [World.setCell]; omega), ?_⟩
          rw [HX.out]; exact RN.out
      case neg =>
        have q1 : (x.kind == 2) = false := ieq_f h2
        have q2 : (x.kind == 3) = false := ieq_f h3
        have HX := Lib.hid (show depB n x = n by unfold depB; rw [if_neg h2, if_neg h3])
        have PQ := Lib.hid P0
        clear h2 h3
        go_wp2
        go_meet
        case rel =>
          refine ⟨_, _, _, _, _, _, _, _, HO0.out, HZ0.out, PQ.out, hWz2, ?_⟩
          rw [HX.out]; exact ⟨hgW, hfW, Touch.of_below B0⟩
  case rest =>
    obtain ⟨AI, nI, cI, kI, sR, AR, nR, cR, ho, hz, Pc, hsz, hrc, hrf, hrt⟩ := hcut
    rename World => wc
    clear P0 O0 HW HWZ HZ0 hgW hfW hWz2 B0 W
    have HO := Lib.hid ho
    have HZ := Lib.hid hz
    have HTW := Lib.hid hrt
    have lp := lt_of_cell Pc.1
    have lgc := lt_of_cell hrc
    clear ho hz hrt
    obtain ⟨M, hM⟩ : ∃ M, M = depB n x := ⟨_, rfl⟩
    rw [← hM] at hrc HEQ
    clear hM
    have hgO : w.heap.size + 2 < wc.heap.size := by omega
    go_wp2
    go_loopw [32] (fun i wr => ∃ (j : Nat) (u : Value), j ≤ x.kids.length ∧ i = .int .i64 j ∧ Row wr (w.heap.size + 2) 50 [.int .i64 x.kind, .int .i64 x.num, .slice AI nI cI, .int .i64 kI, .string sR, .slice AR nR cR, u] ∧ OwnW wr wc.heap.size 50 7 u j ∧ Touch [w.heap.size + 2, g] wc wr ∧ wr.cell? ⟨g, 0, none⟩ = some (.int .i64 ((x.kids.take j).foldl depEx M : Nat)) ∧ wr.frozen? ⟨g, 0, none⟩ = false) (fun i _ => x.kids.length - (intOf i).toNat)
    case atStart => exact ⟨0, .slice none 0 0, Nat.zero_le _, rfl, HO.out, OwnW.nil _ _ _ _, Touch.refl _ _, hrc, hrf⟩
    case round =>
      obtain ⟨j, u, hj, rfl, hrow, hG, htc, hr1, hr2⟩ := hrel
      have HO2 := Lib.hid hrow; clear hrow
      have HTC := Lib.hid htc; clear htc
      have hszr := HTC.out.size
      obtain ⟨Au, cu, hfu⟩ := hG.form
      subst hfu
      have HG := Lib.hid hG; clear hG
      have HTR := Lib.hid (HTW.out.cut HTC.out (by omega))
      have lgr := lt_of_cell hr1
      by_cases hlt : j < x.kids.length
      · have HT := Lib.hid (show (x.kids.take (j + 1)).foldl depEx M = depEx ((x.kids.take j).foldl depEx M) x.kids[j] by rw [List.take_succ_eq_append_getElem hlt, List.foldl_append]; rfl)
        have HRJ := Lib.hid (HREC.out _ (List.getElem_mem hlt))
        have HAJ := Lib.hid (HPA.out.2.2.2 _ (List.getElem_mem hlt))
        have GW := Lib.hid (Gkids.out.tch HTR.out HN.out.2.2)
        have hbR := Below.refl wr.heap.size wr
        obtain ⟨be, oe, cse, le, rfl, hble, hre, _, hmme, hce⟩ := (GW.out.below hbR).sls_at Ex.d_size (k := j) hlt
        have HMe := Lib.hid hmme; clear hmme
        have Ge := Lib.hid hre
        obtain ⟨A3e, c3e, A6e, c6e, A7e, c7e, d3e, d6e, d7e, rfl, rfl, g1e, g2e, g3e, g4e, g5e, g6e, g7e⟩ := Rep.ex_iff.1 hre
        have k0e := (hce 0 _ rfl).1; rw [Nat.add_zero] at k0e
        have k1e := (hce 1 _ rfl).1
        have k2e := (hce 2 _ rfl).1
        have k3e := (hce 3 _ rfl).1
        have k4e := (hce 4 _ rfl).1
        have k5e := (hce 5 _ rfl).1
        have k6e := (hce 6 _ rfl).1
        have Q1e := Lib.hid g1e
        have Q2e := Lib.hid g2e
        have Q3e := Lib.hid g3e
        have Q4e := Lib.hid g4e
        have Q5e := Lib.hid g5e
        have Q6e := Lib.hid g6e
        have Q7e := Lib.hid g7e
        clear hce hre g1e g2e g3e g4e g5e g6e g7e
        have HNE := Lib.hid (fun hm => HN.out.2.2 (HMe.out g hm))
        have OB := HO2.out.box7
        have lo := lt_of_cell OB.1
        obtain ⟨o0, o1, o2, o3, o4, o5, o6⟩ := OB
        have f6 := HO2.out.frozen 6
        have HOW := Lib.hid HG.out.own_ge
        obtain ⟨y, hy⟩ : ∃ y, y = x.kids[j] := ⟨_, rfl⟩
        rw [← hy] at k0e k1e k2e k3e k4e k5e k6e Ge HT HRJ HAJ
        clear hy
        obtain ⟨N, hN⟩ : ∃ N, N = (x.kids.take j).foldl depEx M := ⟨_, rfl⟩
        rw [← hN] at hr1 HT
        clear hN
        go_wp2_with fail
        refine wp_region_noPanic ?_
        refine wp_regionT (S := fun w' => w'.cell? ⟨w.heap.size + 2, 6, none⟩ = some (.slice Au j cu) ∧ Box7 w' wr.heap.size (.int .i64 y.kind) (.int .i64 y.num) (.slice A3e y.index.coefs.length c3e) (.int .i64 y.index.const) (.string y.read.arr) (.slice A6e y.read.subs.length c6e) (.slice A7e y.kids.length c7e)) 8 (by kernel_rfl) (⟨by go_simp, by go_simp, by go_simp, by go_simp, by go_simp, by go_simp, by go_simp, by go_simp⟩) (fun hHeld => ?_)
        refine goU 0 (fun _ => hHeld) ?_
        refine goT 1 hHeld ?_
        refine goT 2 hHeld ?_
        refine goU 3 (fun _ => hHeld) ?_
        refine readyT (rs := [4]) (by kernel_rfl) (by simp) (all1 ?_)
        refine opT (i := 4) rfl (wanted_none rfl) (fun K hK => ?_)
        go_simp
        (refine (HRJ.out _ _ _ N (Ge.out.below bel) HNE.out (by go_simp) (by go_simp) HAJ.out).mono ?_; rintro e w1 ⟨a2, n2, c2, k3, s4, a5, n5, c5, a6, n6, c6_, rfl, q1, q2, t1⟩; have hz1 := t1.size; (try simp at hz1); have T1 : Touch [g] wr w1 := (Touch.of_below (bs := [g]) (show Below wr.heap.size wr _ from bel)).trans t1)
        go_wp2_with fail
        refine hK.out _ _ (⟨t1.cellV hHeld.1 (by simp; omega), hHeld.2.touch t1 (by simp; omega)⟩) (fun hHeld => ?_)
        clear hK K
        try simp only [Act.put, List.setIfInBounds_toArray, List.set_cons_zero, List.set_cons_succ]
        refine readyT (rs := [5]) (by kernel_rfl) (by simp) (all1 ?_)
        refine opT (i := 5) rfl (wanted_none rfl) (fun K hK => ?_)
        (unfold Oper.wp; go_simp)
        refine hK.out _ _ (⟨cell_alM hHeld.1, hHeld.2.to ((Below.refl _ _).alloc (Nat.le_refl _) _)⟩) (fun hHeld => ?_)
        clear hK K
        try simp only [Act.put, List.setIfInBounds_toArray, List.set_cons_zero, List.set_cons_succ]
        refine readyT (rs := [6]) (by kernel_rfl) (by simp) (all1 ?_)
        refine opT (i := 6) rfl (wanted_none rfl) (fun K hK => ?_)
        (have O1 : OwnW (w1.alloc (.cells #[.int .i64 y.kind, .int .i64 y.num, .slice a2 n2 c2, .int .i64 k3, .string s4, .slice a5 n5 c5, .slice a6 n6 c6_] 50)) wc.heap.size 50 7 (.slice Au j cu) j := (HG.out.touch T1 (by simp; omega)).below ((Below.refl _ _).alloc (Nat.le_refl _) _); refine wp_append_raw (.tmp 37) (.tmp 41) _ rfl _ Try.underlying48 Try.infoEx rfl (by decide) rfl O1 (news := [.int .i64 y.kind, .int .i64 y.num, .slice a2 n2 c2, .int .i64 k3, .string s4, .slice a5 n5 c5, .slice a6 n6 c6_]) rfl (new_cellsM _ [_, _, _, _, _, _, _] _ (by simp)) rfl ?hone ?hlen ?hbs ?_; (case hone => (intro u hu; simp only [List.mem_cons, List.not_mem_nil, or_false] at hu; rcases hu with rfl | rfl | rfl | rfl | rfl | rfl | rfl <;> rfl)); (case hlen => omega); (case hbs => (simp; omega)); intro v2_ w4 hG4 hg4; have HG4 := Lib.hid hG4; obtain ⟨A4, c4, hf4⟩ := hG4.form; subst hf4; have TA : Touch [g] wr (w1.alloc (.cells #[.int .i64 y.kind, .int .i64 y.num, .slice a2 n2 c2, .int .i64 k3, .string s4, .slice a5 n5 c5, .slice a6 n6 c6_] 50)) := T1.trans (Touch.of_below ((Below.refl _ _).alloc (Nat.le_refl _) _)); have hgo : g ∉ ownL (.slice Au j cu) := (fun hm => by have := (HOW.out _ (mem_ownL.1 hm)).1; omega); have hg2 : w.heap.size + 2 ∉ ownL (.slice Au j cu) := (fun hm => by have := (HOW.out _ (mem_ownL.1 hm)).1; omega); have Q1 := hg4.touch.cellV (cell_alM q1) hgo; have Q2 : w4.frozen? ⟨g, 0, none⟩ = false := ((hg4.touch.frozen (by simp; omega) hgo).trans (by rw [((Below.refl w1.heap.size w1).alloc (Nat.le_refl _) _).frozen (show g < w1.heap.size by omega)]; exact q2)); have hz4 := TA.size; have hz5 := hg4.touch.size; have XR := Lib.hid ((HO2.out.tch TA lo (by simp; omega)).tch hg4.touch (by omega) hg2); have XB := XR.out.box7; have XF := XR.out.frozen 6; have xlt := lt_of_cell XB.1; have HT4 := Lib.hid ((HTC.out.trans (TA.mono (bs' := [w.heap.size + 2, g]) (by simp))).grew hg4 (fun b hb => (HOW.out b hb).1)); rw [← HT.out] at Q1)
        refine hK.out _ _ (⟨hg4.touch.cellV hHeld.1 (fun hm => by have := (HOW.out _ (mem_ownL.1 hm)).1; omega), hHeld.2.touch hg4.touch (fun hm => by have := (HOW.out _ (mem_ownL.1 hm)).2; omega)⟩) (fun hHeld => ?_)
        clear hK K
        try simp only [Act.put, List.setIfInBounds_toArray, List.set_cons_zero, List.set_cons_succ]
        refine goU 7 (fun _ => hHeld) ?_
        refine readyT (rs := [8]) (by kernel_rfl) (by simp) (all1 ?_)
        refine opTT (i := 8) rfl (wanted_none rfl) (by kernel_rfl) (fun K hK => ?_)
        (unfold Oper.wp; go_simp)
        refine hK.out _ _ ?_
        clear hK K
        try simp only [Act.put, List.setIfInBounds_toArray, List.set_cons_zero, List.set_cons_succ]
        refine wpAnyT_done (by kernel_rfl) ?_ _
        refine NoPanic.normal ?_
        (go_wp2; go_roundw; (case rel => exact ⟨j + 1, _, by omega, by go_num, XR.out.set 6 _, HG4.out.set_low (p := ⟨w.heap.size + 2, 6, none⟩) hgO _, HT4.out.setCell (by first | (simp; done) | (simp; omega)) _, set_cellN Q1 (by omega), by rw [World.frozen?_setCell]; exact Q2⟩); (case measure => (simp [intOf]; omega)))
      · have hjj : j = x.kids.length := by omega
        subst hjj
        rw [List.take_length, ← HEQ.out] at hr1
        have HZr := Lib.hid (HZ.out.tch HTC.out (by omega) (by simp; omega))
        obtain ⟨o0, o1, o2, o3, o4, o5, o6⟩ := HO2.out.box7
        obtain ⟨z0, z1, z2, z3, z4, z5, z6⟩ := HZr.out.box7
        have f0 := HZr.out.frozen 0
        have f1 := HZr.out.frozen 1
        have f2 := HZr.out.frozen 2
        have f3 := HZr.out.frozen 3
        have f4 := HZr.out.frozen 4
        have f5 := HZr.out.frozen 5
        have f6 := HZr.out.frozen 6
        have lz := lt_of_cell z0
        have lo := lt_of_cell o0
        go_wp2
        obtain ⟨Wf, hWf⟩ : ∃ Wf, Wf = (((((((wr.setCell ⟨w.heap.size + 1, 0, none⟩ (.int .i64 x.kind)).setCell ⟨w.heap.size + 1, 1, none⟩ (.int .i64 x.num)).setCell ⟨w.heap.size + 1, 2, none⟩ (.slice AI nI cI)).setCell ⟨w.heap.size + 1, 3, none⟩ (.int .i64 kI)).setCell ⟨w.heap.size + 1, 4, none⟩ (.string sR)).setCell ⟨w.heap.size + 1, 5, none⟩ (.slice AR nR cR)).setCell ⟨w.heap.size + 1, 6, none⟩ (.slice Au x.kids.length cu)) := ⟨_, rfl⟩
        have RF := (((((((HZr.out.set 0 (.int .i64 x.kind)).set 1 (.int .i64 x.num)).set 2 (.slice AI nI cI)).set 3 (.int .i64 kI)).set 4 (.string sR)).set 5 (.slice AR nR cR)).set 6 (.slice Au x.kids.length cu))
        simp only [List.set_cons_zero, List.set_cons_succ] at RF
        have hne : g ≠ w.heap.size + 1 := by omega
        have RN : Ran w g (depEx n x) Wf := by
          subst hWf
          refine ⟨?_, ?_, ?_⟩
          · repeat (refine set_cellN ?_ hne)
            exact hr1
          · simp only [World.frozen?_setCell]; exact hr2
          · refine HTR.out.then ?_
            have hle : w.heap.size ≤ w.heap.size + 1 := by omega
            exact (((((((Below.refl _ _).setCell hle _).setCell hle _).setCell hle _).setCell hle _).setCell hle _).setCell hle _).setCell hle _
        rw [← hWf] at RF ⊢
        clear hWf
        obtain ⟨y0, y1, y2, y3, y4, y5, y6⟩ := RF.box7
        refine bodyPost_ret (v := .agg #[.int .i64 x.kind, .int .i64 x.num, .slice AI nI cI, .int .i64 kI, .string sR, .slice AR nR cR, .slice Au x.kids.length cu]) ?_ rfl ⟨AI, nI, cI, kI, sR, AR, nR, cR, Au, _, cu, rfl, RN⟩
        simp [results, Try.results80, go_sem, y0, y1, y2, y3, y4, y5, y6]
theorem depEx_c {g : Nat} (x : Ex) : DepX g x := Ex.ind (P := DepX g) (fun _ hx => depEx_r hx) x
end Go.Proofs.Ytadmmlflngkpiaa

/- The depth of a statement: StmtDepth of both sides. -/
namespace Go.Proofs.Ytadmmlflngkpiaa
open Go.ChangeShapes Go.WideShapes Go.ChangeAt Go.RowKit Go.Deep

theorem store9d {W Wf : World} {g : Nat} {z0 z1 z2 z3 z4 z5 z6 z7 z8 v0 v1 v2 v3 v4 v5 v6 v7 v8 : Value} (h : Box9 W g z0 z1 z2 z3 z4 z5 z6 z7 z8)
    (hW : Wf = ((((((((W.setCell ⟨g, 0, none⟩ v0).setCell ⟨g, 1, none⟩ v1).setCell ⟨g, 2, none⟩ v2).setCell ⟨g, 3, none⟩ v3).setCell ⟨g, 4, none⟩ v4).setCell ⟨g, 5, none⟩ v5).setCell ⟨g, 6, none⟩ v6).setCell ⟨g, 7, none⟩ v7).setCell ⟨g, 8, none⟩ v8) :
    Box9 Wf g v0 v1 v2 v3 v4 v5 v6 v7 v8 ∧ (∀ (w0 : World) (N : Nat), Below N w0 W → N ≤ g → Below N w0 Wf) ∧ (∀ (p : Nat) (u : Value), p ≠ g → W.cell? ⟨p, 0, none⟩ = some u → Wf.cell? ⟨p, 0, none⟩ = some u) ∧ (∀ p : Addr, Wf.frozen? p = W.frozen? p) := by
  obtain ⟨h0, h1, h2, h3, h4, h5, h6, h7, h8⟩ := h
  refine ⟨?_, fun w0 N hb hN => ?_, fun p u hp hc => ?_, fun p => ?_⟩
  · subst hW
    refine ⟨?_, ?_, ?_, ?_, ?_, ?_, ?_, ?_, ?_⟩ <;> go_simp
  · subst hW
    exact ((((((((hb.setCell hN _).setCell hN _).setCell hN _).setCell hN _).setCell hN _).setCell hN _).setCell hN _).setCell hN _).setCell hN _
  · subst hW
    repeat (refine set_cellN ?_ hp)
    exact hc
  · subst hW; simp only [World.frozen?_setCell]
def StmtDepthF (x : Stm) : Int := if StmtValidF x 4 then (depStm x : Nat) else 0
theorem StmtDepthF_y {x : Stm} (h : StmtValidF x 4 = true) : StmtDepthF x = (depStm x : Nat) := by unfold StmtDepthF; rw [h]; rfl
theorem StmtDepthF_n {x : Stm} (h : StmtValidF x 4 = false) : StmtDepthF x = 0 := by unfold StmtDepthF; rw [h]; rfl
set_option maxRecDepth 100000 in
set_option maxHeartbeats 8000000 in
theorem depStmMap_c {w : World} {x : Stm} {cs : List Value} {bs : List Nat} {g n : Nat} (h : Rep w x.d cs bs) (hl : x.write.subs.length ≤ 1000000) (hx : exAll affOk x.value = true) (hgb : g ∉ bs) (hgc : w.cell? ⟨g, 0, none⟩ = some (.int .i64 n)) (hgf : w.frozen? ⟨g, 0, none⟩ = false) :
    Calls Try.prog 48 #[.agg cs.toArray, .func (.func 49) #[] #[.pointer (some ⟨g, 0, none⟩)]] w fun e w' => ∃ v, e = .returned v ∧ Ran w g (depEx (depL n x.write.subs) x.value) w' := by
  have HX := Lib.hid hx; clear hx
  have lg := lt_of_cell hgc
  have HGB := Lib.hid hgb; clear hgb
  obtain ⟨A2, c2, A5, c5, A8, c8, A9, c9, d2, d5, d8, d9, rfl, rfl, g1, g2, g3, g4, g5, g6, g7, g8, g9⟩ := Rep.stm_iff.1 h
  have Gwrite := Lib.hid ((Rep.acc_iff (x := x.write)).2 ⟨_, _, _, rfl, rfl, g1, g2⟩)
  have Gvalue := Lib.hid ((Rep.ex_iff (x := x.value)).2 ⟨_, _, _, _, _, _, _, _, _, rfl, rfl, g3, g4, g5, g6, g7, g8, g9⟩)
  clear h g1 g2 g3 g4 g5 g6 g7 g8 g9
  have HN := Lib.hid (show g ∉ d2 ∧ g ∉ d5 ++ d8 ++ d9 by have := HGB.out; simp only [List.mem_append, not_or] at this ⊢; exact ⟨this.1.1.1, ⟨this.1.1.2, this.1.2⟩, this.2⟩)
  clear HGB
  have b0 : Below w.heap.size w ((w.alloc (.cells #[.string x.write.arr, .slice A2 x.write.subs.length c2, .int .i64 x.value.kind, .int .i64 x.value.num, .slice A5 x.value.index.coefs.length c5, .int .i64 x.value.index.const, .string x.value.read.arr, .slice A8 x.value.read.subs.length c8, .slice A9 x.value.kids.length c9] 52)).alloc (.cells #[.string ⟨#[]⟩, .slice none 0 0, .int .i64 0, .int .i64 0, .slice none 0 0, .int .i64 0, .string ⟨#[]⟩, .slice none 0 0, .slice none 0 0] 52)) := bel
  have HZ0 := Lib.hid (Row.new2 w [.string x.write.arr, .slice A2 x.write.subs.length c2, .int .i64 x.value.kind, .int .i64 x.value.num, .slice A5 x.value.index.coefs.length c5, .int .i64 x.value.index.const, .string x.value.read.arr, .slice A8 x.value.read.subs.length c8, .slice A9 x.value.kids.length c9] [.string ⟨#[]⟩, .slice none 0 0, .int .i64 0, .int .i64 0, .slice none 0 0, .int .i64 0, .string ⟨#[]⟩, .slice none 0 0, .slice none 0 0] 52)
  go_enter Try.func48, Try.ntmps48
  go_wp2_with fail
  refine wp_region_noPanic ?_
  refine wp_regionT (S := fun w' => Box9 w' w.heap.size (.string x.write.arr) (.slice A2 x.write.subs.length c2) (.int .i64 x.value.kind) (.int .i64 x.value.num) (.slice A5 x.value.index.coefs.length c5) (.int .i64 x.value.index.const) (.string x.value.read.arr) (.slice A8 x.value.read.subs.length c8) (.slice A9 x.value.kids.length c9)) 9 (by kernel_rfl) (⟨by go_simp, by go_simp, by go_simp, by go_simp, by go_simp, by go_simp, by go_simp, by go_simp, by go_simp⟩) (fun hHeld => ?_)
  refine goU 0 (fun _ => hHeld) ?_
  refine goT 1 hHeld ?_
  refine goU 2 (fun _ => hHeld) ?_
  refine goU 4 (fun _ => hHeld) ?_
  refine goT 5 hHeld ?_
  refine goU 6 (fun _ => hHeld) ?_
  refine readyT (rs := [3]) (by kernel_rfl) (by simp) (all1 ?_)
  refine opT (i := 3) rfl (wanted_none rfl) (fun K hK => ?_)
  go_simp
  (refine (depAcc_c (n := n) (g := g) (Gwrite.out.below bel) hl HN.out.1 (((show Below w.heap.size w _ from bel).cell lg).trans hgc) (((show Below w.heap.size w _ from bel).frozen (p := ⟨g, 0, none⟩) lg).trans hgf)).mono ?_; rintro e w3 ⟨Y1, m1, y1, rfl, q1, q2, t1⟩)
  go_wp2_with fail
  refine hK.out _ _ (hHeld.touch t1 (by simp; omega)) (fun hHeld => ?_)
  clear hK K
  try simp only [Act.put, List.setIfInBounds_toArray, List.set_cons_zero, List.set_cons_succ]
  refine readyT (rs := [7]) (by kernel_rfl) (by simp) (all1 ?_)
  refine opT (i := 7) rfl (wanted_none rfl) (fun K hK => ?_)
  go_simp
  (refine (depEx_c x.value _ _ _ (depL n x.write.subs) ((Gvalue.out.below (show Below w.heap.size w _ from bel)).tch t1 HN.out.2) HN.out.2 q1 q2 HX.out).mono ?_; rintro e w7 ⟨X3, n3, z3, k4, s5, X6, n6, z6, X7, n7, z7, rfl, q3, q4, t2⟩; have hz1 := t1.size; simp at hz1; have HZ := Lib.hid ((HZ0.out.of_block (t1.block (w.heap.size + 1) (by simp) (by simp; omega))).tch t2 (by omega) (by simp; omega)); obtain ⟨q0, q1, q2, q3_, q4_, q5, q6, q7, q8⟩ := HZ.out.box9; have f0 := HZ.out.frozen 0; have f1 := HZ.out.frozen 1; have f2 := HZ.out.frozen 2; have f3 := HZ.out.frozen 3; have f4 := HZ.out.frozen 4; have f5 := HZ.out.frozen 5; have f6 := HZ.out.frozen 6; have f7 := HZ.out.frozen 7; have f8 := HZ.out.frozen 8; have lz := lt_of_cell q0; have TW : Touch [g] w w7 := ((Touch.of_below (bs := [g]) (show Below w.heap.size w _ from bel)).trans t1).trans t2)
  go_wp2_with fail
  refine hK.out _ _ (hHeld.touch t2 (by simp; omega)) (fun hHeld => ?_)
  clear hK K
  try simp only [Act.put, List.setIfInBounds_toArray, List.set_cons_zero, List.set_cons_succ]
  refine goU 8 (fun _ => hHeld) ?_
  refine readyT (rs := [9]) (by kernel_rfl) (by simp) (all1 ?_)
  refine opTT (i := 9) rfl (wanted_none rfl) (by kernel_rfl) (fun K hK => ?_)
  (unfold Oper.wp; go_simp)
  refine hK.out _ _ ?_
  clear hK K
  try simp only [Act.put, List.setIfInBounds_toArray, List.set_cons_zero, List.set_cons_succ]
  refine wpAnyT_done (by kernel_rfl) ?_ _
  refine NoPanic.normal ?_
  (skip)
  go_wp2
  obtain ⟨Wf, hWf⟩ : ∃ Wf, Wf = (((((((((w7.setCell ⟨w.heap.size + 1, 0, none⟩ (.string x.write.arr)).setCell ⟨w.heap.size + 1, 1, none⟩ (.slice Y1 m1 y1)).setCell ⟨w.heap.size + 1, 2, none⟩ (.int .i64 x.value.kind)).setCell ⟨w.heap.size + 1, 3, none⟩ (.int .i64 x.value.num)).setCell ⟨w.heap.size + 1, 4, none⟩ (.slice X3 n3 z3)).setCell ⟨w.heap.size + 1, 5, none⟩ (.int .i64 k4)).setCell ⟨w.heap.size + 1, 6, none⟩ (.string s5)).setCell ⟨w.heap.size + 1, 7, none⟩ (.slice X6 n6 z6)).setCell ⟨w.heap.size + 1, 8, none⟩ (.slice X7 n7 z7)) := ⟨_, rfl⟩
  rw [← hWf]
  obtain ⟨⟨p0, p1, p2, p3, p4, p5, p6, p7, p8⟩, BF, CF, FF⟩ := store9d HZ.out.box9 hWf
  clear hWf
  refine bodyPost_ret (v := .agg #[.string x.write.arr, .slice Y1 m1 y1, .int .i64 x.value.kind, .int .i64 x.value.num, .slice X3 n3 z3, .int .i64 k4, .string s5, .slice X6 n6 z6, .slice X7 n7 z7]) ?_ rfl ⟨_, rfl, CF _ _ (by omega) q3, (FF _).trans q4, TW.then (BF _ _ (Below.refl _ _) (by omega))⟩
  simp [results, Try.results48, go_sem, p0, p1, p2, p3, p4, p5, p6, p7, p8]
set_option maxRecDepth 100000 in
set_option maxHeartbeats 4000000 in
theorem implStmtDepth_c {w : World} {x : Stm} {cs : List Value} {bs : List Nat} (h : Rep w x.d cs bs) :
    Calls Try.prog 18 #[.agg cs.toArray] w fun e w' => e = .returned (.int .i64 (StmtDepthF x)) ∧ Below w.heap.size w w' := by
  have HH := Lib.hid h
  have HLT := Lib.hid (Rep.lt _ h)
  obtain ⟨A2, c2, A5, c5, A8, c8, A9, c9, d2, d5, d8, d9, rfl, rfl, g1, g2, g3, g4, g5, g6, g7, g8, g9⟩ := Rep.stm_iff.1 h
  have Gwrite := Lib.hid ((Rep.acc_iff (x := x.write)).2 ⟨_, _, _, rfl, rfl, g1, g2⟩)
  have Gvalue := Lib.hid ((Rep.ex_iff (x := x.value)).2 ⟨_, _, _, _, _, _, _, _, _, rfl, rfl, g3, g4, g5, g6, g7, g8, g9⟩)
  clear h g1 g2 g3 g4 g5 g6 g7 g8 g9
  go_enter Try.func18, Try.ntmps18
  go_wp2_with fail
  refine (isStmt_c (HH.out.below bel)).mono ?_
  rintro e w1 ⟨rfl, b1⟩
  have P1 : Box9 w1 w.heap.size (.string x.write.arr) (.slice A2 x.write.subs.length c2) (.int .i64 x.value.kind) (.int .i64 x.value.num) (.slice A5 x.value.index.coefs.length c5) (.int .i64 x.value.index.const) (.string x.value.read.arr) (.slice A8 x.value.read.subs.length c8) (.slice A9 x.value.kids.length c9) := by
    refine ⟨?_, ?_, ?_, ?_, ?_, ?_, ?_, ?_, ?_⟩ <;> (rw [b1.cell (by simp [World.setCell]; try omega)]; go_simp)
  have S1 : Below w.heap.size w w1 := bel
  clear b1
  have hz := S1.size
  have lp := lt_of_cell P1.1
  cases hv : StmtValidF x 4 with
  | false =>
    have HE := Lib.hid (StmtDepthF_n hv); clear hv
    go_wp2
    go_ret
    rw [HE.out]
    exact ⟨rfl, S1⟩
  | true =>
    have HE := Lib.hid (StmtDepthF_y hv)
    have HS := Lib.hid (stm_ok hv)
    clear hv
    go_wp2_with fail
    refine (depStmMap_c (n := 0) (g := w1.heap.size) (HH.out.below bel) HS.out.2.1 HS.out.2.2 (fun hm => by have := HLT.out _ hm; omega) (by go_simp) (by go_simp)).mono ?_
    rintro e w2 ⟨v, rfl, q1, q2, t1⟩
    have lq := lt_of_cell q1
    have BT : Below w.heap.size w w2 := (show Below w.heap.size w _ from bel).trans (t1.below (by simp; omega) (by simp; omega))
    go_wp2
    go_ret
    rw [HE.out]
    exact ⟨rfl, BT⟩
set_option maxRecDepth 100000 in
set_option maxHeartbeats 4000000 in
theorem specStmtDepth_c {w : World} {x : Stm} {cs : List Value} {bs : List Nat} (h : Rep w x.d cs bs) :
    Calls Try.prog 16 #[.agg cs.toArray] w fun e w' => e = .returned (.int .i64 (StmtDepthF x)) ∧ Below w.heap.size w w' := by
  have HH := Lib.hid h
  obtain ⟨A2, c2, A5, c5, A8, c8, A9, c9, d2, d5, d8, d9, rfl, rfl, g1, g2, g3, g4, g5, g6, g7, g8, g9⟩ := Rep.stm_iff.1 h
  have Gwrite := Lib.hid ((Rep.acc_iff (x := x.write)).2 ⟨_, _, _, rfl, rfl, g1, g2⟩)
  have Gvalue := Lib.hid ((Rep.ex_iff (x := x.value)).2 ⟨_, _, _, _, _, _, _, _, _, rfl, rfl, g3, g4, g5, g6, g7, g8, g9⟩)
  clear h g1 g2 g3 g4 g5 g6 g7 g8 g9
  go_enter Try.func16, Try.ntmps16
  go_wp2_with fail
  refine (specStmtValid_c (HH.out.below bel)).mono ?_
  rintro e w1 ⟨rfl, b1⟩
  have P1 : Box9 w1 w.heap.size (.string x.write.arr) (.slice A2 x.write.subs.length c2) (.int .i64 x.value.kind) (.int .i64 x.value.num) (.slice A5 x.value.index.coefs.length c5) (.int .i64 x.value.index.const) (.string x.value.read.arr) (.slice A8 x.value.read.subs.length c8) (.slice A9 x.value.kids.length c9) := by
    refine ⟨?_, ?_, ?_, ?_, ?_, ?_, ?_, ?_, ?_⟩ <;> (rw [b1.cell (by simp [World.setCell]; try omega)]; go_simp)
  have S1 : Below w.heap.size w w1 := bel
  clear b1
  have hz := S1.size
  cases hv : StmtValidF x 4 with
  | false =>
    have HE := Lib.hid (StmtDepthF_n hv); clear hv
    go_wp2
    go_ret
    rw [HE.out]
    exact ⟨rfl, S1⟩
  | true =>
    have HE := Lib.hid (StmtDepthF_y hv)
    have HD := Lib.hid (show depStm x ≤ 4 ∧ ∀ k : Nat, k ≤ 4 → (StmtValidF x (k : Int) = true ↔ depStm x ≤ k) from ⟨stm_dep4 hv, fun k hk => stm_dep hv hk⟩)
    clear hv
    go_wp2
    go_loopw [3] (fun i wr => ∃ j : Nat, j ≤ depStm x ∧ i = .int .i64 j ∧ Box9 wr w.heap.size (.string x.write.arr) (.slice A2 x.write.subs.length c2) (.int .i64 x.value.kind) (.int .i64 x.value.num) (.slice A5 x.value.index.coefs.length c5) (.int .i64 x.value.index.const) (.string x.value.read.arr) (.slice A8 x.value.read.subs.length c8) (.slice A9 x.value.kids.length c9) ∧ Below w.heap.size w wr) (fun i _ => 4 - (intOf i).toNat)
    case atStart => exact ⟨0, Nat.zero_le _, rfl, P1, S1⟩
    case round =>
      clear P1 S1
      obtain ⟨j, hj, rfl, Pr, hb⟩ := hrel
      have hj4 : j ≤ 4 := Nat.le_trans hj HD.out.1
      have lp := lt_of_cell Pr.1
      by_cases hlt : j < 4
      · go_wp2_with fail
        refine (specStmtValid_c (x := x) (HH.out.below bel)).mono ?_
        rintro e w2 ⟨rfl, b2⟩
        cases hv : StmtValidF x (j : Int) with
        | true =>
          have HJ := Lib.hid (show (depStm x : Int) = j by have := (HD.out.2 j hj4).1 hv; omega)
          clear hv
          go_wp2
          go_ret
          rw [HE.out, HJ.out]
          exact ⟨rfl, bel⟩
        | false =>
          have HJ : j + 1 ≤ depStm x := by
            rcases Nat.lt_or_ge j (depStm x) with h | h
            · exact h
            · rw [(HD.out.2 j hj4).2 h] at hv; cases hv
          clear hv
          have P2 := Pr.to (show Below wr.heap.size wr w2 from bel)
          have S2 : Below w.heap.size w w2 := bel
          go_wp2
          go_roundw
          case rel => exact ⟨j + 1, HJ, by go_num, P2, S2⟩
          case measure => (simp [intOf]; omega)
      · have HJ := Lib.hid (show (depStm x : Int) = j by have := HD.out.1; omega)
        go_wp2
        go_ret
        rw [HE.out, HJ.out]
        exact ⟨rfl, bel⟩
end Go.Proofs.Ytadmmlflngkpiaa
