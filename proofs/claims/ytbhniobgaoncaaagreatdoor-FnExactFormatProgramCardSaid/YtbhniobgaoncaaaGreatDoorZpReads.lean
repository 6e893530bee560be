/- The accesses that an expression reads: reads of the program. The elements' own blocks are the expression's. -/
import Derived.Test.YtbhniobgaoncaaaGreatDoorZpCells
import Derived.Test.YtbhniobgaoncaaaGreatDoorZpBasic
import Derived.Test.YtbhniobgaoncaaaGreatDoorZpSqAccess
set_option linter.all false
set_option linter.unusedSimpArgs false
set_option linter.unusedVariables false
namespace Go.Proofs.YtbhniobgaoncaaaGreatDoor
open Go.ChangeShapes Go.WideShapes Go.ChangeAt Go.RowKit Go.Deep

/-- v is a slice of the call's own, made since the heap had B blocks; the blocks of its elements are S's, in S's order -/
def GrowR (w : World) (B : Nat) (e : TypeId) (size : Nat) (v : Value) (xs : List D) (S : List Nat) : Prop :=
  ∃ es cb, w.ownsRow B e size v xs.length es ∧ Reps w xs es cb ∧ List.Sublist cb S
section
variable {P : Program} {w w' : World} {B : Nat} {e : TypeId} {size : Nat} {v : Value} {xs : List D} {S T : List Nat}
theorem GrowR.nil (w : World) (B : Nat) (e : TypeId) (size : Nat) : GrowR w B e size (.slice none 0 0) [] [] :=
  ⟨[], [], ⟨by simp, .inl ⟨rfl, rfl⟩⟩, ⟨rfl, rfl⟩, by simp⟩
theorem GrowR.below (h : GrowR w B e size v xs S) (hb : Below w.heap.size w w') : GrowR w' B e size v xs S := by
  obtain ⟨es, cb, h1, h2, h3⟩ := h
  exact ⟨es, cb, own_kept h1 hb.size fun g _ hl => hb.block g hl, Reps.keep _ h2 ⟨hb.size, fun y hy => hb.block y (Reps.lt _ h2 y hy)⟩, h3⟩
theorem GrowR.rep (h : GrowR w B e size v xs S) : ∃ A c bs, v = .slice A xs.length c ∧ Rep w (.sl xs) [.slice A xs.length c] bs ∧ List.Sublist bs.tail S ∧ ∀ y ∈ bs.head?, B ≤ y := by
  obtain ⟨es, cb, h1, h2, h3⟩ := h
  obtain ⟨A, c, bs, rfl, h6, h7⟩ := Rep.of_own h1 rfl h2
  refine ⟨A, c, bs, rfl, h6, ?_⟩
  rcases h7 with ⟨_, rfl⟩ | ⟨g, rfl, hg, _⟩
  · exact ⟨by simp, by simp⟩
  · refine ⟨h3, fun y hy => ?_⟩
    simp only [List.head?_cons, Option.mem_some_iff] at hy
    rw [← hy]; exact hg
theorem GrowR.form (h : GrowR w B e size v xs S) : ∃ A c, v = .slice A xs.length c ∧ xs.length ≤ c ∧ c ≤ maxLen := by
  obtain ⟨A, c, bs, rfl, h6, _⟩ := h.rep
  obtain ⟨h1, h2, h3⟩ := h6.sl_len
  exact ⟨A, c, rfl, h2, h3⟩
theorem GrowR.own_ge (h : GrowR w B e size v xs S) : ∀ b, v.ownBlock = some b → B ≤ b ∧ b < w.heap.size := by
  obtain ⟨es, cb, h1, _⟩ := h
  exact fun b hb => own_lt' h1 hb
theorem run_append_moreR (w : World) (t ty : TypeId) (i : TypeInfo) (z : Value) (bytes : Nat) (ht : P.underlying t = some (.slice e)) (hi : P.info? e = some i) (hz : i.zero = some z)
    (hsize : i.size = size) (hby : i.bytes = bytes) (hzs : z.cells.size = size) (hsz : 0 < size) (hG : GrowR w B e size v xs S) {ys : List D} {A : Option Addr} {m c : Nat} {bs : List Nat}
    (hr : Rep w (.sl ys) [.slice A m c] bs) (hs : ∀ y ∈ ys, y.size = size) (hT : List.Sublist bs.tail T) (hST : ∀ y ∈ S ++ T, y < B)
    (h63 : xs.length + ys.length ≤ 100000000000) (hbytes : bytes ≤ 1024) (hbase : B ≤ w.heap.size) :
    ∃ v' w', (Builtin.append_ #[t, t] ty #[v, .slice A m c]).run P w = .ok v' w' ∧ GrowR w' B e size v' (xs ++ ys) (S ++ T) ∧ Grew w w' v v' := by
  have hG1 := hG
  obtain ⟨es, cb, hown, q2, q3⟩ := hG
  obtain ⟨A', c', es2, cb2, he, hc1, hc2, hreps, h0⟩ := hr
  simp only [List.cons.injEq, Value.slice.injEq] at he
  obtain ⟨⟨rfl, rfl, rfl⟩, _⟩ := he
  rcases h0 with ⟨rfl, rfl⟩ | ⟨b, o, rfl, rfl, hb, hcell⟩
  · obtain ⟨Av, cv, hv, hle, hcm⟩ := hG1.form
    obtain ⟨ees, _⟩ := hreps
    refine ⟨v, w, ?_, by
      obtain ⟨es, cb, a1, a2, a3⟩ := hG1
      exact ⟨es, cb, by simpa using a1, by simpa using a2, a3.trans (List.sublist_append_left _ _)⟩, Grew.refl _ _⟩
    rw [hv]
    refine run_append_nothing w t t ty e i ht hi Av xs.length cv hle _ ?_
    rcases A with _ | ad
    · exact Src.ofNil w ht c
    · exact Src.ofSlice w ht ad 0 c [] (by simp) (by simp) (by simp)
  · have hl2 : es2.length = ys.length * size := by rw [Reps.length _ hreps, sizes_eq ys hs]
    obtain ⟨v', w', hrun, h2, h3, _, h5⟩ := run_append_own_at (P := P) w B t ty e i z size bytes ht hi hz hsize hby hzs hsz v xs.length es hown ⟨b, o, none⟩ ys.length c es2 hl2
      (fun j u hu => by rw [add_none]; exact (hcell j u hu).1) (Reps.one _ hreps) (by unfold maxLen; omega) (by have := Nat.mul_le_mul h63 hbytes; omega) hbase
    have hblk : ∀ y, y < w.heap.size → v.ownBlock ≠ some y → w'.heap[y]? = w.heap[y]? := fun y hy hne => h3.block y hy (fun e => hne e.symm)
    simp only [List.tail_cons] at hT
    have hlow : ∀ y, y < B → v.ownBlock ≠ some y := fun y hy e => by have := (own_lt' hown e).1; omega
    refine ⟨v', w', hrun, ⟨es ++ es2, cb ++ cb2, by simpa using h2, ?_, q3.append hT⟩, ⟨h3.os, h3.tape, h3.output, h3.size, fun y hy hm => hblk y hy fun e => hm (mem_ownL.2 e)⟩, fun y hy => ?_⟩
    · refine (Reps_append xs ys).2 ⟨es, es2, cb, cb2, rfl, rfl, Reps.keep _ q2 ⟨h3.size, fun y hy => ?_⟩, Reps.keep _ hreps ⟨h3.size, fun y hy => ?_⟩⟩
      · exact hblk y (Reps.lt _ q2 y hy) (hlow y (hST y (List.mem_append_left _ (q3.subset hy))))
      · exact hblk y (Reps.lt _ hreps y hy) (hlow y (hST y (List.mem_append_right _ (hT.subset hy))))
    · rcases h5 with h5 | h5
      · rw [h5] at hy; exact .inl hy
      · rw [h5] at hy
        have : w.heap.size = y := by simpa using hy
        exact .inr (by omega)
theorem wp_append_moreR {o : Oper} {a : Act} {K : Act → World → Prop} {Q : Exit → Act → World → Prop} (s x : Operand) (t : TypeId)
    (ho : o.op = .call { callee := .builtin .append, args := #[s, x], argTypes := #[t, t] })
    (z : Value) (ht : P.underlying t = some (.slice e)) (hinfo : (P.info? e).map (fun i => (i.zero, i.size, decide (i.bytes ≤ 1024))) = some (some z, size, true)) (hzs : z.cells.size = size) (hsz : 0 < size) (hs : a.eval s = v) (hG : GrowR w B e size v xs S)
    {ys : List D} {A : Option Addr} {m c : Nat} {bs : List Nat} (hx : a.eval x = .slice A m c) (hr : Rep w (.sl ys) [.slice A m c] bs) (hys : ∀ y ∈ ys, y.size = size) (hT : List.Sublist bs.tail T) (hST : ∀ y ∈ S ++ T, y < B)
    (h63 : xs.length + ys.length ≤ 100000000000) (hbase : B ≤ w.heap.size)
    (h : ∀ v' w', GrowR w' B e size v' (xs ++ ys) (S ++ T) → Grew w w' v v' → K (a.put o.dst v') w') : o.wp P a w K Q := by
  obtain ⟨i, hi, hzz⟩ := Option.map_eq_some_iff.1 hinfo
  simp only [Prod.mk.injEq, decide_eq_true_iff] at hzz
  obtain ⟨v', w', hrun, h2, h3⟩ := run_append_moreR (P := P) w t o.type i z i.bytes ht hi hzz.1 hzz.2.1 rfl hzs hsz hG hr hys hT hST h63 hzz.2.2 hbase
  unfold Oper.wp execOp
  simp only [ho, resolve, invoke, builtin, Sem.run_bind, Sem.run_pure, Result.andThen_ok, List.map_toArray, List.map_cons, List.map_nil, hs, hx, hrun]
  exact h v' w' h2 h3
theorem wpList_append_moreR {ops : Array Oper} {rest : List Oper} {o : Oper} {a : Act} {Q : Exit → Act → World → Prop} (hgd : o.guard = none) (s x : Operand) (t : TypeId)
    (ho : o.op = .call { callee := .builtin .append, args := #[s, x], argTypes := #[t, t] })
    (z : Value) (ht : P.underlying t = some (.slice e)) (hinfo : (P.info? e).map (fun i => (i.zero, i.size, decide (i.bytes ≤ 1024))) = some (some z, size, true)) (hzs : z.cells.size = size) (hsz : 0 < size) (hs : a.eval s = v) (hG : GrowR w B e size v xs S)
    {ys : List D} {A : Option Addr} {m c : Nat} {bs : List Nat} (hx : a.eval x = .slice A m c) (hr : Rep w (.sl ys) [.slice A m c] bs) (hys : ∀ y ∈ ys, y.size = size) (hT : List.Sublist bs.tail T) (hST : ∀ y ∈ S ++ T, y < B)
    (h63 : xs.length + ys.length ≤ 100000000000) (hbase : B ≤ w.heap.size)
    (h : ∀ v' w', GrowR w' B e size v' (xs ++ ys) (S ++ T) → Grew w w' v v' → wpList P ops Q rest (a.put o.dst v') w') : wpList P ops Q (o :: rest) a w :=
  wpList_plain hgd fun _ hK => wp_append_moreR s x t ho z ht hinfo hzs hsz hs hG hx hr hys hT hST h63 hbase fun v' w' h2 h3 => hK _ _ (h v' w' h2 h3)
end

/-- the elements' own blocks lie in the slice's one after the other -/
theorem Reps.parts {w : World} {s : Nat} : (xs : List D) → {es : List Value} → {cb : List Nat} → Reps w xs es cb → (∀ x ∈ xs, x.size = s) →
    ∃ L : List (List Nat), L.length = xs.length ∧ L.flatten = cb ∧ ∀ k (h : k < xs.length), ∃ cs, Rep w xs[k] cs (L.getD k []) ∧ ∀ j u, cs[j]? = some u → es[k * s + j]? = some u
  | [], es, cb, h, _ => ⟨[], rfl, by rw [h.2]; rfl, fun k hk => absurd hk (by simp)⟩
  | x :: xs, es, cb, h, hs => by
    obtain ⟨c1, c2, b1, b2, rfl, rfl, h1, h2⟩ := h
    obtain ⟨L, hl, hf, hk⟩ := Reps.parts xs h2 fun y hy => hs y (List.mem_cons_of_mem _ hy)
    have hx := hs x List.mem_cons_self
    have hlen := Rep.length _ h1
    refine ⟨b1 :: L, by simp [hl], by simp [hf], fun k hk' => ?_⟩
    rcases k with _ | k
    · exact ⟨c1, h1, fun j u hu => by
        rw [Nat.zero_mul, Nat.zero_add, List.getElem?_append_left (by
          rcases Nat.lt_or_ge j c1.length with h | h
          · exact h
          · rw [List.getElem?_eq_none h] at hu; cases hu)]
        exact hu⟩
    · obtain ⟨cs, h3, h4⟩ := hk k (by simpa using hk')
      refine ⟨cs, h3, fun j u hu => ?_⟩
      rw [List.getElem?_append_right (by rw [hlen, hx, Nat.add_mul]; omega), hlen, hx, show (k + 1) * s + j - s = k * s + j by rw [Nat.add_mul]; omega]
      exact h4 j u hu
theorem Rep.sls_parts {α : Type} {w : World} {f : α → D} {xs : List α} {A : Option Addr} {n c s : Nat} {bs : List Nat} (hs : ∀ x, (f x).size = s) (h : Rep w (sls f xs) [.slice A n c] bs) :
    ∃ L : List (List Nat), L.length = xs.length ∧ List.Sublist L.flatten bs ∧ (∀ y ∈ L.flatten, y < w.heap.size) ∧ ∀ k (hk : k < xs.length), ∃ b o cs, A = some ⟨b, o, none⟩ ∧ b < w.heap.size ∧ Rep w (f xs[k]) cs (L.getD k []) ∧ ∀ j u, cs[j]? = some u → w.cell? ⟨b, o + k * s + j, none⟩ = some u := by
  have hlt := Rep.lt _ h
  obtain ⟨A', c', es, cb, he, hc1, hc2, hreps, h0⟩ := h
  simp only [List.cons.injEq, Value.slice.injEq] at he
  obtain ⟨⟨rfl, rfl, rfl⟩, _⟩ := he
  obtain ⟨L, hl, hf, hk⟩ := Reps.parts (s := s) _ hreps fun x hx => by obtain ⟨y, _, rfl⟩ := List.mem_map.1 hx; exact hs y
  rw [List.length_map] at hl
  refine ⟨L, hl, ?_, fun y hy => Reps.lt _ hreps y (by rw [← hf]; exact hy), fun k hk' => ?_⟩
  · rcases h0 with ⟨h0, rfl⟩ | ⟨b, o, rfl, rfl, hb, hcell⟩
    · have : xs = [] := by simpa using h0
      subst this
      have : L = [] := List.eq_nil_of_length_eq_zero hl
      subst this; simp
    · rw [hf]; exact List.sublist_cons_self _ _
  · rcases h0 with ⟨h0, rfl⟩ | ⟨b, o, rfl, rfl, hb, hcell⟩
    · have : xs = [] := by simpa using h0
      subst this; simp at hk'
    · obtain ⟨cs, h3, h4⟩ := hk k (by simpa using hk')
      simp only [List.getElem_map] at h3
      refine ⟨b, o, cs, rfl, hb, h3, fun j u hu => ?_⟩
      have := (hcell _ _ (h4 j u hu)).1
      rwa [← Nat.add_assoc] at this
theorem flatten_take {α : Type} (L : List (List α)) (k : Nat) (h : k < L.length) : (L.take (k + 1)).flatten = (L.take k).flatten ++ L.getD k [] := by
  rw [List.take_succ_eq_append_getElem h, List.flatten_append]; simp [List.getD_eq_getElem?_getD, h]
theorem flatten_take_sub {α : Type} (L : List (List α)) (k : Nat) : List.Sublist (L.take k).flatten L.flatten := by
  have : L.flatten = (L.take k).flatten ++ (L.drop k).flatten := by rw [← List.flatten_append, List.take_append_drop]
  rw [this]; exact List.sublist_append_left _ _

theorem readsF_eq (x : Ex) : readsF x = if x.kind = 3 then [x.read] else readsL x.kids := by cases x; simp only [readsF]
theorem readsL_append : (xs ys : List Ex) → readsL (xs ++ ys) = readsL xs ++ readsL ys
  | [], ys => by simp [readsL]
  | x :: xs, ys => by rw [List.cons_append, readsL, readsL_append xs ys, readsL, List.append_assoc]
theorem readsL_take {xs : List Ex} {k : Nat} (h : k < xs.length) : readsL (xs.take (k + 1)) = readsL (xs.take k) ++ readsF xs[k] := by
  rw [List.take_succ_eq_append_getElem h, readsL_append]; simp [readsL]
theorem readsL_take_le {xs : List Ex} (k : Nat) : (readsL (xs.take k)).length ≤ (readsL xs).length := by
  have : readsL xs = readsL (xs.take k) ++ readsL (xs.drop k) := by rw [← readsL_append, List.take_append_drop]
  rw [this, List.length_append]; omega
theorem Tryz.infoAcc : (Tryz.prog.info? 43).map (fun i => (i.zero, i.size, decide (i.bytes ≤ 1024))) = some (some (.agg #[.string ⟨#[]⟩, .slice none 0 0]), 2, true) := by kernel_rfl

/-- the call answers the accesses xs, their own blocks among bs -/
def ReadsR (w : World) (xs : List Acc) (bs : List Nat) (e : Ending) (w' : World) : Prop :=
  ∃ A c bs', e = .returned (.slice A xs.length c) ∧ Rep w' (sls Acc.d xs) [.slice A xs.length c] bs' ∧ List.Sublist bs'.tail bs ∧ (∀ y ∈ bs'.head?, w.heap.size ≤ y) ∧ Below w.heap.size w w'

theorem one_newN {w : World} {d : D} {cells : List Value} {b : List Nat} {N : Nat} (h : Rep w d cells b) (t : TypeId) (hN : w.heap.size = N) : Rep (w.alloc (.cells cells.toArray t)) (.sl [d]) [.slice (some ⟨N, 0, none⟩) 1 1] (N :: b) := by
  subst hN; exact one_new w h t
def ReadsEx (x : Ex) : Prop := ∀ (w : World) (cs : List Value) (bs : List Nat), (readsF x).length ≤ 1000000 → Rep w x.d cs bs →
    Calls Tryz.prog 183 #[.agg cs.toArray] w (ReadsR w (readsF x) bs)
set_option maxRecDepth 100000 in
set_option maxHeartbeats 4000000 in
theorem reads_r {x : Ex} (hrec : ∀ y ∈ x.kids, ReadsEx y) : ReadsEx x := by
  intro w cs bs hN h
  have HREC := Lib.hid hrec; clear hrec
  have HE := Lib.hid (readsF_eq x)
  have HLT := Lib.hid (Rep.lt _ h)
  obtain ⟨A3, c3, A6, c6, A7, c7, d3, d6, d7, rfl, rfl, g1, g2, g3, g4, g5, g6, g7⟩ := Rep.ex_iff.1 h
  have Gkind := Lib.hid g1
  have Gnum := Lib.hid g2
  have Gindex := Lib.hid ((Rep.aff_iff2 (x := x.index)).2 ⟨_, _, _, rfl, rfl, g3, g4⟩)
  have Gread := Lib.hid ((Rep.acc_iff (x := x.read)).2 ⟨_, _, _, rfl, rfl, g5, g6⟩)
  have Gkids := Lib.hid g7
  clear h g1 g2 g3 g4 g5 g6 g7
  have hn : x.kids.length ≤ 9223372036854775807 := Nat.le_trans Gkids.out.sls_len.2.1 Gkids.out.sls_len.2.2
  by_cases hk : x.kind = 3
  · have q1 : (x.kind == 3) = true := ieq_t hk
    have HR := Lib.hid (HE.out.trans (if_pos hk)); clear hk HE
    rw [HR.out]
    have B0 : Below w.heap.size w (w.alloc (.cells #[.int .i64 x.kind, .int .i64 x.num, .slice A3 x.index.coefs.length c3, .int .i64 x.index.const, .string x.read.arr, .slice A6 x.read.subs.length c6, .slice A7 x.kids.length c7] 49)) := bel
    have O := Lib.hid (one_newN (N := w.heap.size + 1) (Gread.out.below B0) 43 (by simp))
    go_enter Tryz.func183, Tryz.ntmps183
    go_wp2
    go_ret
    refine ⟨_, 1, _, rfl, O.out, ?_, ?_, ?_⟩
    · simp
    · intro y hy
      simp only [List.head?_cons, Option.mem_some_iff] at hy
      omega
    · exact B0.alloc B0.size _
  have q1 : (x.kind == 3) = false := ieq_f hk
  have HR := Lib.hid (HE.out.trans (if_neg hk)); clear hk HE
  rw [HR.out] at hN ⊢
  obtain ⟨L, hl, hsub, hLB, hL⟩ := Gkids.out.sls_parts Ex.d_size
  have HL := Lib.hid (And.intro hl (And.intro hsub (And.intro hLB hL))); clear hl hsub hLB hL
  have HNN := Lib.hid hN; clear hN
  go_enter Tryz.func183, Tryz.ntmps183
  go_wp2
  go_loopw [3, 15] (fun u i wr => ∃ j : Nat, j ≤ x.kids.length ∧ i = .int .i64 j ∧ GrowR wr w.heap.size 43 2 u ((readsL (x.kids.take j)).map Acc.d) (L.take j).flatten ∧ Below w.heap.size w wr) (fun _ i _ => x.kids.length - (intOf i).toNat)
  case atStart => exact ⟨0, Nat.zero_le _, rfl, by simpa [readsL] using GrowR.nil _ _ _ _, bel⟩
  case round =>
    obtain ⟨j, hj, rfl, hG, hb⟩ := hrel
    obtain ⟨Au, cu, hfu, _, _⟩ := hG.form
    rw [List.length_map] at hfu
    have HG := Lib.hid hG; clear hG
    by_cases hlt : j < x.kids.length
    · have HT := Lib.hid (readsL_take hlt)
      have hle := readsL_take_le (xs := x.kids) (j + 1)
      rw [HT.out, List.length_append] at hle
      have h63 := HNN.out
      have HFT := Lib.hid (flatten_take L j (by rw [HL.out.1]; exact hlt))
      obtain ⟨be, oe, cse, hA, hble, hrk, hck⟩ := HL.out.2.2.2 j hlt
      have hSB : ∀ y ∈ (L.take j).flatten ++ L.getD j [], y < w.heap.size := fun y hy => by
        rw [← HFT.out] at hy
        exact HL.out.2.2.1 y ((flatten_take_sub L (j + 1)).subset hy)
      have HSB := Lib.hid hSB; clear hSB
      obtain ⟨A3e, c3e, A6e, c6e, A7e, c7e, d3e, d6e, d7e, hcs, hbs, _⟩ := Rep.ex_iff.1 hrk
      subst hcs
      have Ge := Lib.hid hrk; clear hrk
      have k0e := (hb.cell hble).trans (hck 0 _ rfl); rw [Nat.add_zero] at k0e
      have k1e := (hb.cell hble).trans (hck 1 _ rfl)
      have k2e := (hb.cell hble).trans (hck 2 _ rfl)
      have k3e := (hb.cell hble).trans (hck 3 _ rfl)
      have k4e := (hb.cell hble).trans (hck 4 _ rfl)
      have k5e := (hb.cell hble).trans (hck 5 _ rfl)
      have k6e := (hb.cell hble).trans (hck 6 _ rfl)
      have hblw := Nat.lt_of_lt_of_le hble hb.size
      clear hck hbs
      subst hA hfu
      go_wp2_with fail
      refine (HREC.out _ (List.getElem_mem hlt) _ _ _ (by omega) (Ge.out.below (below_tr hb bel))).mono ?_
      rintro e w1 ⟨A1, c1, bs1, rfl, r1, hs1, _, b1⟩
      have T1 : Below wr.heap.size wr w1 := bel
      have S1 := below_tr hb T1
      have HG1 := Lib.hid (HG.out.below T1)
      have R1 := Lib.hid r1
      have hz1 := S1.size
      clear b1 T1 r1 k0e k1e k2e k3e k4e k5e k6e
      go_wp2_with (
        at_builtin
        refine wpList_append_moreR (T := L.getD j []) rfl (.tmp 19) (.tmp 21) _ rfl _ Tryz.underlying207 Tryz.infoAcc rfl (by decide) rfl HG1.out rfl R1.out ?hys hs1 HSB.out ?hlen hz1 ?_
        case hys => intro y hy; obtain ⟨z, _, rfl⟩ := List.mem_map.1 hy; rfl
        case hlen => simp only [List.length_map]; omega
        intro v2 w2 hG2 hg2)
      rw [← List.map_append, ← HT.out, ← HFT.out] at hG2
      have HG2 := Lib.hid hG2
      have S2 := S1.trans (hg2.below hz1 fun b hb => (HG1.out.own_ge b hb).1)
      clear hG2 hg2
      go_wp2
      go_roundw
      case rel => exact ⟨j + 1, by omega, by go_num, HG2.out, S2⟩
      case measure => simp [intOf]; omega
    · have hjj : j = x.kids.length := by omega
      subst hjj
      have HX := Lib.hid (show readsL x.kids = readsL (x.kids.take x.kids.length) by rw [List.take_length])
      subst hfu
      go_wp2
      go_ret
      have hr := HG.out.rep
      obtain ⟨A5, c5, bs5, he5, hr5, hs5, hy5⟩ := hr
      rw [List.length_map] at he5 hr5
      simp only [Value.slice.injEq, true_and] at he5
      obtain ⟨rfl, rfl⟩ := he5
      rw [HX.out]
      refine ⟨_, _, bs5, rfl, hr5, ?_, hy5, hb⟩
      refine (hs5.trans (flatten_take_sub L _)).trans (HL.out.2.1.trans ?_)
      exact List.sublist_append_right _ _
theorem reads_c (x : Ex) : ReadsEx x := Ex.ind (P := ReadsEx) (fun x hx => reads_r hx) x
end Go.Proofs.YtbhniobgaoncaaaGreatDoor
