/- A slice of the call's own that grows: what a step leaves of the rest; append of a whole slice of data; calls that hand a growing slice on. -/
import Derived.Test.YtadmmlflngkpiaaGrow
import Derived.Test.YtadmmlflngkpiaaCore
import Derived.Deep.Upon
set_option linter.all false
set_option linter.unusedSimpArgs false
set_option linter.unusedVariables false
namespace Go.Proofs.Ytadmmlflngkpiaa
open Go.ChangeShapes Go.WideShapes Go.ChangeAt Go.RowKit Go.Deep

/-- the block that a growing slice lies in, if it has one -/
def ownL (v : Value) : List Nat := match v.ownBlock with
  | some b => [b]
  | none => []
theorem mem_ownL {v : Value} {b : Nat} : b ∈ ownL v ↔ v.ownBlock = some b := by
  unfold ownL
  cases v.ownBlock with
  | none => simp
  | some c => simp [eq_comm]
/-- from w to w' only the growing slice's block has been written; it lies where it lay or in a new block -/
structure Grew (w w' : World) (v v' : Value) : Prop where
  touch : Touch (ownL v) w w'
  own : ∀ b, v'.ownBlock = some b → v.ownBlock = some b ∨ w.heap.size ≤ b
theorem Grew.refl (w : World) (v : Value) : Grew w w v v := ⟨Touch.refl _ _, fun _ h => .inl h⟩
theorem Grew.of_below {w w' : World} (h : Below w.heap.size w w') (v : Value) : Grew w w' v v := ⟨Touch.of_below h, fun _ h => .inl h⟩
theorem Grew.trans {a b c : World} {u v x : Value} (h : Grew a b u v) (k : Grew b c v x) : Grew a c u x := by
  refine ⟨⟨k.touch.os.trans h.touch.os, k.touch.tape.trans h.touch.tape, k.touch.output.trans h.touch.output, Nat.le_trans h.touch.size k.touch.size, fun y hy hn => ?_⟩, fun y hy => ?_⟩
  · rw [k.touch.block y (Nat.lt_of_lt_of_le hy h.touch.size) (fun hm => ?_)]
    · exact h.touch.block y hy hn
    · rcases h.own y (mem_ownL.1 hm) with e | e
      · exact hn (mem_ownL.2 e)
      · omega
  · rcases k.own y hy with e | e
    · exact h.own y e
    · exact .inr (Nat.le_trans h.touch.size e)
theorem Grew.below {w w' : World} {v v' : Value} {B : Nat} (h : Grew w w' v v') (hB : B ≤ w.heap.size) (hv : ∀ b, v.ownBlock = some b → B ≤ b) : Below B w w' :=
  h.touch.below hB fun y hy => hv y (mem_ownL.1 hy)
theorem Grow.own_ge {w : World} {B : Nat} {e : TypeId} {size : Nat} {v : Value} {xs : List D} (h : Grow w B e size v xs) : ∀ b, v.ownBlock = some b → B ≤ b ∧ b < w.heap.size := by
  obtain ⟨es, cb, h1, _⟩ := h
  exact fun b hb => own_lt' h1 hb
theorem Grew.belowG {w w' : World} {v v' : Value} {B : Nat} {e : TypeId} {size : Nat} {xs : List D} (h : Grew w w' v v') (hB : B ≤ w.heap.size) (hv : Grow w B e size v xs) : Below B w w' :=
  h.below hB fun b hb => (hv.own_ge b hb).1
theorem Rep.grew {w w' : World} {v v' : Value} {d : D} {cs : List Value} {bs : List Nat} (h : Rep w d cs bs) (g : Grew w w' v v') (hv : ∀ y ∈ bs, v.ownBlock ≠ some y) : Rep w' d cs bs :=
  Rep.keep d h (g.touch.keeps fun y hy => ⟨Rep.lt d h y hy, fun hm => hv y hy (mem_ownL.1 hm)⟩)
/-- blocks that are not the growing slice's stay apart from it -/
theorem Grew.apart {w w' : World} {v v' : Value} {bs : List Nat} (g : Grew w w' v v') (hv : ∀ y ∈ bs, v.ownBlock ≠ some y) (hl : ∀ y ∈ bs, y < w.heap.size) : ∀ y ∈ bs, v'.ownBlock ≠ some y := fun y hy e => by
  rcases g.own y e with h | h
  · exact hv y hy h
  · have := hl y hy; omega

mutual
theorem Rep.one {w : World} : (d : D) → {cs : List Value} → {bs : List Nat} → Rep w d cs bs → ∀ u ∈ cs, u.oneCell' = true
  | .int _, _, _, h => by obtain ⟨rfl, _⟩ := h; simp [Value.oneCell']
  | .bool _, _, _, h => by obtain ⟨rfl, _⟩ := h; simp [Value.oneCell']
  | .str _, _, _, h => by obtain ⟨rfl, _⟩ := h; simp [Value.oneCell']
  | .st fs, _, _, h => Reps.one fs h
  | .sl xs, _, _, h => by obtain ⟨A, c, es, cb, rfl, _⟩ := h; simp [Value.oneCell']
theorem Reps.one {w : World} : (xs : List D) → {cs : List Value} → {bs : List Nat} → Reps w xs cs bs → ∀ u ∈ cs, u.oneCell' = true
  | [], _, _, h => by obtain ⟨rfl, _⟩ := h; simp
  | x :: xs, _, _, h => by
    obtain ⟨c1, c2, b1, b2, rfl, _, h1, h2⟩ := h
    intro u hu
    rcases List.mem_append.1 hu with hu | hu
    · exact Rep.one x h1 u hu
    · exact Reps.one xs h2 u hu
end
theorem add_none (b o j : Nat) : (⟨b, o, none⟩ : Addr).add j = ⟨b, o + j, none⟩ := by
  unfold Addr.add; split
  · simp_all
  · rfl

section
variable {P : Program} {w w0 : World} {B : Nat} {e : TypeId} {size : Nat} {v : Value} {xs : List D}
/-- append of a slice of data whose elements' own blocks are new -/
theorem run_append_more (w w0 : World) (t ty : TypeId) (i : TypeInfo) (z : Value) (bytes : Nat) (ht : P.underlying t = some (.slice e)) (hi : P.info? e = some i) (hz : i.zero = some z)
    (hsize : i.size = size) (hby : i.bytes = bytes) (hzs : z.cells.size = size) (hsz : 0 < size) (hG : Grow w0 B e size v xs) (hb0 : Below w0.heap.size w0 w) {ys : List D} {A : Option Addr} {m c : Nat} {bs : List Nat}
    (hr : Rep w (.sl ys) [.slice A m c] bs) (hs : ∀ y ∈ ys, y.size = size) (hn : bs.tail.Nodup) (hf : ∀ y ∈ bs.tail, w0.heap.size ≤ y)
    (h63 : xs.length + ys.length ≤ 100000000000) (hbytes : bytes ≤ 1024) (hbase : B ≤ w0.heap.size) :
    ∃ v' w', (Builtin.append_ #[t, t] ty #[v, .slice A m c]).run P w = .ok v' w' ∧ Grow w' B e size v' (xs ++ ys) ∧ Grew w w' v v' := by
  have hG0 := hG
  obtain ⟨es, cb, q1, q2, q3, q4, q5⟩ := hG
  have hown := own_kept q1 hb0.size (w' := w) fun g _ hl => hb0.block g hl
  have hG1 : Grow w B e size v xs := hG0.below hb0
  obtain ⟨A', c', es2, cb2, he, hc1, hc2, hreps, h0⟩ := hr
  simp only [List.cons.injEq, Value.slice.injEq] at he
  obtain ⟨⟨rfl, rfl, rfl⟩, _⟩ := he
  rcases h0 with ⟨rfl, rfl⟩ | ⟨b, o, rfl, rfl, hb, hcell⟩
  · obtain ⟨Av, cv, hv, hle, hcm⟩ := hG1.form
    obtain ⟨ees, _⟩ := hreps
    refine ⟨v, w, ?_, by simpa using hG1, Grew.refl _ _⟩
    rw [hv]
    refine run_append_nothing w t t ty e i ht hi Av xs.length cv hle _ ?_
    rcases A with _ | ad
    · exact Src.ofNil w ht c
    · exact Src.ofSlice w ht ad 0 c [] (by simp) (by simp) (by simp)
  · have hl2 : es2.length = ys.length * size := by rw [Reps.length _ hreps, sizes_eq ys hs]
    obtain ⟨v', w', hrun, h2, h3, _, h5⟩ := run_append_own_at (P := P) w B t ty e i z size bytes ht hi hz hsize hby hzs hsz v xs.length es hown ⟨b, o, none⟩ ys.length c es2 hl2
      (fun j u hu => by rw [add_none]; exact (hcell j u hu).1) (Reps.one _ hreps) (by unfold maxLen; omega) (by have := Nat.mul_le_mul h63 hbytes; omega) (Nat.le_trans hbase hb0.size)
    have hlt0 := Reps.lt _ q2
    have hblk : ∀ y, y < w.heap.size → v.ownBlock ≠ some y → w'.heap[y]? = w.heap[y]? := fun y hy hne => h3.block y hy (fun e => hne e.symm)
    simp only [List.tail_cons] at hn hf
    refine ⟨v', w', hrun, ⟨es ++ es2, cb ++ cb2, by simpa using h2, ?_, ?_, ?_, ?_⟩, ⟨h3.os, h3.tape, h3.output, h3.size, fun y hy hm => hblk y hy fun e => hm (mem_ownL.2 e)⟩, fun y hy => ?_⟩
    · refine (Reps_append xs ys).2 ⟨es, es2, cb, cb2, rfl, rfl, Reps.keep _ q2 ⟨Nat.le_trans hb0.size h3.size, fun y hy => ?_⟩, Reps.keep _ hreps ⟨h3.size, fun y hy => ?_⟩⟩
      · rw [hblk y (Nat.lt_of_lt_of_le (hlt0 y hy) hb0.size) (fun h => q5 y h hy)]
        exact hb0.block y (hlt0 y hy)
      · exact hblk y (Reps.lt _ hreps y hy) fun h => by
          have := (own_lt' q1 h).2
          have := hf y hy
          omega
    · refine List.nodup_append.2 ⟨q3, hn, fun y hy z hz e => ?_⟩
      subst e
      have := hlt0 y hy
      have := hf y hz
      omega
    · intro y hy
      rcases List.mem_append.1 hy with hy | hy
      · exact q4 y hy
      · exact Nat.le_trans hbase (hf y hy)
    · intro g hg hm
      rcases h5 with h5 | h5
      · rw [h5] at hg
        rcases List.mem_append.1 hm with hm | hm
        · exact q5 g hg hm
        · have := (own_lt' q1 hg).2
          have := hf g hm
          omega
      · rw [h5] at hg
        have hgw : w.heap.size = g := by simpa using hg
        rcases List.mem_append.1 hm with hm | hm
        · have := hlt0 g hm
          have := hb0.size
          omega
        · have := Reps.lt _ hreps g hm
          omega
    · rcases h5 with h5 | h5
      · rw [h5] at hy; exact .inl hy
      · rw [h5] at hy
        have : w.heap.size = y := by simpa using hy
        exact .inr (by omega)

theorem wp_append_more {o : Oper} {a : Act} {K : Act → World → Prop} {Q : Exit → Act → World → Prop} (s x : Operand) (t : TypeId)
    (ho : o.op = .call { callee := .builtin .append, args := #[s, x], argTypes := #[t, t] })
    (z : Value) (ht : P.underlying t = some (.slice e)) (hinfo : (P.info? e).map (fun i => (i.zero, i.size, decide (i.bytes ≤ 1024))) = some (some z, size, true)) (hzs : z.cells.size = size) (hsz : 0 < size) (hs : a.eval s = v) (hG : Grow w0 B e size v xs) (hb0 : Below w0.heap.size w0 w)
    {ys : List D} {A : Option Addr} {m c : Nat} {bs : List Nat} (hx : a.eval x = .slice A m c) (hr : Rep w (.sl ys) [.slice A m c] bs) (hys : ∀ y ∈ ys, y.size = size) (hn : bs.tail.Nodup) (hf : ∀ y ∈ bs.tail, w0.heap.size ≤ y)
    (h63 : xs.length + ys.length ≤ 100000000000) (hbase : B ≤ w0.heap.size)
    (h : ∀ v' w', Grow w' B e size v' (xs ++ ys) → Grew w w' v v' → K (a.put o.dst v') w') : o.wp P a w K Q := by
  obtain ⟨i, hi, hzz⟩ := Option.map_eq_some_iff.1 hinfo
  simp only [Prod.mk.injEq, decide_eq_true_iff] at hzz
  obtain ⟨v', w', hrun, h2, h3⟩ := run_append_more (P := P) w w0 t o.type i z i.bytes ht hi hzz.1 hzz.2.1 rfl hzs hsz hG hb0 hr hys hn hf h63 hzz.2.2 hbase
  unfold Oper.wp execOp
  simp only [ho, resolve, invoke, builtin, Sem.run_bind, Sem.run_pure, Result.andThen_ok, List.map_toArray, List.map_cons, List.map_nil, hs, hx, hrun]
  exact h v' w' h2 h3
theorem wpList_append_more {ops : Array Oper} {rest : List Oper} {o : Oper} {a : Act} {Q : Exit → Act → World → Prop} (hgd : o.guard = none) (s x : Operand) (t : TypeId)
    (ho : o.op = .call { callee := .builtin .append, args := #[s, x], argTypes := #[t, t] })
    (z : Value) (ht : P.underlying t = some (.slice e)) (hinfo : (P.info? e).map (fun i => (i.zero, i.size, decide (i.bytes ≤ 1024))) = some (some z, size, true)) (hzs : z.cells.size = size) (hsz : 0 < size) (hs : a.eval s = v) (hG : Grow w0 B e size v xs) (hb0 : Below w0.heap.size w0 w)
    {ys : List D} {A : Option Addr} {m c : Nat} {bs : List Nat} (hx : a.eval x = .slice A m c) (hr : Rep w (.sl ys) [.slice A m c] bs) (hys : ∀ y ∈ ys, y.size = size) (hn : bs.tail.Nodup) (hf : ∀ y ∈ bs.tail, w0.heap.size ≤ y)
    (h63 : xs.length + ys.length ≤ 100000000000) (hbase : B ≤ w0.heap.size)
    (h : ∀ v' w', Grow w' B e size v' (xs ++ ys) → Grew w w' v v' → wpList P ops Q rest (a.put o.dst v') w') : wpList P ops Q (o :: rest) a w :=
  wpList_plain hgd fun _ hK => wp_append_more s x t ho z ht hinfo hzs hsz hs hG hb0 hx hr hys hn hf h63 hbase fun v' w' h2 h3 => hK _ _ (h v' w' h2 h3)
theorem wpList_wanted {ops : Array Oper} {rest : List Oper} {o : Oper} {a : Act} {w : World} {Q : Exit → Act → World → Prop} (hw : Region.wanted o (yielded ops a.tmps) = true)
    (h : ∀ K : Act → World → Prop, (∀ a w, wpList P ops Q rest a w → K a w) → o.wp P a w K Q) : wpList P ops Q (o :: rest) a w :=
  wpList_step fun K hK => by rw [if_pos hw]; exact h K hK
theorem wpList_append_more_g {ops : Array Oper} {rest : List Oper} {o : Oper} {a : Act} {Q : Exit → Act → World → Prop} (hgd : Region.wanted o (yielded ops a.tmps) = true) (s x : Operand) (t : TypeId)
    (ho : o.op = .call { callee := .builtin .append, args := #[s, x], argTypes := #[t, t] })
    (z : Value) (ht : P.underlying t = some (.slice e)) (hinfo : (P.info? e).map (fun i => (i.zero, i.size, decide (i.bytes ≤ 1024))) = some (some z, size, true)) (hzs : z.cells.size = size) (hsz : 0 < size) (hs : a.eval s = v) (hG : Grow w0 B e size v xs) (hb0 : Below w0.heap.size w0 w)
    {ys : List D} {A : Option Addr} {m c : Nat} {bs : List Nat} (hx : a.eval x = .slice A m c) (hr : Rep w (.sl ys) [.slice A m c] bs) (hys : ∀ y ∈ ys, y.size = size) (hn : bs.tail.Nodup) (hf : ∀ y ∈ bs.tail, w0.heap.size ≤ y)
    (h63 : xs.length + ys.length ≤ 100000000000) (hbase : B ≤ w0.heap.size)
    (h : ∀ v' w', Grow w' B e size v' (xs ++ ys) → Grew w w' v v' → wpList P ops Q rest (a.put o.dst v') w') : wpList P ops Q (o :: rest) a w :=
  wpList_wanted hgd fun _ hK => wp_append_more s x t ho z ht hinfo hzs hsz hs hG hb0 hx hr hys hn hf h63 hbase fun v' w' h2 h3 => hK _ _ (h v' w' h2 h3)
end

/-- the blocks behind a slice of plain data's first are none -/
theorem Reps.plain {w : World} : (xs : List Int) → {cs : List Value} → {cb : List Nat} → Reps w (xs.map D.int) cs cb → cb = []
  | [], _, _, h => h.2
  | x :: xs, _, _, h => by
    obtain ⟨c1, c2, b1, b2, _, rfl, ⟨_, rfl, _⟩, h2⟩ := h
    rw [Reps.plain xs h2]; rfl
theorem Rep.ints_tail {w : World} {xs : List Int} {cs : List Value} {bs : List Nat} (h : Rep w (ints xs) cs bs) : bs.tail = [] := by
  obtain ⟨A, c, es, cb, _, _, _, hr, h0⟩ := h
  rcases h0 with ⟨_, rfl⟩ | ⟨b, o, _, rfl, _⟩
  · rfl
  · exact Reps.plain xs hr
/-- one slice of a growing list of slices: its rep out of Grow's -/
theorem Grow.ints {w : World} {B : Nat} {e : TypeId} {v : Value} {xs : List Int} (h : Grow w B e 1 v (xs.map D.int)) : ∃ A c bs, v = .slice A xs.length c ∧ Rep w (ints xs) [.slice A xs.length c] bs ∧ bs.Nodup ∧ (∀ y ∈ bs, B ≤ y) ∧ ∀ y ∈ bs, v.ownBlock = some y := by
  obtain ⟨es, cb, h1, h2, h3, h4, h5⟩ := h
  obtain ⟨A, c, bs, rfl, h6, h7⟩ := Rep.of_own h1 rfl h2
  have hcb := Reps.plain xs h2
  subst hcb
  rw [List.length_map] at *
  refine ⟨A, c, bs, rfl, h6, ?_⟩
  rcases h7 with ⟨_, rfl⟩ | ⟨g, rfl, hB, hg⟩
  · exact ⟨by simp, by simp, by simp⟩
  · exact ⟨by simp, by simpa using hB, fun y hy => by rw [List.mem_singleton.1 hy]; exact hg⟩

section
variable {w : World} {xs : List Int} {A : Option Addr} {n c : Nat} {bs : List Nat}
set_option maxHeartbeats 400000 in
theorem Clone_int_g (h : Rep w (ints xs) [.slice A n c] bs) (hn : n ≤ 10000000) :
    Calls Try.prog 99 #[.slice A n c] w fun e w' => ∃ v, e = .returned v ∧ Grow w' w.heap.size 3 1 v (xs.map D.int) ∧ Below w.heap.size w w' := by
  obtain ⟨rfl, _, _⟩ := h.ints_len
  have HN := Lib.hid hn; clear hn
  rcases A with _ | ad
  · have hx : xs = [] := by
      rcases xs with _ | ⟨x, xs⟩
      · rfl
      · obtain ⟨b, o, e, _⟩ := h.ints_at (k := 0) (by simp); cases e
    subst hx
    have hq := fun W => Lib.run_eql_slice_nil (P := Try.prog) W 22 3 none 0 c 0 0 Try.underlying22
    go_enter Try.func99, Try.ntmps99
    go_wp2
    go_ret
    exact ⟨_, rfl, Grow.nil _ _ _ _, bel⟩
  · have hq := fun W => Lib.run_eql_slice_nil (P := Try.prog) W 22 3 (some ad) xs.length c 0 0 Try.underlying22
    obtain ⟨i0, hi, hz0, hz1, hz2⟩ := Try.info3
    have hI := Lib.hid (And.intro hi (And.intro hz0 (And.intro hz1 hz2))); clear hi hz0 hz1 hz2
    have hfit := Lib.hid h.ints_fit
    have hcells : ∀ j u, (xs.map (Value.int .i64 ·))[j]? = some u → w.cell? (ad.add j) = some u := by
      intro j u hu
      have hj : j < xs.length := by
        rcases Nat.lt_or_ge j xs.length with hj | hj
        · exact hj
        · rw [List.getElem?_eq_none (by simpa using hj)] at hu; cases hu
      obtain ⟨b, o, e, _, _, hc, _⟩ := h.ints_at hj
      simp only [Option.some.injEq] at e
      subst e
      rw [List.getElem?_map, List.getElem?_eq_getElem hj] at hu
      rw [gi_eq hj] at hc
      have : (⟨b, o, none⟩ : Addr).add j = ⟨b, o + j, none⟩ := by
        unfold Addr.add; split
        · simp_all
        · rfl
      rw [this, hc]
      simpa using hu
    have hblk : 0 < xs.length → ad.block < w.heap.size := fun h0 => by
      obtain ⟨b, o, e, _, hlt, _⟩ := h.ints_at h0
      simp only [Option.some.injEq] at e
      subst e; exact hlt
    have hown : (w.alloc (.cells #[] 3)).ownsRow w.heap.size 3 1 (.slice (some ⟨w.heap.size, 0, none⟩) 0 0) 0 [] :=
      ⟨rfl, .inr ⟨w.heap.size, 0, #[], rfl, Nat.le_refl _, heap_alloc_new w _, Nat.le_refl _, Nat.zero_le _, rfl, rfl⟩⟩
    have hnews : ∀ j u, (xs.map (Value.int .i64 ·))[j]? = some u → (w.alloc (.cells #[] 3)).cell? (ad.add j) = some u := by
      intro j u hu
      rw [World.cell?_alloc_lt _ _ _ (by
        have hj : j < xs.length := by
          rcases Nat.lt_or_ge j xs.length with hj | hj
          · exact hj
          · rw [List.getElem?_eq_none (by simpa using hj)] at hu; cases hu
        have := hblk (by omega)
        unfold Addr.add; split
        · exact this
        · exact this)]
      exact hcells j u hu
    have hone : ∀ u ∈ xs.map (Value.int .i64 ·), u.oneCell' = true := by
      intro u hu
      obtain ⟨x, _, rfl⟩ := List.mem_map.1 hu
      rfl
    have HW := Lib.hid (And.intro hown (And.intro hnews hone)); clear hown hnews hone hcells hblk
    go_enter Try.func99, Try.ntmps99
    go_wp2_with (at_builtin; refine wpList_append_own_at _ rfl _ _ 22 rfl w.heap.size 3 i0 (.int .i64 0) 1 8 Try.underlying22 hI.out.1 hI.out.2.1 hI.out.2.2.1 hI.out.2.2.2 rfl (by decide) (.slice (some ⟨w.heap.size, 0, none⟩) 0 0) 0 [] rfl HW.out.1 ad xs.length c (xs.map (Value.int .i64 ·)) rfl (by simp) HW.out.2.1 HW.out.2.2 (by have := HN.out; unfold maxLen; omega) (by have := HN.out; omega) (by simp) ?_; intro v' w1 hown1 hgrow _ hat)
    rw [Nat.zero_add, List.nil_append] at hown1
    have HG := Lib.hid (show Grow w1 w.heap.size 3 1 v' (xs.map D.int) from ⟨_, [], by rw [List.length_map]; exact hown1, (reps_ints xs).2 ⟨rfl, rfl, hfit.out⟩, by simp, by simp, by simp⟩)
    clear hown1
    obtain ⟨Av, cv, rfl, _, _⟩ := HG.out.form
    go_wp2
    go_ret
    refine ⟨_, rfl, HG.out, ?_⟩
    refine ((Below.refl _ _).alloc (Nat.le_refl _) _).grown hgrow (by simp) fun k hk => ?_
    have : w.heap.size = k := by simpa [Value.ownBlock] using hk
    omega
end

theorem Try.infoInt : (Try.prog.info? 3).map (fun i => (i.zero, i.size, decide (i.bytes ≤ 1024))) = some (some (.int .i64 0), 1, true) := by kernel_rfl
theorem Try.infoInts : (Try.prog.info? 22).map (fun i => (i.zero, i.size, decide (i.bytes ≤ 1024))) = some (some (.slice none 0 0), 1, true) := by kernel_rfl
/-- one integer as a slice, its block just made -/
theorem one_int (w : World) {x : Int} (h : I64 x) (t : TypeId) : Rep (w.alloc (.cells #[.int .i64 x] t)) (ints [x]) [.slice (some ⟨w.heap.size, 0, none⟩) 1 1] [w.heap.size] :=
  one_new w (d := .int x) (cells := [.int .i64 x]) (b := []) ⟨rfl, rfl, h⟩ t

/-- an empty slice just made, other blocks made behind it -/
theorem Grow.madeE {w : World} {g B : Nat} (e : TypeId) (size : Nat) (h : w.heap.size = g) (hB : B ≤ g) : Grow (w.alloc (.cells #[] e)) B e size (.slice (some ⟨g, 0, none⟩) 0 0) [] := by
  subst h; exact Grow.made w e size hB
theorem Grow.drewG {w : World} {B : Nat} {e : TypeId} {size : Nat} {v : Value} {xs : List D} (h : Grow w B e size v xs) : Grow w.drew B e size v xs := h.below (Below.refl _ _).drew
theorem Grow.allocG {w : World} {B : Nat} {e : TypeId} {size : Nat} {v : Value} {xs : List D} (h : Grow w B e size v xs) (c : Obj) : Grow (w.alloc c) B e size v xs := h.below ((Below.refl _ _).alloc (Nat.le_refl _) _)

theorem have_of {P Q : Prop} (h : Q) (k : Q → P) : P := k h
theorem Touch.boxW {bs : List Nat} {a b : World} (h : Touch bs a b) {g : Nat} {u v : Value} (k : BoxW a g u v) (hn : g ∉ bs) : BoxW b g u v := by
  have hl := lt_of_cell k.1.1
  exact ⟨h.box2 k.1 hn, by rw [h.frozen hl hn]; exact k.2.1, by rw [h.frozen hl hn]; exact k.2.2⟩

theorem Box2.toB {w w' : World} {g B : Nat} {u v : Value} (h : Box2 w g u v) (hg : g < B) (hb : Below B w w') : Box2 w' g u v :=
  ⟨(hb.cell (p := ⟨g, 0, none⟩) hg).trans h.1, (hb.cell (p := ⟨g, 1, none⟩) hg).trans h.2⟩
theorem BoxW.toB {w w' : World} {g B : Nat} {u v : Value} (h : BoxW w g u v) (hg : g < B) (hb : Below B w w') : BoxW w' g u v :=
  ⟨Box2.toB h.1 hg hb, (hb.frozen (p := ⟨g, 0, none⟩) hg).trans h.2.1, (hb.frozen (p := ⟨g, 1, none⟩) hg).trans h.2.2⟩

/-- append of integers to an empty slice just made -/
theorem wp_append_copy {P : Program} {w : World} {B N : Nat} {e t : TypeId} {o : Oper} {a : Act} {K : Act → World → Prop} {Q : Exit → Act → World → Prop} (s x : Operand)
    (ho : o.op = .call { callee := .builtin .append, args := #[s, x], argTypes := #[t, t] })
    (ht : P.underlying t = some (.slice e)) (hinfo : (P.info? e).map (fun i => (i.zero, i.size, decide (i.bytes ≤ 1024))) = some (some (.int .i64 0), 1, true)) (hs : a.eval s = .slice (some ⟨N, 0, none⟩) 0 0) (hG : Grow w B e 1 (.slice (some ⟨N, 0, none⟩) 0 0) [])
    {ys : List Int} {A : Option Addr} {m c : Nat} {bs : List Nat} (hx : a.eval x = .slice A m c) (hr : Rep w (ints ys) [.slice A m c] bs) (h63 : ys.length ≤ 10000000) (hbase : B ≤ w.heap.size)
    (h : ∀ v' w', Grow w' B e 1 v' (ys.map D.int) → Grew w w' (.slice (some ⟨N, 0, none⟩) 0 0) v' → K (a.put o.dst v') w') : o.wp P a w K Q :=
  wp_append_more (w0 := w) (xs := []) (ys := ys.map D.int) s x t ho (.int .i64 0) ht hinfo rfl (by decide) hs hG (Below.refl _ _) hx hr (fun y hy => by obtain ⟨_, _, rfl⟩ := List.mem_map.1 hy; rfl) (by rw [hr.ints_tail]; simp) (by rw [hr.ints_tail]; simp) (by simp; omega) hbase h
end Go.Proofs.Ytadmmlflngkpiaa
