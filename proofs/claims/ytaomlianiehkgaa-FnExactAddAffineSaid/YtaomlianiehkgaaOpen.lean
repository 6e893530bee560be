/- From the form's reading of arguments ('trod') to the words of Base: whatever can be read at a type of numbers, strings, slices and structs stands in memory as a datum. -/
import Derived.Test.YtaomlianiehkgaaInts
import Derived.Deep.Slices
import Derived.Carry
set_option linter.all false
set_option linter.unusedSimpArgs false
set_option linter.unusedVariables false
namespace Go.Proofs.Ytaomlianiehkgaa
open Go.ChangeShapes Go.WideShapes Go.ChangeAt Go.RowKit Go.Deep

def laidB (P : Program) (off : Nat) : List Field → Nat → Bool
  | [], tot => off == tot
  | f :: fs, tot => f.offset == off && laidB P (off + P.cellsOf f.type) fs tot

/-- the types L are numbers (int), strings, slices of L's types, structs of L's types, laid without gaps -/
def layB (P : Program) (L : List TypeId) : Bool := L.all fun t =>
  match P.underlying t with
  | some (.int .i64) => P.cellsOf t == 1
  | some .string => P.cellsOf t == 1
  | some (.slice e) => L.contains e && (P.cellsOf t == 1 && decide (0 < P.cellsOf e))
  | some (.struct fs) => (fs.toList.all fun f => L.contains f.type) && laidB P 0 fs.toList (P.cellsOf t)
  | _ => false

mutual
/-- the datum is of the type -/
def HasTy (P : Program) : TypeId → D → Prop
  | t, .int _ => P.underlying t = some (.int .i64)
  | _, .bool _ => False
  | t, .str _ => P.underlying t = some .string
  | t, .st fs => ∃ fds, P.underlying t = some (.struct fds) ∧ HasTys P (fds.toList.map (·.type)) fs
  | t, .sl xs => ∃ e, P.underlying t = some (.slice e) ∧ HasTyE P e xs
def HasTys (P : Program) : List TypeId → List D → Prop
  | ts, [] => ts = []
  | ts, x :: xs => ∃ t r, ts = t :: r ∧ HasTy P t x ∧ HasTys P r xs
def HasTyE (P : Program) : TypeId → List D → Prop
  | _, [] => True
  | t, x :: xs => HasTy P t x ∧ HasTyE P t xs
end

theorem HasTyE_snoc {P : Program} {t : TypeId} {d : D} : (xs : List D) → HasTyE P t xs → HasTy P t d → HasTyE P t (xs ++ [d])
  | [], _, h => ⟨h, trivial⟩
  | _ :: xs, h1, h2 => ⟨h1.1, HasTyE_snoc xs h1.2 h2⟩

theorem Reps_snoc {w : World} {xs : List D} {d : D} {es c : List Value} {cb b : List Nat} (h1 : Reps w xs es cb) (h2 : Rep w d c b) : Reps w (xs ++ [d]) (es ++ c) (cb ++ b) :=
  (Reps_append xs [d]).2 ⟨es, c, cb, b, rfl, rfl, h1, c, [], b, [], by simp, by simp, h2, rfl, rfl⟩

theorem cells?_at {w : World} {base : Nat} {a : Addr} {n : Nat} {cs : List Value} (h : w.cells? base a n = some cs) : cs.length = n ∧ ∀ j u, cs[j]? = some u → w.cell? (a.add j) = some u := by
  unfold World.cells? at h
  split at h
  · have hl := mapM_some_length h
    rw [List.length_range] at hl
    refine ⟨hl, fun j u hu => ?_⟩
    have hj : j < n := by
      rcases Nat.lt_or_ge j cs.length with hj | hj
      · omega
      · rw [List.getElem?_eq_none hj] at hu; cases hu
    rw [← hu]
    exact mapM_some_get h j j (by simp [hj])
  · cases h

section
variable {H : Type} {enc : TypeId × Value → H} {P : Program} {w : World} {base : Nat} {spare : Nat → Bool} {held : Bool} {L : List TypeId}

/-- a row of data, one behind the other from address a on -/
theorem reps_range {Q : D → Prop} {s : Nat} {a : Addr} (n : Nat)
    (h : ∀ i, i < n → ∃ d c b, Rep w d c b ∧ Q d ∧ c.length = s ∧ ∀ j u, c[j]? = some u → w.cell? ((a.add (i * s)).add j) = some u) :
    ∃ ds es cb, Reps w ds es cb ∧ ds.length = n ∧ (∀ d ∈ ds, Q d) ∧ es.length = n * s ∧ ∀ j u, es[j]? = some u → w.cell? (a.add j) = some u := by
  induction n with
  | zero => exact ⟨[], [], [], ⟨rfl, rfl⟩, rfl, by simp, by simp, by simp⟩
  | succ n ih =>
    obtain ⟨ds, es, cb, h1, h2, h3, h4, h5⟩ := ih fun i hi => h i (by omega)
    obtain ⟨d, c, b, g1, g2, g3, g4⟩ := h n (by omega)
    refine ⟨ds ++ [d], es ++ c, cb ++ b, Reps_snoc h1 g1, by simp [h2], ?_, ?_, fun j u hu => ?_⟩
    · intro x hx
      rcases List.mem_append.1 hx with hx | hx
      · exact h3 x hx
      · rw [List.mem_singleton.1 hx]; exact g2
    · rw [List.length_append, h4, g3, Nat.add_mul]; omega
    · rcases Nat.lt_or_ge j es.length with hj | hj
      · rw [List.getElem?_append_left hj] at hu
        exact h5 j u hu
      · rw [List.getElem?_append_right hj] at hu
        have := g4 _ u hu
        rw [add_add, h4] at this
        rw [h4] at hj
        rwa [show n * s + (j - n * s) = j by omega] at this

theorem hasTyE_all {t : TypeId} : (xs : List D) → (∀ d ∈ xs, HasTy P t d) → HasTyE P t xs
  | [], _ => trivial
  | _ :: xs, h => ⟨h _ List.mem_cons_self, hasTyE_all xs fun y hy => h y (List.mem_cons_of_mem _ hy)⟩

theorem fields_rep {tot : Nat} {cs : List Value} (hcs : cs.length = tot) : (fl : List Field) → (off : Nat) → laidB P off fl tot = true →
    (∀ f ∈ fl, ∃ d b, Rep w d ((cs.drop f.offset).take (P.cellsOf f.type)) b ∧ HasTy P f.type d ∧ d.size = P.cellsOf f.type) →
    ∃ ds bs, Reps w ds (cs.drop off) bs ∧ HasTys P (fl.map (·.type)) ds ∧ D.sizes ds + off = tot
  | [], off, hl, _ => by
    simp only [laidB, beq_iff_eq] at hl
    subst hl
    exact ⟨[], [], ⟨by simp [← hcs], rfl⟩, rfl, by simp [D.sizes]⟩
  | f :: fl, off, hl, h => by
    simp only [laidB, Bool.and_eq_true, beq_iff_eq] at hl
    obtain ⟨rfl, hl⟩ := hl
    obtain ⟨d, b, h1, h2, h3⟩ := h f List.mem_cons_self
    obtain ⟨ds, bs, g1, g2, g3⟩ := fields_rep hcs fl _ hl fun f hf => h f (List.mem_cons_of_mem _ hf)
    refine ⟨d :: ds, b ++ bs, ⟨_, _, b, bs, ?_, rfl, h1, g1⟩, ⟨_, _, rfl, h2, g2⟩, ?_⟩
    · rw [← List.drop_drop, List.take_append_drop]
    · simp only [D.sizes, h3]; omega

theorem trod_rep (hL : layB P L = true) : ∀ (fuel : Nat) (t : TypeId), t ∈ L → ∀ (cs : List Value) (x : DataW H × List MemPlace),
    DataW.trod enc P w base spare held fuel t cs = some x → w.noneFrozen x.2 → ∃ d bs, Rep w d cs bs ∧ HasTy P t d ∧ d.size = P.cellsOf t := by
  intro fuel
  induction fuel with
  | zero => intro t _ cs x h; simp [DataW.trod] at h
  | succ fuel ih =>
    intro t ht cs x h hz
    have hlt := List.all_eq_true.1 hL t ht
    split at hlt
    · next hu =>
      obtain ⟨n, rfl, _, hw⟩ := DataW.trod_int hu h
      simp only [beq_iff_eq] at hlt
      exact ⟨.int n, [], ⟨rfl, rfl, bounds_i64 hw⟩, hu, hlt.symm⟩
    · next hu =>
      obtain ⟨s, rfl, _, hw⟩ := DataW.trod_string hu h
      simp only [beq_iff_eq] at hlt
      exact ⟨.str s, [], ⟨rfl, rfl, hw⟩, hu, hlt.symm⟩
    · next e hu =>
      simp only [Bool.and_eq_true, beq_iff_eq, decide_eq_true_iff, List.contains_iff_mem] at hlt
      obtain ⟨he, h1, hpos⟩ := hlt
      rcases DataW.trod_slice hu h with ⟨rfl, rfl⟩ | ⟨a, len, cap, elems, rest, n, hn, rfl, rfl, hb, hl, hm, hlen, hel, _, _⟩
      · exact ⟨.sl [], [], ⟨none, 0, [], [], rfl, Nat.le_refl _, Nat.zero_le _, ⟨rfl, rfl⟩, .inl ⟨rfl, rfl⟩⟩, ⟨e, hu, trivial⟩, h1.symm⟩
      · obtain rfl : n = fuel := by omega
        obtain ⟨ds, es, cb, k1, k2, k3, k4, k5⟩ := reps_range (w := w) (Q := fun d => HasTy P e d) (s := P.cellsOf e) (a := a) len (fun i hi => by
          have hi' : i < elems.length := by omega
          have hel1 := hel i hi
          rw [List.getElem?_eq_getElem hi'] at hel1
          obtain ⟨cs', g1, g2⟩ := Option.bind_eq_some_iff.1 hel1
          obtain ⟨d, b, q1, q2, q3⟩ := ih e he cs' _ g2 (fun bb oo hmm => hz bb oo (List.mem_append_right _ (List.mem_flatMap.2 ⟨_, List.mem_append_left _ (List.getElem_mem hi'), hmm⟩)))
          obtain ⟨g3, g4⟩ := cells?_at g1
          exact ⟨d, cs', b, q1, q2, g3, g4⟩)
        have hf : ∀ j, j < len * P.cellsOf e → w.frozen? ⟨a.block, a.off + j, none⟩ = false := fun j hj => hz _ _ (List.mem_append_left _ (by
          unfold MemPlace.row
          exact List.mem_map.2 ⟨j, List.mem_range.2 (Nat.lt_of_lt_of_le hj (Nat.mul_le_mul_right _ (by omega))), rfl⟩))
        subst k2
        rcases Nat.eq_zero_or_pos ds.length with h0 | h0
        · have := List.eq_nil_of_length_eq_zero h0
          subst this
          obtain ⟨rfl, rfl⟩ := k1
          exact ⟨.sl [], [], ⟨some a, cap, [], [], rfl, hl, hm, ⟨rfl, rfl⟩, .inl ⟨rfl, rfl⟩⟩, ⟨e, hu, trivial⟩, h1.symm⟩
        · have hes : 0 < es.length := by rw [k4]; exact Nat.mul_pos h0 hpos
          have hc0 := k5 0 es[0] (List.getElem?_eq_getElem hes)
          obtain ⟨b, o, sp⟩ := a
          have hsp : sp = none := by
            simp only [Addr.add, if_true, World.cell?] at hc0
            split at hc0
            · cases sp with
              | none => rfl
              | some _ => simp at hc0
            · cases hc0
          subst hsp
          have hadd : ∀ j, (⟨b, o, none⟩ : Addr).add j = ⟨b, o + j, none⟩ := fun j => by
            unfold Addr.add; split
            · simp_all
            · rfl
          refine ⟨.sl ds, b :: cb, ⟨_, cap, es, cb, rfl, hl, hm, k1, .inr ⟨b, o, rfl, rfl, ?_, fun j u hu => ?_⟩⟩, ⟨e, hu, hasTyE_all ds k3⟩, h1.symm⟩
          · rw [hadd] at hc0
            unfold World.cell? at hc0
            rcases Nat.lt_or_ge b w.heap.size with hlt | hge
            · exact hlt
            · simp [Array.getElem?_eq_none hge] at hc0
          · have hj : j < es.length := by
              rcases Nat.lt_or_ge j es.length with hj | hj
              · exact hj
              · rw [List.getElem?_eq_none hj] at hu; cases hu
            exact ⟨by rw [← hadd]; exact k5 j u hu, hf j (by rw [← k4]; exact hj)⟩
    · next fs hu =>
      simp only [Bool.and_eq_true, List.all_eq_true, List.contains_iff_mem] at hlt
      obtain ⟨hf, hlaid⟩ := hlt
      obtain ⟨xs, n, hn, rfl, hcs, hxl, hx⟩ := DataW.trod_struct hu h
      obtain rfl : n = fuel := by omega
      have := fields_rep (P := P) (w := w) hcs fs.toList 0 hlaid (fun f hff => by
        obtain ⟨i, hi, hfi⟩ := List.getElem_of_mem hff
        have hi' : i < xs.length := by rw [hxl]; simpa using hi
        have hfx := hx i f (by rw [← hfi]; simp at hi; simp [hi])
        rw [List.getElem?_eq_getElem hi'] at hfx
        obtain ⟨d, b, k1, k2, k3⟩ := ih f.type (hf f hff) _ _ hfx (fun bb oo hm => hz bb oo (List.mem_flatMap.2 ⟨_, List.getElem_mem hi', hm⟩))
        exact ⟨d, b, k1, k2, k3⟩)
      obtain ⟨ds, bs, k1, k2, k3⟩ := this
      exact ⟨.st ds, bs, by rw [List.drop_zero] at k1; exact k1, ⟨fs, hu, k2⟩, by simpa [D.size] using k3⟩
    · cases hlt
end
end Go.Proofs.Ytaomlianiehkgaa
