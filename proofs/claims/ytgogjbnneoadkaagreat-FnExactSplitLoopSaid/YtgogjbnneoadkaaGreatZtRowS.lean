/- A struct stored into a block of the call's own, said by its row. -/
import Derived.Test.YtgogjbnneoadkaaGreatZtMapE
import Derived.Deep.MidRow
set_option linter.all false
namespace Go.Proofs.YtgogjbnneoadkaaGreat
open Go.ChangeShapes Go.WideShapes Go.ChangeAt Go.RowKit Go.Deep
theorem Row.setCells {g : Nat} {t : TypeId} : (vs l pre : List Value) → {w : World} → Row w g t (pre ++ l) → l.length = vs.length → Row (w.setCells g pre.length vs) g t (pre ++ vs)
 | [], l, pre, w, h, hl => by
  have : l = [] := List.eq_nil_of_length_eq_zero hl
  subst this
  exact h
 | v :: vs, l, pre, w, h, hl => by
  match l, hl with
  | u :: l, hl =>
   have h1 := h.set_in v
   have h2 := Row.setCells vs l (pre ++ [v]) h1 (by simpa using hl)
   rw [List.length_append, List.length_singleton, List.append_assoc] at h2
   exact h2
theorem Touch.cellR {w w' : World} {bs : List Nat} {g o : Nat} {v : Value} (t : Touch bs w w') (h : w.cell? ⟨g, o, none⟩ = some v) (hn : g ∉ bs) : w'.cell? ⟨g, o, none⟩ = some v := (t.cell (lt_of_cell h) hn).trans h
theorem Touch.setCells {g : Nat} : (vs : List Value) → (o : Nat) → (w : World) → Touch [g] w (w.setCells g o vs)
 | [], _, w => Touch.refl _ w
 | v :: vs, o, w => ((Touch.refl _ w).setCell (p := ⟨g, o, none⟩) (by simp) v).trans (Touch.setCells vs (o + 1) _)
theorem wp_store_row {P : Program} {w : World} {o : Oper} {a : Act} {K : Act → World → Prop} {Q : Exit → Act → World → Prop} (ty : TypeId) (x y : Operand) (ho : o.op = .store ty x y) {g : Nat} {t : TypeId} {vs l : List Value}
  (hx : a.eval x = .pointer (some ⟨g, 0, none⟩)) (hy : a.eval y = .agg vs.toArray) (hr : Row w g t l) (hl : l.length = vs.length) (hi : (P.info? ty).map (·.size) = some vs.length) (h1 : vs.all (·.oneCell') = true)
  (h : ∀ w', Row w' g t vs → Touch [g] w w' → K (a.put o.dst undef) w') : o.wp P a w K Q :=
 wp_store_mid ty x y ho g 0 vs.toArray hx hy (fun j hj => ⟨by rw [Nat.zero_add, hr.cell, List.getElem?_eq_getElem (by simp at hj; omega)]; rfl, hr.frozen _⟩) (by simpa using hi) (by simpa using h1) (h _ (Row.setCells vs l [] hr hl) (Touch.setCells _ _ _))
theorem Rep.sls_blk {α : Type} {w : World} {f : α → D} {xs : List α} {b o n c : Nat} {bs : List Nat} (h : Rep w (sls f xs) [.slice (some ⟨b, o, none⟩) n c] bs) (h0 : 0 < xs.length) : b < w.heap.size := by
 obtain ⟨A, c', es, cb, e, _, _, _, h2⟩ := h
 simp only [List.cons.injEq, Value.slice.injEq] at e
 rcases h2 with ⟨h3, _⟩ | ⟨b', o', h3, _, h4, _⟩
 ·have := congrArg List.length h3
  rw [List.length_map] at this
  simp only [List.length_nil] at this
  omega
 ·rw [← e.1.1] at h3
  simp only [Option.some.injEq, Addr.mk.injEq] at h3
  rw [h3.1]; exact h4
theorem cp_pack {W0 w1 w2 w3 w4 : World} {g : Nat} {d1 d2 : D} {c1 c2 : List Value} {bs1 bs2 : List Nat} (r1 : Rep w1 d1 c1 bs1) (r2 : Rep w2 d2 c2 bs2) (nd1 : bs1.Nodup) (nd2 : bs2.Nodup) (hb1 : ∀ b ∈ bs1, W0.heap.size ≤ b) (hb2 : ∀ b ∈ bs2, w1.heap.size ≤ b)
  (B1 : Below W0.heap.size W0 w1) (B13 : Below w1.heap.size w1 w3) (B23 : Below w2.heap.size w2 w3) (t4 : Touch [g] w3 w4) (hg0 : W0.heap.size ≤ g) (hg1 : g ∉ bs1) (hg2 : g ∉ bs2) :
  Rep w4 d1 c1 bs1 ∧ Rep w4 d2 c2 bs2 ∧ (bs1 ++ bs2).Nodup ∧ (∀ y ∈ bs1 ++ bs2, W0.heap.size ≤ y ∧ y < w4.heap.size ∧ y ≠ g) ∧ Below W0.heap.size W0 w4 := by
 have l1 := Rep.lt _ r1
 have l2 := Rep.lt _ r2
 have z13 := B13.size; have z23 := B23.size; have z1 := B1.size; have z4 := t4.size
 have q1 := Rep.keep _ (r1.below B13) (t4.keeps (l := bs1) fun y hy => ⟨by have := l1 y hy; omega, fun hm => hg1 (by rw [← List.mem_singleton.1 hm]; exact hy)⟩)
 have q2 := Rep.keep _ (r2.below B23) (t4.keeps (l := bs2) fun y hy => ⟨by have := l2 y hy; omega, fun hm => hg2 (by rw [← List.mem_singleton.1 hm]; exact hy)⟩)
 refine ⟨q1, q2, List.nodup_append.2 ⟨nd1, nd2, fun y h1 z h2 e => by subst e; have := l1 y h1; have := hb2 y h2; omega⟩, fun y hy => ?_, (below_tr B1 B13).trans (t4.below (by omega) (by simpa using hg0))⟩
 rcases List.mem_append.1 hy with h | h
 ·exact ⟨hb1 y h, by have := l1 y h; omega, fun e => hg1 (e ▸ h)⟩
 ·exact ⟨by have := hb2 y h; omega, by have := l2 y h; omega, fun e => hg2 (e ▸ h)⟩
end Go.Proofs.YtgogjbnneoadkaaGreat
