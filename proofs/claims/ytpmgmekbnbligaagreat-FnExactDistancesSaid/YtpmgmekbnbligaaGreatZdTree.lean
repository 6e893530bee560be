/- Slices of the call's own whose elements are slices of the call's own: they grow in place, at their last elements; no function of the program is walked here. -/
import Derived.Test.YtpmgmekbnbligaaGreatZdActs
set_option linter.all false
set_option linter.unusedSimpArgs false
set_option linter.unusedVariables false
namespace Go.Proofs.YtpmgmekbnbligaaGreat
open Go.ChangeShapes Go.WideShapes Go.ChangeAt Go.RowKit Go.Deep

section
variable {α : Type} {P : Program} {w w' : World} {B : Nat} {e : TypeId} {v : Value} {xs : List α} {x : α} {bs : List Nat}
theorem ownL_some (g n c : Nat) : ownL (.slice (some ⟨g, 0, none⟩) n c) = [g] := rfl
/-- append of one cell to a row of the call's own, its cells said -/
theorem wp_append_es {o : Oper} {a : Act} {K : Act → World → Prop} {Q : Exit → Act → World → Prop} {j : Nat} {es : List Value} (s x : Operand) (t : TypeId)
    (ho : o.op = .call { callee := .builtin .append, args := #[s, x], argTypes := #[t, t] })
    (z : Value) (ht : P.underlying t = some (.slice e)) (hinfo : (P.info? e).map (fun i => (i.zero, i.size, decide (i.bytes ≤ 1024))) = some (some z, 1, true)) (hzs : z.cells.size = 1) (hs : a.eval s = v) (hG : w.ownsRow B e 1 v j es) {g0 : Nat} {u : Value}
    (hx : a.eval x = .slice (some ⟨g0, 0, none⟩) 1 1) (hcell : w.cell? ⟨g0, 0, none⟩ = some u) (h1 : u.oneCell' = true) (h63 : j + 1 ≤ 1000000000) (hbase : B ≤ w.heap.size)
    (h : ∀ v' w', w'.ownsRow B e 1 v' (j + 1) (es ++ [u]) → Grew w w' v v' → K (a.put o.dst v') w') : o.wp P a w K Q := by
  obtain ⟨i, hi, hzz⟩ := Option.map_eq_some_iff.1 hinfo
  simp only [Prod.mk.injEq, decide_eq_true_iff] at hzz
  obtain ⟨v', w', hrun, h2, h3, _, h5⟩ := run_append_own_at (P := P) w B t o.type e i z 1 i.bytes ht hi hzz.1 hzz.2.1 rfl hzs (by omega) v j es hG ⟨g0, 0, none⟩ 1 1 [u] (by simp)
    (fun j u' hu => by
      rcases j with _ | j
      · rw [add_none]; simp at hu; rw [← hu]; exact hcell
      · simp at hu) (by simpa using h1) (by unfold maxLen; omega) (by have := Nat.mul_le_mul h63 hzz.2.2; omega) hbase
  unfold Oper.wp execOp
  simp only [ho, resolve, invoke, builtin, Sem.run_bind, Sem.run_pure, Result.andThen_ok, List.map_toArray, List.map_cons, List.map_nil, hs, hx, hrun]
  refine h v' w' h2 ⟨⟨h3.os, h3.tape, h3.output, h3.size, fun y hy hm => h3.block y hy fun e => hm (mem_ownL.2 e.symm)⟩, fun y hy => ?_⟩
  rcases h5 with h5 | h5
  · rw [h5] at hy; exact .inl hy
  · rw [h5] at hy
    have : w.heap.size = y := by simpa using hy
    exact .inr (by omega)
theorem Grew.ownL_nodup {u v : Value} {cb : List Nat} (h : Grew w w' u v) (hn : (ownL u ++ cb).Nodup) (hl : ∀ y ∈ cb, y < w.heap.size) : (ownL v ++ cb).Nodup := by
  refine List.nodup_append.2 ⟨?_, (List.nodup_append.1 hn).2.1, fun y hy z hz e => ?_⟩
  · unfold ownL; split <;> simp
  · subst e
    rcases h.own y (mem_ownL.1 hy) with h1 | h1
    · exact (List.nodup_append.1 hn).2.2 y (mem_ownL.2 h1) y hz rfl
    · have := hl y hz; omega
end

end Go.Proofs.YtpmgmekbnbligaaGreat
