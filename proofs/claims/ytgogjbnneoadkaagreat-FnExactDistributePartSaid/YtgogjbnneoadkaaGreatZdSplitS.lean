/- SplitLoop of the reference. -/
import Derived.Test.YtgogjbnneoadkaaGreatZdBegun
import Derived.Test.YtgogjbnneoadkaaGreatZdInsP
import Derived.Test.YtgogjbnneoadkaaGreatZdBasic
import Derived.Test.YtgogjbnneoadkaaGreatZdWith
import Derived.Test.YtgogjbnneoadkaaGreatZdDeps1
import Derived.Test.YtgogjbnneoadkaaGreatZdBoxNest
import Derived.Deep.CutBlock
set_option linter.all false
set_option maxHeartbeats 8000000
set_option maxRecDepth 100000
namespace Go.Proofs.YtgogjbnneoadkaaGreat
open Go.ChangeShapes Go.WideShapes Go.ChangeAt Go.RowKit Go.Deep
theorem Rep.pgm_of {w : World} {xs : List Ar} {ys : List Prt} {u v : Value} {d1 d2 : List Nat} (h1 : Rep w (sls Ar.d xs) [u] d1) (h2 : Rep w (sls Prt.d ys) [v] d2) : Rep w (⟨xs, ys⟩ : Pgm).d [u, v] (d1 ++ d2) :=
 ⟨[u], [v], d1, d2, rfl, rfl, h1, [v], [], d2, [], rfl, by simp, h2, rfl, rfl⟩
section
variable {P : Program} {w w' : World} {C : Nat → Prop} {B : Nat} {e : TypeId} {size : Nat} {v : Value} {xs ys : List D}
theorem wpList_append_S {ops : Array Oper} {rest : List Oper} {o : Oper} {a : Act} {Q : Exit → Act → World → Prop} (hgd : o.guard = none) (s x : Operand) (t : TypeId)
  (ho : o.op = .call { callee := .builtin .append, args := #[s, x], argTypes := #[t, t] })
  (z : Value) (ht : P.underlying t = some (.slice e)) (hinfo : (P.info? e).map (fun i => (i.zero, i.size, decide (i.bytes ≤ 1024))) = some (some z, size, true)) (hzs : z.cells.size = size) (hsz : 0 < size) (hs : a.eval s = v) (hG : GrowS w C B e size v xs)
  {A : Option Addr} {m c : Nat} {bs : List Nat} (hx : a.eval x = .slice A m c) (hr : Rep w (.sl ys) [.slice A m c] bs) (hys : ∀ y ∈ ys, y.size = size) (hlt : ∀ y ∈ bs, C y) (hCB : ∀ y, C y → y < B)
  (h63 : xs.length + ys.length ≤ 100000000000) (hbase : B ≤ w.heap.size)
  (h : ∀ v' w', GrowS w' C B e size v' (xs ++ ys) → Below B w w' → Grew w w' v v' → wpList P ops Q rest (a.put o.dst v') w') : wpList P ops Q (o :: rest) a w :=
 wpList_plain hgd fun _ hK => wp_append_S s x t ho z ht hinfo hzs hsz hs hG hx hr hys hlt hCB h63 hbase fun v' w' h2 h3 h4 => hK _ _ (h v' w' h2 h3 h4)
end
theorem CloneT_c {w : World} {xs : List Stm} {A : Option Addr} {n c : Nat} {bs : List Nat} (h : Rep w (sls Stm.d xs) [.slice A n c] bs) (hn : n ≤ 10000000) :
  Calls Tryz.prog 54 #[.slice A n c] w fun e w' => ∃ A' c' bs', e = .returned (.slice A' xs.length c') ∧ Rep w' (sls Stm.d xs) [.slice A' xs.length c'] bs' ∧ (∀ y ∈ bs', y ∈ bs ∨ w.heap.size ≤ y) ∧ Below w.heap.size w w' := by
 obtain ⟨rfl, _, _⟩ := h.sls_len
 have HN := Lib.hid hn; clear hn
 rcases A with _ | ad
 ·have hx : xs = [] := by
   obtain ⟨A', c', es, cb, he, _, _, hr, h0⟩ := h
   simp only [List.cons.injEq, Value.slice.injEq] at he
   obtain ⟨⟨rfl, _, rfl⟩, _⟩ := he
   rcases h0 with ⟨h1, _⟩ | ⟨_, _, h1, _⟩
   ·simpa using h1
   ·cases h1
  subst hx
  have hq := fun W => Lib.run_eql_slice_nil (P := Tryz.prog) W 52 102 none 0 c 0 0 Tryz.underlying52
  clear h
  go_enter Tryz.func54, Tryz.ntmps54
  go_wp2
  go_ret
  exact ⟨_, _, _, rfl, Rep.sls_nil (by unfold maxLen; omega), by simp, bel⟩
 ·have hq := fun W => Lib.run_eql_slice_nil (P := Tryz.prog) W 52 102 (some ad) xs.length c 0 0 Tryz.underlying52
  have HH := Lib.hid h
  have HL := Lib.hid (Rep.lt _ h)
  clear h
  go_enter Tryz.func54, Tryz.ntmps54
  go_wp2_with (at_builtin; go_loud (refine wpList_append_S (C := (· ∈ bs)) (B := w.heap.size) (xs := []) (ys := xs.map Stm.d) rfl (.tmp 5) (.tmp 6) _ rfl _ Tryz.underlying52 Tryz.infoStmt rfl (by decide) rfl (GrowS.made w _ _ _ rfl) rfl (HH.out.below bel) ?hys (fun _ h => h) HL.out ?h63 ?hba ?_; (case hys => (intro y hy; obtain ⟨z, _, rfl⟩ := List.mem_map.1 hy; exact Stm.d_size z)); (case h63 => (have := HN.out; simp; omega)); (case hba => simp); intro v' w1 hG hB _))
  have hS : Below w.heap.size w w1 := Below.trans (below_al (Below.refl _ _) _) hB
  rw [List.nil_append] at hG
  have hO := hG.own_ge
  obtain ⟨Av, cv, bv, rfl, hr, hbv⟩ := hG.rep
  have HBV := Lib.hid (fun y hy => (hbv y hy).imp id fun e => (hO y e).1 : ∀ y ∈ bv, y ∈ bs ∨ w.heap.size ≤ y)
  rw [List.length_map] at hr ⊢
  have HR := Lib.hid hr
  clear hG hB hr hO hbv
  go_wp2
  go_ret
  exact ⟨_, _, _, rfl, HR.out, HBV.out, hS⟩
theorem DistI_n {w : World} {p : Pgm} {k m : Int} {cs : List Value} {bs : List Nat} (h : Rep w p.d cs bs) (hk : (progOk p && inB k 0 ((p.parts.length : Int) - 1)) = false) :
  Calls Tryz.prog 16 #[.agg cs.toArray, .int .i64 k, .int .i64 m] w (MadePgmB w (⟨[], []⟩, false)) := by
 have HH := Lib.hid h
 obtain ⟨A1, c1, A2, c2, d1, d2, rfl, rfl, g1, g2⟩ := Rep.pgm_iff.1 h
 have HK := Lib.hid hk
 clear g1 g2 h hk
 go_enter Tryz.func16, Tryz.ntmps16
 go_wp2_with fail
 refine (begun_n (HH.out.below bel) HK.out).mono ?_
 rintro e w1 ⟨rfl, b1⟩
 have X1 : BoxW w1 (w.heap.size + 1) (.slice none 0 0) (.slice none 0 0) := BoxW.to ⟨⟨by go_simp, by go_simp⟩, by go_simp, by go_simp⟩ b1
 have S1 : Below w.heap.size w w1 := bel
 clear b1
 obtain ⟨⟨m1, m2⟩, m3, m4⟩ := X1
 have lt1 := lt_of_cell m1
 go_wp2
 exact bodyPost_ret (v := .tuple #[.agg #[.slice none 0 0, .slice none 0 0], .bool false]) (by simp [results, Tryz.results16, go_sem, m1, m2, lt1]) rfl (MadePgmB.nil bel)
theorem DistI_m {w : World} {p : Pgm} {k : Nat} {m : Int} {cs : List Value} {bs : List Nat} (h : Rep w p.d cs bs) (hv : progOk p = true) (hk : k < p.parts.length) (hq : inB m 1 ((p.parts[k].body.length : Int) - 1) = false) :
  Calls Tryz.prog 16 #[.agg cs.toArray, .int .i64 (k : Int), .int .i64 m] w (MadePgmB w (⟨[], []⟩, false)) := by
 have HH := Lib.hid h
 obtain ⟨A1, c1, A2, c2, d1, d2, rfl, rfl, g1, g2⟩ := Rep.pgm_iff.1 h
 have HV := Lib.hid hv
 have HQ := Lib.hid hq
 clear g1 g2 h hv hq
 go_enter Tryz.func16, Tryz.ntmps16
 go_wp2_with fail
 refine (begun_y (HH.out.below bel) HV.out hk).mono ?_
 rintro e w1 ⟨A1r, c1r, g, c2r, dd, B, rfl, r1, hd1, hG1, hB1, b1⟩
 have X1 : BoxW w1 (w.heap.size + 1) (.slice none 0 0) (.slice none 0 0) := BoxW.to ⟨⟨by go_simp, by go_simp⟩, by go_simp, by go_simp⟩ b1
 have S1 : Below w.heap.size w w1 := bel
 clear b1 hB1 hd1 r1
 have lt1 := lt_of_cell X1.1.1
 obtain ⟨es, cb, q1, q2, q3, q4, q5⟩ := hG1
 obtain ⟨e0, e1, e2, l0, l1, l2, rfl, rfl, he0, he1, r0, ⟨A1p, c1p, A2p, c2p, rfl, rp, hro⟩, r2⟩ := q2.at_ PrtO.ek hk
 have hnn : p.parts[k].body.length ≤ 1000000 := ((pgm_sm HV.out).2.2.2 _ (List.getElem_mem hk)).2.2.1
 have kc1 : w1.cell? ⟨g, k * 2 + 1, none⟩ = some (.slice A2p p.parts[k].body.length c2p) := by
  have := q1.cells (g := g) rfl (k * 2 + 1) (.slice A2p p.parts[k].body.length c2p) (by rw [List.append_assoc, List.getElem?_append_right (by omega), he0, Nat.add_sub_cancel_left]; rfl)
  rwa [add_none, Nat.zero_add] at this
 have ltg := lt_of_cell kc1
 have HX1 := Lib.hid X1
 clear q1 q2 q3 q4 q5 rp hro r0 r2 X1
 go_wp2_with fail
 refine (within_c _ _ _ _).mono ?_
 rintro e w3 ⟨rfl, rfl⟩
 rw [HQ.out]
 obtain ⟨⟨m1, m2⟩, m3, m4⟩ := HX1.out.to (show Below w1.heap.size w1 _ from bel)
 have lt2 := lt_of_cell m1
 go_wp2
 exact bodyPost_ret (v := .tuple #[.agg #[.slice none 0 0, .slice none 0 0], .bool false]) (by simp [results, Tryz.results16, go_sem, m1, m2, lt2]) rfl (MadePgmB.nil bel)
theorem wp_alloc1 {P : Program} {w : World} {o : Oper} {a : Act} {K : Act → World → Prop} {Q : Exit → Act → World → Prop} (e : TypeId) {cells : List Value}
  (hop : o.wp P a w K Q = K (a.put o.dst (.pointer (some ⟨w.heap.size, 0, none⟩))) (w.alloc (.cells cells.toArray e)))
  (h : ∀ w' g, Row w' g e cells → Below w.heap.size w w' → w.heap.size ≤ g → g < w'.heap.size → K (a.put o.dst (.pointer (some ⟨g, 0, none⟩))) w') : o.wp P a w K Q := by
 rw [hop]
 exact h _ _ (Row.new w cells e) ((Below.refl _ _).alloc (Nat.le_refl _) _) (Nat.le_refl _) (by simp)
end Go.Proofs.YtgogjbnneoadkaaGreat
