/- A bound of a nest's outermost loop changed in place: what is read then. -/
import Derived.Test.YtgogjbnneoadkaaGreatZtBegun
import Derived.Test.YtgogjbnneoadkaaGreatZtInsP
set_option linter.all false
namespace Go.Proofs.YtgogjbnneoadkaaGreat
open Go.ChangeShapes Go.WideShapes Go.ChangeAt Go.RowKit Go.Deep
section
variable {w : World} {A : Option Addr} {n c : Nat} {bs : List Nat}
theorem Rep.const_set {xs : List Aff} (h : Rep w (sls Aff.d xs) [.slice A n c] bs) (hn : bs.Nodup) (h0 : 0 < xs.length) :
  ∃ b o, A = some ⟨b, o, none⟩ ∧ b ∈ bs ∧ w.cell? ⟨b, o + 1, none⟩ = some (.int .i64 xs[0].const) ∧ w.frozen? ⟨b, o + 1, none⟩ = false ∧
   ∀ v, I64 v → Rep (w.setCell ⟨b, o + 1, none⟩ (.int .i64 v)) (sls Aff.d (xs.set 0 ⟨xs[0].coefs, v⟩)) [.slice A n c] bs := by
 obtain ⟨b, o, cs, l, rfl, hbl, hr, hbb, hlb, hnl, hbn, hc, hset⟩ := h.sls_focus Aff.d_size hn h0
 obtain ⟨A1, c1, d1, rfl, rfl, g1, g2⟩ := Rep.aff_iff2.1 hr
 have h1 := hc 1 _ rfl
 rw [Nat.zero_mul, Nat.add_zero] at h1
 refine ⟨b, o, rfl, hbb, h1.1, h1.2, fun v hv => ?_⟩
 have hk : Keeps w (w.setCell ⟨b, o + 1, none⟩ (.int .i64 v)) l := (Keeps.refl _ _).setCell hbn _
 refine hset _ ⟨xs[0].coefs, v⟩ [.slice A1 xs[0].coefs.length c1, .int .i64 v] (Rep.aff_iff2.2 ⟨_, _, _, rfl, rfl, Rep.keep _ g1 hk, hv⟩) ((Touch.refl _ _).setCell (by simp) _) (fun i => by rw [World.frozen?_setCell]) (fun j u hu => ?_) (fun i hi => ?_)
 ·rw [Nat.zero_mul, Nat.add_zero]
  rcases j with _ | _ | j
  ·obtain rfl : Value.slice A1 xs[0].coefs.length c1 = u := by simpa using hu
   have h0 := (hc 0 _ rfl).1
   rw [Nat.zero_mul, Nat.add_zero] at h0
   rw [World.cell?_setCell_other _ _ _ _ (by simp)]
   exact h0
  ·obtain rfl : Value.int .i64 v = u := by simpa using hu
   exact World.cell?_setCell_same _ _ _ h1.1
  ·simp at hu
 ·rw [World.cell?_setCell_other _ _ _ _ (by intro e; cases e; omega)]
theorem Rep.hi_set {xs : List Lp} (h : Rep w (sls Lp.d xs) [.slice A n c] bs) (hn : bs.Nodup) (h0 : 0 < xs.length) (h1 : 0 < xs[0].hi.length) :
  ∃ b o b2 o2 c2, A = some ⟨b, o, none⟩ ∧ w.cell? ⟨b, o + 1, none⟩ = some (.slice (some ⟨b2, o2, none⟩) xs[0].hi.length c2) ∧ b2 ∈ bs ∧ w.cell? ⟨b2, o2 + 1, none⟩ = some (.int .i64 xs[0].hi[0].const) ∧ w.frozen? ⟨b2, o2 + 1, none⟩ = false ∧
   ∀ v, I64 v → Rep (w.setCell ⟨b2, o2 + 1, none⟩ (.int .i64 v)) (sls Lp.d (xs.set 0 ⟨xs[0].lo, xs[0].hi.set 0 ⟨xs[0].hi[0].coefs, v⟩⟩)) [.slice A n c] bs := by
 obtain ⟨b, o, cs, l, rfl, hbl, hr, hbb, hlb, hnl, hbn, hc, hset⟩ := h.sls_focus Lp.d_size hn h0
 obtain ⟨A1, c1, A2, c2, d1, d2, rfl, rfl, g1, g2⟩ := Rep.lp_iff.1 hr
 obtain ⟨n1, n2, n3⟩ := nd_app hnl
 obtain ⟨b2, o2, rfl, hb2, k1, k2, k3⟩ := g2.const_set n2 h1
 have e1 := hc 1 _ rfl
 rw [Nat.zero_mul, Nat.add_zero] at e1
 refine ⟨b, o, b2, o2, c2, rfl, e1.1, hlb _ (List.mem_append_right _ hb2), k1, k2, fun v hv => ?_⟩
 have hne : b2 ≠ b := fun e => hbn (e ▸ List.mem_append_right _ hb2)
 refine hset _ ⟨xs[0].lo, xs[0].hi.set 0 ⟨xs[0].hi[0].coefs, v⟩⟩ [.slice A1 xs[0].lo.length c1, .slice (some ⟨b2, o2, none⟩) xs[0].hi.length c2] (Rep.lp_iff.2 ⟨A1, c1, some ⟨b2, o2, none⟩, c2, d1, d2, by rw [List.length_set], rfl, Rep.keep _ g1 ((Keeps.refl _ _).setCell (fun hm => n3 _ hm hb2) _), by rw [List.length_set]; exact k3 v hv⟩) ((Touch.refl _ _).setCell (by simp [hb2]) _) (fun i => by rw [World.frozen?_setCell]) (fun j u hu => ?_) (fun i hi => ?_)
 ·rw [World.cell?_setCell_other _ _ _ _ (fun e => hne (congrArg Addr.block e))]
  exact (hc j u hu).1
 ·rw [World.cell?_setCell_other _ _ _ _ (fun e => hne (congrArg Addr.block e))]
theorem Rep.lo_set {xs : List Lp} (h : Rep w (sls Lp.d xs) [.slice A n c] bs) (hn : bs.Nodup) (h0 : 0 < xs.length) (h1 : 0 < xs[0].lo.length) :
  ∃ b o b2 o2 c2, A = some ⟨b, o, none⟩ ∧ b ∈ bs ∧ w.cell? ⟨b, o, none⟩ = some (.slice (some ⟨b2, o2, none⟩) xs[0].lo.length c2) ∧ b2 ∈ bs ∧ w.cell? ⟨b2, o2 + 1, none⟩ = some (.int .i64 xs[0].lo[0].const) ∧ w.frozen? ⟨b2, o2 + 1, none⟩ = false ∧
   ∀ v, I64 v → Rep (w.setCell ⟨b2, o2 + 1, none⟩ (.int .i64 v)) (sls Lp.d (xs.set 0 ⟨xs[0].lo.set 0 ⟨xs[0].lo[0].coefs, v⟩, xs[0].hi⟩)) [.slice A n c] bs := by
 obtain ⟨b, o, cs, l, rfl, hbl, hr, hbb, hlb, hnl, hbn, hc, hset⟩ := h.sls_focus Lp.d_size hn h0
 obtain ⟨A1, c1, A2, c2, d1, d2, rfl, rfl, g1, g2⟩ := Rep.lp_iff.1 hr
 obtain ⟨n1, n2, n3⟩ := nd_app hnl
 obtain ⟨b2, o2, rfl, hb2, k1, k2, k3⟩ := g1.const_set n1 h1
 have e1 := hc 0 _ rfl
 rw [Nat.zero_mul, Nat.add_zero] at e1
 refine ⟨b, o, b2, o2, c1, rfl, hbb, e1.1, hlb _ (List.mem_append_left _ hb2), k1, k2, fun v hv => ?_⟩
 have hne : b2 ≠ b := fun e => hbn (e ▸ List.mem_append_left _ hb2)
 refine hset _ ⟨xs[0].lo.set 0 ⟨xs[0].lo[0].coefs, v⟩, xs[0].hi⟩ [.slice (some ⟨b2, o2, none⟩) xs[0].lo.length c1, .slice A2 xs[0].hi.length c2] (Rep.lp_iff.2 ⟨some ⟨b2, o2, none⟩, c1, A2, c2, d1, d2, by rw [List.length_set], rfl, by rw [List.length_set]; exact k3 v hv, Rep.keep _ g2 ((Keeps.refl _ _).setCell (fun hm => n3 _ hb2 hm) _)⟩) ((Touch.refl _ _).setCell (by simp [hb2]) _) (fun i => by rw [World.frozen?_setCell]) (fun j u hu => ?_) (fun i hi => ?_)
 ·rw [World.cell?_setCell_other _ _ _ _ (fun e => hne (congrArg Addr.block e))]
  exact (hc j u hu).1
 ·rw [World.cell?_setCell_other _ _ _ _ (fun e => hne (congrArg Addr.block e))]
end
theorem head_tail {α : Type} {xs : List α} (h : 0 < xs.length) (y : α) : xs.set 0 y = y :: xs.tail := by
 match xs, h with
 | x :: xs, _ => rfl
theorem split_hi {w : World} {x : Prt} {b1 o1 : Nat} {n c1 : Nat} {A2 : Option Addr} {n2 c2 : Nat} {l1 : List Nat} {lo hi a : Int} (h : Rep w x.d [.slice (some ⟨b1, o1, none⟩) n c1, .slice A2 n2 c2] l1) (hn : l1.Nodup) (h0 : 0 < x.nest.length) (hx : x.nest[0] = ⟨[affConst lo], [affConst hi]⟩) (ha : I64 a) :
  ∃ b2 o2 c2q, w.cell? ⟨b1, o1 + 1, none⟩ = some (.slice (some ⟨b2, o2, none⟩) 1 c2q) ∧ b2 ∈ l1 ∧ w.cell? ⟨b2, o2 + 1, none⟩ = some (.int .i64 hi) ∧ w.frozen? ⟨b2, o2 + 1, none⟩ = false ∧
   Rep (w.setCell ⟨b2, o2 + 1, none⟩ (.int .i64 a)) (⟨⟨[affConst lo], [affConst a]⟩ :: x.nest.tail, x.body⟩ : Prt).d [.slice (some ⟨b1, o1, none⟩) n c1, .slice A2 n2 c2] l1 := by
 obtain ⟨A1t, c1t, A2t, c2t, f3, f4, ef, rfl, gN, gB⟩ := Rep.prt_iff.1 h
 simp only [List.cons.injEq, Value.slice.injEq, and_true] at ef
 obtain ⟨⟨rfl, rfl, rfl⟩, rfl, rfl, rfl⟩ := ef
 obtain ⟨nd1, nd2, nd3⟩ := nd_app hn
 obtain ⟨b, o, b2, o2, c2q, hb, k1, hb2, k2, k3, hset⟩ := gN.hi_set nd1 h0 (by rw [hx]; exact Nat.one_pos)
 simp only [Option.some.injEq, Addr.mk.injEq, and_true] at hb
 obtain ⟨rfl, rfl⟩ := hb
 have hs := hset a ha
 simp only [hx, head_tail h0] at k1 k2 hs
 refine ⟨b2, o2, c2q, k1, List.mem_append_left _ hb2, k2, k3, Rep.prt_iff.2 ⟨some ⟨b1, o1, none⟩, c1, A2, c2, f3, f4, ?_, rfl, ?_, Rep.keep _ gB ((Keeps.refl _ _).setCell (fun hm => nd3 _ hb2 hm) _)⟩⟩
 ·simp only [List.length_cons, List.length_tail, Nat.sub_add_cancel h0]
 ·simp only [List.length_cons, List.length_tail, Nat.sub_add_cancel h0]
  exact hs
theorem split_lo {w : World} {x : Prt} {A1 : Option Addr} {n c1 : Nat} {A2 : Option Addr} {n2 c2 : Nat} {l1 : List Nat} {lo hi a : Int} (h : Rep w x.d [.slice A1 n c1, .slice A2 n2 c2] l1) (hn : l1.Nodup) (h0 : 0 < x.nest.length) (hx : x.nest[0] = ⟨[affConst lo], [affConst hi]⟩) (ha : I64 a) :
  ∃ b1 o1 b2 o2 c2q, A1 = some ⟨b1, o1, none⟩ ∧ b1 ∈ l1 ∧ w.cell? ⟨b1, o1, none⟩ = some (.slice (some ⟨b2, o2, none⟩) 1 c2q) ∧ b2 ∈ l1 ∧ w.cell? ⟨b2, o2 + 1, none⟩ = some (.int .i64 lo) ∧ w.frozen? ⟨b2, o2 + 1, none⟩ = false ∧
   Rep (w.setCell ⟨b2, o2 + 1, none⟩ (.int .i64 a)) (⟨⟨[affConst a], [affConst hi]⟩ :: x.nest.tail, x.body⟩ : Prt).d [.slice A1 n c1, .slice A2 n2 c2] l1 := by
 obtain ⟨A1t, c1t, A2t, c2t, f3, f4, ef, rfl, gN, gB⟩ := Rep.prt_iff.1 h
 simp only [List.cons.injEq, Value.slice.injEq, and_true] at ef
 obtain ⟨⟨rfl, rfl, rfl⟩, rfl, rfl, rfl⟩ := ef
 obtain ⟨nd1, nd2, nd3⟩ := nd_app hn
 obtain ⟨b, o, b2, o2, c2q, rfl, hb1, k1, hb2, k2, k3, hset⟩ := gN.lo_set nd1 h0 (by rw [hx]; exact Nat.one_pos)
 have hs := hset a ha
 simp only [hx, head_tail h0] at k1 k2 hs
 refine ⟨b, o, b2, o2, c2q, rfl, List.mem_append_left _ hb1, k1, List.mem_append_left _ hb2, k2, k3, Rep.prt_iff.2 ⟨some ⟨b, o, none⟩, c1, A2, c2, f3, f4, ?_, rfl, ?_, Rep.keep _ gB ((Keeps.refl _ _).setCell (fun hm => nd3 _ hb2 hm) _)⟩⟩
 ·simp only [List.length_cons, List.length_tail, Nat.sub_add_cancel h0]
 ·simp only [List.length_cons, List.length_tail, Nat.sub_add_cancel h0]
  exact hs
def MadeLo (w : World) (x : Prt) (lo hi a : Int) (e : Ending) (w' : World) : Prop :=
 ∃ b3 o3 c1 A2 c2 bs b4 o4 c4, e = .returned (.agg #[.slice (some ⟨b3, o3, none⟩) x.nest.length c1, .slice A2 x.body.length c2]) ∧ bs.Nodup ∧ (∀ b ∈ bs, w.heap.size ≤ b) ∧ Below w.heap.size w w' ∧
  Rep w' x.d [.slice (some ⟨b3, o3, none⟩) x.nest.length c1, .slice A2 x.body.length c2] bs ∧
  b3 ∈ bs ∧ w'.cell? ⟨b3, o3, none⟩ = some (.slice (some ⟨b4, o4, none⟩) 1 c4) ∧ b4 ∈ bs ∧ w'.cell? ⟨b4, o4 + 1, none⟩ = some (.int .i64 lo) ∧ w'.frozen? ⟨b4, o4 + 1, none⟩ = false ∧
  Rep (w'.setCell ⟨b4, o4 + 1, none⟩ (.int .i64 a)) (⟨⟨[affConst a], [affConst hi]⟩ :: x.nest.tail, x.body⟩ : Prt).d [.slice (some ⟨b3, o3, none⟩) x.nest.length c1, .slice A2 x.body.length c2] bs
theorem MadeP.lo {w w' : World} {x : Prt} {e : Ending} (h : MadeP w x e w') {lo hi a : Int} (h0 : 0 < x.nest.length) (hx : x.nest[0] = ⟨[affConst lo], [affConst hi]⟩) (ha : I64 a) : MadeLo w x lo hi a e w' := by
 obtain ⟨A1, c1, A2, c2, bs, rfl, hp, h2, h3, h4⟩ := h
 obtain ⟨b1, o1, b2, o2, c2q, rfl, q0, q1, q2, q3, q4, q5⟩ := split_lo hp.rep h2 h0 hx ha
 exact ⟨b1, o1, c1, A2, c2, bs, b2, o2, c2q, rfl, h2, h3, h4, hp.rep, q0, q1, q2, q3, q4, q5⟩
theorem Rep.pgm_of {w : World} {xs : List Ar} {ys : List Prt} {u v : Value} {d1 d2 : List Nat} (h1 : Rep w (sls Ar.d xs) [u] d1) (h2 : Rep w (sls Prt.d ys) [v] d2) : Rep w (⟨xs, ys⟩ : Pgm).d [u, v] (d1 ++ d2) :=
 ⟨[u], [v], d1, d2, rfl, rfl, h1, [v], [], d2, [], rfl, by simp, h2, rfl, rfl⟩
theorem split_fin {w1 w3 w8 : World} {B g np b2 o2 b4 o4 : Nat} {T : TypeId} {a : Int} {x1 x2 : Obj} {e0 e1 e2 ns : List Value} {l0 l1 l2 bso : List Nat} {xs zs : List Prt} {y1 y2 : Prt} {v' : Value}
  (h0 : Reps w1 (xs.map Prt.d) e0 l0) (h1 : Rep (w3.setCell ⟨b2, o2, none⟩ (.int .i64 a)) y1.d e1 l1) (h2 : Reps w1 (zs.map Prt.d) e2 l2) (h4 : Rep (w3.setCell ⟨b4, o4, none⟩ (.int .i64 a)) y2.d ns bso)
  (hnd : (l0 ++ l1 ++ l2).Nodup) (hg : g ∉ l0 ++ l1 ++ l2) (hgl : g < w1.heap.size) (hb2 : b2 ∈ l1) (hb4 : b4 ∈ bso) (hbo : ∀ y ∈ bso, w1.heap.size < y) (hl1 : ∀ y ∈ l1, y < w1.heap.size) (T3 : Below w1.heap.size w1 w3)
  (t8 : Touch [g] ((((w3.setCell ⟨b2, o2, none⟩ (.int .i64 a)).setCell ⟨b4, o4, none⟩ (.int .i64 a)).alloc x1).alloc x2) w8)
  (hown : w8.ownsRow B T 2 v' (np + 1) (e0 ++ e1 ++ ns ++ e2)) (hlen : np + 1 = xs.length + 2 + zs.length) (hv : ∀ y, v'.ownBlock = some y → y ≠ w1.heap.size) :
  ∃ A c bs9, v' = .slice A (np + 1) c ∧ Rep w8 (sls Prt.d (xs ++ y1 :: y2 :: zs)) [.slice A (np + 1) c] bs9 ∧ ∀ y ∈ bs9, y ≠ w1.heap.size := by
 have hs8 := t8.size
 simp [World.setCell] at hs8
 have K6 : ∀ y, y < w3.heap.size → y ≠ g → w8.heap[y]? = ((w3.setCell ⟨b2, o2, none⟩ (.int .i64 a)).setCell ⟨b4, o4, none⟩ (.int .i64 a)).heap[y]? := fun y hy hne => by
  rw [t8.block y (by simp; omega) (by simpa using hne), Below.heap_alloc _ _ _ (by simp; omega), Below.heap_alloc _ _ _ (by simp; omega)]
 have hz3 := T3.size
 have K1 : ∀ y, y < w1.heap.size → y ≠ g → y ≠ b2 → w8.heap[y]? = w1.heap[y]? := fun y hy hne h2 => by
  have := hbo _ hb4
  rw [K6 y (by omega) hne, Below.heap_setCell _ _ _ _ (by simp; omega), Below.heap_setCell _ _ _ _ (by simpa using h2), T3.block y hy]
 obtain ⟨n1, n2, n3⟩ := nd_app hnd
 obtain ⟨n4, n5, n6⟩ := nd_app n1
 have q0 : Reps w8 (xs.map Prt.d) e0 l0 := Reps.keep _ h0 ⟨by omega, fun y hy => K1 y (Reps.lt _ h0 y hy) (fun e => hg (by simp [← e, hy])) (fun e => n6 y hy (e ▸ hb2))⟩
 have q2 : Reps w8 (zs.map Prt.d) e2 l2 := Reps.keep _ h2 ⟨by omega, fun y hy => K1 y (Reps.lt _ h2 y hy) (fun e => hg (by simp [← e, hy])) (fun e => n3 b2 (by simp [hb2]) (e ▸ hy))⟩
 have q1 : Rep w8 y1.d e1 l1 := Rep.keep _ h1 ⟨by simp [World.setCell]; omega, fun y hy => by
  have := hbo _ hb4
  have := hl1 y hy
  rw [K6 y (by omega) (fun e => hg (by simp [← e, hy])), Below.heap_setCell _ _ _ _ (by simp; omega)]⟩
 have q4 : Rep w8 y2.d ns bso := Rep.keep _ h4 ⟨by simp [World.setCell]; omega, fun y hy => by
  have h5 := hbo _ hy
  have h6 := Rep.lt _ h4 y hy
  have h7 := hl1 _ hb2
  simp [World.setCell] at h6
  rw [K6 y h6 (by omega)]
  by_cases hy4 : y = b4
  ·subst hy4
   simp only [World.setCell, Array.getElem?_modify, show ¬ b2 = y by omega, if_false]
  ·rw [Below.heap_setCell _ _ _ _ (by simpa using hy4), Below.heap_setCell _ _ _ _ (by simp; omega), Below.heap_setCell _ _ _ _ (by simpa using hy4)]⟩
 have hr : Reps w8 ((xs ++ y1 :: y2 :: zs).map Prt.d) (e0 ++ e1 ++ ns ++ e2) (l0 ++ (l1 ++ (bso ++ l2))) := by
  rw [List.map_append, List.append_assoc, List.append_assoc]
  exact (Reps_append _ _).2 ⟨_, _, _, _, rfl, rfl, q0, _, _, _, _, rfl, rfl, q1, _, _, _, _, rfl, rfl, q4, q2⟩
 obtain ⟨A, c, bs, rfl, h6, h7⟩ := Rep.of_own hown (by simp; omega) hr
 refine ⟨A, c, bs, rfl, h6, ?_⟩
 have hin : ∀ y ∈ l0 ++ (l1 ++ (bso ++ l2)), y ≠ w1.heap.size := fun y hy => by
  simp only [List.mem_append] at hy
  rcases hy with hy | hy | hy | hy
  ·have := Reps.lt _ h0 y hy; omega
  ·have := hl1 y hy; omega
  ·have := hbo y hy; omega
  ·have := Reps.lt _ h2 y hy; omega
 rcases h7 with ⟨_, rfl⟩ | ⟨gg, rfl, _, hgg⟩
 ·simp
 ·intro y hy
  rcases List.mem_cons.1 hy with rfl | hy
  ·exact hv _ hgg
  ·exact hin y hy
end Go.Proofs.YtgogjbnneoadkaaGreat
