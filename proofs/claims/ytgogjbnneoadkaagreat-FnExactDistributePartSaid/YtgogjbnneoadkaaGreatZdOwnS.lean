/- The reference's copies that share no memory: l16Own<T>, l16OwnList<T>. Printed by owngen.py. -/
import Derived.Test.YtgogjbnneoadkaaGreatZdBoxNest
import Derived.Test.YtgogjbnneoadkaaGreatZdCopy
import Derived.Test.YtgogjbnneoadkaaGreatZdPgF
set_option linter.all false
set_option maxHeartbeats 4000000
set_option maxRecDepth 100000
namespace Go.Proofs.YtgogjbnneoadkaaGreat
open Go.ChangeShapes Go.WideShapes Go.ChangeAt Go.RowKit Go.Deep
theorem MadeS.of_grow {α : Type} {f : α → D} {w w' : World} {e : TypeId} {size : Nat} {v : Value} {xs : List α} (h : Grow w' w.heap.size e size v (xs.map f)) (hb : Below w.heap.size w w') : MadeS w (sls f xs) (.returned v) w' := by
 obtain ⟨A, c, bs, rfl, h1, h2, h3⟩ := h.rep
 exact ⟨A, _, c, bs, rfl, h1, h2, h3, hb⟩
theorem wpList_append_copy {P : Program} {w : World} {B N : Nat} {e t : TypeId} {ops : Array Oper} {rest : List Oper} {o : Oper} {a : Act} {Q : Exit → Act → World → Prop} (hgd : o.guard = none) (s x : Operand)
  (ho : o.op = .call { callee := .builtin .append, args := #[s, x], argTypes := #[t, t] })
  (ht : P.underlying t = some (.slice e)) (hinfo : (P.info? e).map (fun i => (i.zero, i.size, decide (i.bytes ≤ 1024))) = some (some (.int .i64 0), 1, true)) (hs : a.eval s = .slice (some ⟨N, 0, none⟩) 0 0) (hG : Grow w B e 1 (.slice (some ⟨N, 0, none⟩) 0 0) [])
  {ys : List Int} {A : Option Addr} {m c : Nat} {bs : List Nat} (hx : a.eval x = .slice A m c) (hr : Rep w (ints ys) [.slice A m c] bs) (h63 : ys.length ≤ 10000000) (hbase : B ≤ w.heap.size)
  (h : ∀ v' w', Grow w' B e 1 v' (ys.map D.int) → Grew w w' (.slice (some ⟨N, 0, none⟩) 0 0) v' → wpList P ops Q rest (a.put o.dst v') w') : wpList P ops Q (o :: rest) a w :=
 wpList_plain hgd fun _ hK => wp_append_copy s x ho ht hinfo hs hG hx hr h63 hbase fun v' w' h2 h3 => hK _ _ (h v' w' h2 h3)
theorem l16OwnAffine_c {w : World} {x : Aff} {cs : List Value} {bs : List Nat} (h : Rep w x.d cs bs) (hz : szD x.d ≤ 10000000) :
  Calls Tryz.prog 234 #[.agg cs.toArray] w (MadeT w x.d) := by
 rw [szD_aff] at hz
 have hl : x.coefs.length ≤ 10000000 := by omega
 clear hz
 obtain ⟨A, c, d1, rfl, rfl, hra, hI⟩ := Rep.aff_iff2.1 h
 have HA := Lib.hid hra; clear hra h
 have HI := Lib.hid hI; clear hI
 have hn : x.coefs.length ≤ 9223372036854775807 := by omega
 go_enter Tryz.func234, Tryz.ntmps234
 go_wp2_with (
  at_builtin
  refine wpList_append_copy (B := w.heap.size + 2) rfl (.tmp 3) (.tmp 5) rfl Tryz.underlying39 Tryz.infoInt rfl ?hG rfl (HA.out.below bel) hl (by first | (simp; done) | (simp; omega) | omega) ?_
  case hG => (repeat (first | exact Grow.madeE _ _ (by simp) (by simp) | refine Grow.drewG ?_ | refine Grow.allocG ?_ _))
  intro v4 w4 hG4 hg4
  obtain ⟨A4, c4, bs4, rfl, r4, nd4, hb4, ho4⟩ := hG4.ints
  have b4 : Below (w.heap.size + 2) _ w4 := hg4.below (by first | (simp; done) | (simp; omega) | omega) (fun y hy => by have h5 : some _ = some y := hy; have h6 := Option.some.inj h5; clear h5 hy; simp at h6; omega)
  have B4 := b4.mono (show w.heap.size ≤ w.heap.size + 2 by omega)
  clear hG4
  refine have_of (Q := BoxW w4 w.heap.size (.slice A x.coefs.length c) (.int .i64 x.const) ∧ BoxW w4 (w.heap.size + 1) (.slice none 0 0) (.int .i64 0)) ?hq ?_
  case hq => constructor <;> (refine hg4.touch.boxW ⟨⟨?_, ?_⟩, ?_, ?_⟩ ?_ <;> first | (go_simp; done) | (intro hm; have h6 := own_some hm; first | omega | (simp at h6; done) | (simp at h6; omega)))
  rintro ⟨⟨⟨P5a, P5b⟩, P5c, P5d⟩, ⟨Q5a, Q5b⟩, Q5c, Q5d⟩)
 have hnb : w.heap.size + 1 ∉ bs4 := fun hm => by have := hb4 _ hm; omega
 have hna : w.heap.size ∉ bs4 := fun hm => by have := hb4 _ hm; omega
 have S4 : Below w.heap.size w w4 := by
  refine Below.trans ?_ B4
  (repeat (first | with_reducible exact Below.refl _ _ | refine Below.setCell ?_ (by simp; try omega) _ | refine below_al ?_ _ | refine Below.alloc ?_ (by simp [World.setCell]; try omega) _ | refine below_drewN ?_ _ | refine Below.drew ?_ | refine below_tr ?_ ‹Below _ _ _›))
 have hb5 : ∀ y ∈ bs4, w.heap.size ≤ y := fun y hy => by have := hb4 y hy; omega
 clear hb4 ho4 hg4 b4 B4
 go_wp2
 exact bodyPost_ret (v := .agg #[.slice A4 x.coefs.length c4, .int .i64 x.const]) (by simp [results, Tryz.results234, go_sem, P5a, P5b, Q5a, Q5b]) rfl ⟨[.slice A4 x.coefs.length c4, .int .i64 x.const], bs4, rfl, Rep.aff_iff2.2 ⟨_, _, _, rfl, rfl, Rep.keep _ r4 (by repeat (first | with_reducible exact Keeps.refl _ _ | refine Keeps.setCell ?_ (by first | exact hna | exact hnb) _)), HI.out⟩, nd4, hb5, (by repeat (first | with_reducible exact S4 | refine Below.setCell ?_ (by simp; try omega) _))⟩
theorem l16OwnListAffine_c {xs : List Aff} {w : World} {A : Option Addr} {n c : Nat} {bs : List Nat} (h : Rep w (sls Aff.d xs) [.slice A n c] bs) (hz : szD (sls Aff.d xs) ≤ 10000000) :
  Calls Tryz.prog 221 #[.slice A n c] w (MadeS w (sls Aff.d xs)) := by
 obtain ⟨rfl, h2, h3⟩ := h.sls_len
 have hn : xs.length ≤ 9223372036854775807 := Nat.le_trans h2 h3
 have H := Lib.hid h; clear h h2 h3
 have HZ := Lib.hid (show xs.length + szDs (xs.map Aff.d) ≤ 10000000 by rw [← szD_sls]; exact hz); clear hz
 go_enter Tryz.func221, Tryz.ntmps221
 go_wp2
 go_loopw [3, 9] (fun u i wr => ∃ j : Nat, j ≤ xs.length ∧ i = .int .i64 j ∧ Grow wr w.heap.size 61 2 u ((xs.take j).map Aff.d) ∧ Below w.heap.size w wr) (fun _ i _ => xs.length - (intOf i).toNat)
 case atStart => exact ⟨0, Nat.zero_le _, rfl, Grow.made _ _ _ (Nat.le_refl _), bel⟩
 case round =>
  obtain ⟨j, hj, rfl, hG, hb⟩ := hrel
  have HG := Lib.hid hG; clear hG
  by_cases hlt : j < xs.length
  ·have HT := Lib.hid (show (xs.take (j + 1)).map Aff.d = (xs.take j).map Aff.d ++ [Aff.d xs[j]] by rw [List.take_succ_eq_append_getElem hlt, List.map_append]; rfl)
   have hsz1 := szTo_succ Aff.d hlt
   have hsz2 := szTo_le Aff.d (xs := xs) (j + 1)
   have HX := Lib.hid (show szD (Aff.d xs[j]) ≤ 10000000 by have := HZ.out; omega); clear hsz1 hsz2
   have HL := Lib.hid (show j + 1 ≤ 1000000000 by have := HZ.out; omega)
   obtain ⟨b, o, cs, l, rfl, hbl, hr, _, _, hc⟩ := (H.out.below hb).sls_at Aff.d_size (k := j) hlt
   have G := Lib.hid hr
   obtain ⟨A1, c1, d1, rfl, rfl, g1, g2⟩ := Rep.aff_iff2.1 hr
   have k0 := (hc 0 _ rfl).1; rw [Nat.add_zero] at k0
   have k1 := (hc 1 _ rfl).1
   clear hc hr g1 g2
   go_wp2_with fail
   refine (l16OwnAffine_c (G.out.below bel) HX.out).mono ?_
   rintro e w1 ⟨cs1, bs1, rfl, r1', nd1, hb1, b1⟩
   have R1 := Lib.hid r1'
   obtain ⟨A1r, c1r, d1r, hcs1, _⟩ := Rep.aff_iff2.1 r1'
   subst hcs1
   clear r1'
   have HB1 := Lib.hid (show ∀ y ∈ bs1, wr.heap.size ≤ y from fun y hy => by have := hb1 y hy; (try simp at this); omega)
   have N1 := Lib.hid nd1; clear nd1 hb1
   have S1 : Below wr.heap.size wr w1 := bel
   clear b1
   go_wp2_with (
    at_builtin
    refine wpList_append_grow (w0 := wr) rfl (.tmp 13) (.tmp 16) _ rfl _ Tryz.underlying57 Tryz.infoAff rfl (by decide) rfl HG.out ?hbw (d := Aff.d xs[j]) (news := [.slice A1r xs[j].coefs.length c1r, .int .i64 xs[j].const]) rfl ?hrep N1.out HB1.out (new_cellsN _ [_, _] _ (by simp)) rfl ?hone ?hlen hb.size ?_
    case hbw => exact bel
    case hrep => exact R1.out.below ((Below.refl _ _).alloc (Nat.le_refl _) _)
    case hone => intro u hu; simp only [List.mem_cons, List.not_mem_nil, or_false] at hu; rcases hu with rfl | rfl <;> rfl
    case hlen => have := HL.out; simp only [List.length_map, List.length_take]; omega
    intro v' w4 hG4 hB4)
   rw [← HT.out] at hG4
   have S4 : Below w.heap.size w w4 := Below.trans (below_tr hb (show Below wr.heap.size wr _ from bel)) hB4
   clear HG
   go_wp2
   go_roundw
   case rel => exact ⟨j + 1, by omega, by go_num, hG4, S4⟩
   case measure => simp [intOf]; omega
  ·have hjj : j = xs.length := by omega
   subst hjj
   have hg := HG.out; clear HG
   rw [List.take_length] at hg
   obtain ⟨Au, cu, hfu, _, _⟩ := hg.form
   subst hfu
   have HG := Lib.hid hg; clear hg
   go_wp2
   go_ret
   exact MadeS.of_grow HG.out hb
theorem l16OwnAccess_c {x : Acc} {w : World} {cs : List Value} {bs : List Nat} (h : Rep w x.d cs bs) (hz : szD x.d ≤ 10000000) :
  Calls Tryz.prog 222 #[.agg cs.toArray] w (MadeT w x.d) := by
 rw [szD_acc] at hz
 obtain ⟨A2, c2, d2, rfl, rfl, g1, g2⟩ := Rep.acc_iff.1 h
 have G2 := Lib.hid g2
 have Z2 := Lib.hid (show szD (sls Aff.d x.subs) ≤ 10000000 by omega)
 have I1 := Lib.hid g1
 clear h hz g1 g2
 go_enter Tryz.func222, Tryz.ntmps222
 go_wp2_with fail
 refine (l16OwnListAffine_c (G2.out.below bel) Z2.out).mono ?_
 rintro e w1 ⟨Ar1, nr1, cr1, bs1, rfl, r1, nd1, hy1, b1⟩
 obtain ⟨hn1, _, _⟩ := r1.sls_len
 subst hn1
 have hb1 : ∀ y ∈ bs1, w.heap.size + 2 ≤ y := fun y hy => by have := hy1 y hy; (try simp [World.setCell] at this); omega
 have PA1 : w1.cell? ⟨w.heap.size, 0, none⟩ = some (.string x.arr) ∧ w1.cell? ⟨w.heap.size, 1, none⟩ = some (.slice A2 x.subs.length c2) := by
  refine ⟨?_, ?_⟩ <;> (rw [b1.cell (by simp [World.setCell]; try (omega))]; go_simp)
 have PR1 : w1.cell? ⟨w.heap.size + 1, 0, none⟩ = some (.string ⟨#[]⟩) ∧ w1.cell? ⟨w.heap.size + 1, 1, none⟩ = some (.slice none 0 0) := by
  refine ⟨?_, ?_⟩ <;> (rw [b1.cell (by simp [World.setCell]; try (omega))]; go_simp)
 have F1 : w1.frozen? ⟨w.heap.size, 0, none⟩ = false ∧ w1.frozen? ⟨w.heap.size, 1, none⟩ = false ∧ w1.frozen? ⟨w.heap.size + 1, 0, none⟩ = false ∧ w1.frozen? ⟨w.heap.size + 1, 1, none⟩ = false := by
  refine ⟨?_, ?_, ?_, ?_⟩ <;> (rw [b1.frozen (by simp [World.setCell]; try (omega))]; go_simp)
 have S1 : Below w.heap.size w w1 := bel
 have ZS1 := Lib.hid (show w.heap.size + 2 ≤ w1.heap.size by have := b1.size; (try simp [World.setCell] at this); omega)
 have RR1_1 := Lib.hid r1; have HB1 := Lib.hid hb1; have ND1 := Lib.hid nd1; have LT1 := Lib.hid (Rep.lt _ r1)
 clear r1 hb1 nd1 hy1 b1
 have RALL := Lib.hid (show Rep w1 x.d [.string x.arr, .slice Ar1 x.subs.length cr1] (bs1) from (show ∀ W, Reps W [.str x.arr, sls Aff.d x.subs] ([.string x.arr] ++ ([.slice Ar1 x.subs.length cr1] ++ ([]))) ([] ++ (bs1 ++ ([]))) → Rep W x.d [.string x.arr, .slice Ar1 x.subs.length cr1] (bs1) from fun W hq => by simpa [List.append_assoc] using (show Rep W x.d _ _ from hq)) _ ⟨_, _, _, _, rfl, rfl, ⟨rfl, rfl, I1.out⟩, ⟨_, _, _, _, rfl, rfl, RR1_1.out, ⟨rfl, rfl⟩⟩⟩)
 have NDALL := Lib.hid (show (bs1 : List Nat).Nodup from ND1.out)
 have HBALL := Lib.hid (show ∀ y ∈ (bs1 : List Nat), w.heap.size + 2 ≤ y from HB1.out)
 clear RR1_1 HB1 ND1 LT1
 go_wp2
 refine bodyPost_ret (v := .agg #[.string x.arr, .slice Ar1 x.subs.length cr1]) (by simp [results, Tryz.results222, go_sem, PA1, PR1]) rfl ⟨[.string x.arr, .slice Ar1 x.subs.length cr1], bs1, rfl, ?_, NDALL.out, fun y hy => by have := HBALL.out y hy; omega, ?_⟩
 ·exact Rep.keep _ RALL.out (by repeat (first | with_reducible exact Keeps.refl _ _ | refine Keeps.setCell ?_ (fun hm => by have := HBALL.out _ hm; dsimp only at this; omega) _))
 ·exact (by repeat (first | with_reducible exact S1 | refine Below.setCell ?_ (by simp; try omega) _))
def OwnEx (x : Ex) : Prop := ∀ (w : World) (cs : List Value) (bs : List Nat), Rep w x.d cs bs → szD x.d ≤ 10000000 →
  Calls Tryz.prog 223 #[.agg cs.toArray] w (MadeT w x.d)
theorem l16OwnListExpr_r {xs : List Ex} (hrec : ∀ x ∈ xs, OwnEx x) {w : World} {A : Option Addr} {n c : Nat} {bs : List Nat} (h : Rep w (sls Ex.d xs) [.slice A n c] bs) (hz : szD (sls Ex.d xs) ≤ 10000000) :
  Calls Tryz.prog 235 #[.slice A n c] w (MadeS w (sls Ex.d xs)) := by
 have HREC := Lib.hid hrec; clear hrec
 obtain ⟨rfl, h2, h3⟩ := h.sls_len
 have hn : xs.length ≤ 9223372036854775807 := Nat.le_trans h2 h3
 have H := Lib.hid h; clear h h2 h3
 have HZ := Lib.hid (show xs.length + szDs (xs.map Ex.d) ≤ 10000000 by rw [← szD_sls]; exact hz); clear hz
 go_enter Tryz.func235, Tryz.ntmps235
 go_wp2
 go_loopw [3, 9] (fun u i wr => ∃ j : Nat, j ≤ xs.length ∧ i = .int .i64 j ∧ Grow wr w.heap.size 100 7 u ((xs.take j).map Ex.d) ∧ Below w.heap.size w wr) (fun _ i _ => xs.length - (intOf i).toNat)
 case atStart => exact ⟨0, Nat.zero_le _, rfl, Grow.made _ _ _ (Nat.le_refl _), bel⟩
 case round =>
  obtain ⟨j, hj, rfl, hG, hb⟩ := hrel
  have HG := Lib.hid hG; clear hG
  by_cases hlt : j < xs.length
  ·have HT := Lib.hid (show (xs.take (j + 1)).map Ex.d = (xs.take j).map Ex.d ++ [Ex.d xs[j]] by rw [List.take_succ_eq_append_getElem hlt, List.map_append]; rfl)
   have hsz1 := szTo_succ Ex.d hlt
   have hsz2 := szTo_le Ex.d (xs := xs) (j + 1)
   have HX := Lib.hid (show szD (Ex.d xs[j]) ≤ 10000000 by have := HZ.out; omega); clear hsz1 hsz2
   have HL := Lib.hid (show j + 1 ≤ 1000000000 by have := HZ.out; omega)
   obtain ⟨b, o, cs, l, rfl, hbl, hr, _, _, hc⟩ := (H.out.below hb).sls_at Ex.d_size (k := j) hlt
   have G := Lib.hid hr
   obtain ⟨A3, c3, A6, c6, A7, c7, d3, d6, d7, rfl, rfl, g1, g2, g3, g4, g5, g6, g7⟩ := Rep.ex_iff.1 hr
   have k0 := (hc 0 _ rfl).1; rw [Nat.add_zero] at k0
   have k1 := (hc 1 _ rfl).1
   have k2 := (hc 2 _ rfl).1
   have k3 := (hc 3 _ rfl).1
   have k4 := (hc 4 _ rfl).1
   have k5 := (hc 5 _ rfl).1
   have k6 := (hc 6 _ rfl).1
   clear hc hr g1 g2 g3 g4 g5 g6 g7
   go_wp2_with fail
   refine (HREC.out _ (List.getElem_mem hlt) _ _ _ (G.out.below bel) HX.out).mono ?_
   rintro e w1 ⟨cs1, bs1, rfl, r1', nd1, hb1, b1⟩
   have R1 := Lib.hid r1'
   obtain ⟨A3r, c3r, A6r, c6r, A7r, c7r, d3r, d6r, d7r, hcs1, _⟩ := Rep.ex_iff.1 r1'
   subst hcs1
   clear r1'
   have HB1 := Lib.hid (show ∀ y ∈ bs1, wr.heap.size ≤ y from fun y hy => by have := hb1 y hy; (try simp at this); omega)
   have N1 := Lib.hid nd1; clear nd1 hb1
   have S1 : Below wr.heap.size wr w1 := bel
   clear b1
   go_wp2_with (
    at_builtin
    refine wpList_append_grow (w0 := wr) rfl (.tmp 13) (.tmp 16) _ rfl _ Tryz.underlying98 Tryz.infoExpr rfl (by decide) rfl HG.out ?hbw (d := Ex.d xs[j]) (news := [.int .i64 xs[j].kind, .int .i64 xs[j].num, .slice A3r xs[j].index.coefs.length c3r, .int .i64 xs[j].index.const, .string xs[j].read.arr, .slice A6r xs[j].read.subs.length c6r, .slice A7r xs[j].kids.length c7r]) rfl ?hrep N1.out HB1.out (new_cellsN _ [_, _, _, _, _, _, _] _ (by simp)) rfl ?hone ?hlen hb.size ?_
    case hbw => exact bel
    case hrep => exact R1.out.below ((Below.refl _ _).alloc (Nat.le_refl _) _)
    case hone => intro u hu; simp only [List.mem_cons, List.not_mem_nil, or_false] at hu; rcases hu with rfl | rfl | rfl | rfl | rfl | rfl | rfl <;> rfl
    case hlen => have := HL.out; simp only [List.length_map, List.length_take]; omega
    intro v' w4 hG4 hB4)
   rw [← HT.out] at hG4
   have S4 : Below w.heap.size w w4 := Below.trans (below_tr hb (show Below wr.heap.size wr _ from bel)) hB4
   clear HG
   go_wp2
   go_roundw
   case rel => exact ⟨j + 1, by omega, by go_num, hG4, S4⟩
   case measure => simp [intOf]; omega
  ·have hjj : j = xs.length := by omega
   subst hjj
   have hg := HG.out; clear HG
   rw [List.take_length] at hg
   obtain ⟨Au, cu, hfu, _, _⟩ := hg.form
   subst hfu
   have HG := Lib.hid hg; clear hg
   go_wp2
   go_ret
   exact MadeS.of_grow HG.out hb
theorem l16OwnExpr_r {x : Ex} (hrec : ∀ y ∈ x.kids, OwnEx y) {w : World} {cs : List Value} {bs : List Nat} (h : Rep w x.d cs bs) (hz : szD x.d ≤ 10000000) :
  Calls Tryz.prog 223 #[.agg cs.toArray] w (MadeT w x.d) := by
 have HREC := Lib.hid hrec; clear hrec
 rw [szD_ex] at hz
 obtain ⟨A3, c3, A6, c6, A7, c7, d3, d6, d7, rfl, rfl, g1, g2, g3, g4, g5, g6, g7⟩ := Rep.ex_iff.1 h
 have G3 := Lib.hid ((Rep.aff_iff2 (x := x.index)).2 ⟨_, _, _, rfl, rfl, g3, g4⟩)
 have Z3 := Lib.hid (show szD x.index.d ≤ 10000000 by omega)
 have G5 := Lib.hid ((Rep.acc_iff (x := x.read)).2 ⟨_, _, _, rfl, rfl, g5, g6⟩)
 have Z5 := Lib.hid (show szD x.read.d ≤ 10000000 by omega)
 have G7 := Lib.hid g7
 have Z7 := Lib.hid (show szD (sls Ex.d x.kids) ≤ 10000000 by omega)
 have I1 := Lib.hid g1
 have I2 := Lib.hid g2
 have I4 := Lib.hid g4
 have I5 := Lib.hid g5
 clear h hz g1 g2 g3 g4 g5 g6 g7
 go_enter Tryz.func223, Tryz.ntmps223
 go_wp2_with fail
 refine (l16OwnAffine_c (G3.out.below bel) Z3.out).mono ?_
 rintro e w1 ⟨cs1, bs1, rfl, r1, nd1, hy1, b1⟩
 obtain ⟨A1r1, c1r1, d1r1, hcs1, _⟩ := Rep.aff_iff2.1 r1
 subst hcs1
 have hb1 : ∀ y ∈ bs1, w.heap.size + 2 ≤ y := fun y hy => by have := hy1 y hy; (try simp [World.setCell] at this); omega
 have PA1 : w1.cell? ⟨w.heap.size, 0, none⟩ = some (.int .i64 x.kind) ∧ w1.cell? ⟨w.heap.size, 1, none⟩ = some (.int .i64 x.num) ∧ w1.cell? ⟨w.heap.size, 2, none⟩ = some (.slice A3 x.index.coefs.length c3) ∧ w1.cell? ⟨w.heap.size, 3, none⟩ = some (.int .i64 x.index.const) ∧ w1.cell? ⟨w.heap.size, 4, none⟩ = some (.string x.read.arr) ∧ w1.cell? ⟨w.heap.size, 5, none⟩ = some (.slice A6 x.read.subs.length c6) ∧ w1.cell? ⟨w.heap.size, 6, none⟩ = some (.slice A7 x.kids.length c7) := by
  refine ⟨?_, ?_, ?_, ?_, ?_, ?_, ?_⟩ <;> (rw [b1.cell (by simp [World.setCell]; try (omega))]; go_simp)
 have PR1 : w1.cell? ⟨w.heap.size + 1, 0, none⟩ = some (.int .i64 0) ∧ w1.cell? ⟨w.heap.size + 1, 1, none⟩ = some (.int .i64 0) ∧ w1.cell? ⟨w.heap.size + 1, 2, none⟩ = some (.slice none 0 0) ∧ w1.cell? ⟨w.heap.size + 1, 3, none⟩ = some (.int .i64 0) ∧ w1.cell? ⟨w.heap.size + 1, 4, none⟩ = some (.string ⟨#[]⟩) ∧ w1.cell? ⟨w.heap.size + 1, 5, none⟩ = some (.slice none 0 0) ∧ w1.cell? ⟨w.heap.size + 1, 6, none⟩ = some (.slice none 0 0) := by
  refine ⟨?_, ?_, ?_, ?_, ?_, ?_, ?_⟩ <;> (rw [b1.cell (by simp [World.setCell]; try (omega))]; go_simp)
 have F1 : w1.frozen? ⟨w.heap.size, 0, none⟩ = false ∧ w1.frozen? ⟨w.heap.size, 1, none⟩ = false ∧ w1.frozen? ⟨w.heap.size, 2, none⟩ = false ∧ w1.frozen? ⟨w.heap.size, 3, none⟩ = false ∧ w1.frozen? ⟨w.heap.size, 4, none⟩ = false ∧ w1.frozen? ⟨w.heap.size, 5, none⟩ = false ∧ w1.frozen? ⟨w.heap.size, 6, none⟩ = false ∧ w1.frozen? ⟨w.heap.size + 1, 0, none⟩ = false ∧ w1.frozen? ⟨w.heap.size + 1, 1, none⟩ = false ∧ w1.frozen? ⟨w.heap.size + 1, 2, none⟩ = false ∧ w1.frozen? ⟨w.heap.size + 1, 3, none⟩ = false ∧ w1.frozen? ⟨w.heap.size + 1, 4, none⟩ = false ∧ w1.frozen? ⟨w.heap.size + 1, 5, none⟩ = false ∧ w1.frozen? ⟨w.heap.size + 1, 6, none⟩ = false := by
  refine ⟨?_, ?_, ?_, ?_, ?_, ?_, ?_, ?_, ?_, ?_, ?_, ?_, ?_, ?_⟩ <;> (rw [b1.frozen (by simp [World.setCell]; try (omega))]; go_simp)
 have S1 : Below w.heap.size w w1 := bel
 have ZS1 := Lib.hid (show w.heap.size + 2 ≤ w1.heap.size by have := b1.size; (try simp [World.setCell] at this); omega)
 have RR1_1 := Lib.hid r1; have HB1 := Lib.hid hb1; have ND1 := Lib.hid nd1; have LT1 := Lib.hid (Rep.lt _ r1)
 clear r1 hb1 nd1 hy1 b1
 go_wp2_with fail
 refine (l16OwnAccess_c (G5.out.below (by repeat (first | with_reducible exact S1 | refine Below.setCell ?_ (by simp; try omega) _))) Z5.out).mono ?_
 rintro e w2 ⟨cs2, bs2, rfl, r2, nd2, hy2, b2⟩
 obtain ⟨A2r2, c2r2, d2r2, hcs2, _⟩ := Rep.acc_iff.1 r2
 subst hcs2
 have hb2 : ∀ y ∈ bs2, w.heap.size + 2 ≤ y := fun y hy => by have := hy2 y hy; (try simp [World.setCell] at this); have := ZS1.out; omega
 have hc2 : ∀ y ∈ bs2, w1.heap.size ≤ y := fun y hy => by have := hy2 y hy; (try simp [World.setCell] at this); omega
 have PA2 : w2.cell? ⟨w.heap.size, 0, none⟩ = some (.int .i64 x.kind) ∧ w2.cell? ⟨w.heap.size, 1, none⟩ = some (.int .i64 x.num) ∧ w2.cell? ⟨w.heap.size, 2, none⟩ = some (.slice A1r1 x.index.coefs.length c1r1) ∧ w2.cell? ⟨w.heap.size, 3, none⟩ = some (.int .i64 x.index.const) ∧ w2.cell? ⟨w.heap.size, 4, none⟩ = some (.string x.read.arr) ∧ w2.cell? ⟨w.heap.size, 5, none⟩ = some (.slice A6 x.read.subs.length c6) ∧ w2.cell? ⟨w.heap.size, 6, none⟩ = some (.slice A7 x.kids.length c7) := by
  refine ⟨?_, ?_, ?_, ?_, ?_, ?_, ?_⟩ <;> (rw [b2.cell (by simp [World.setCell]; try (have := ZS1.out; omega))]; go_simp)
 have PR2 : w2.cell? ⟨w.heap.size + 1, 0, none⟩ = some (.int .i64 0) ∧ w2.cell? ⟨w.heap.size + 1, 1, none⟩ = some (.int .i64 0) ∧ w2.cell? ⟨w.heap.size + 1, 2, none⟩ = some (.slice none 0 0) ∧ w2.cell? ⟨w.heap.size + 1, 3, none⟩ = some (.int .i64 0) ∧ w2.cell? ⟨w.heap.size + 1, 4, none⟩ = some (.string ⟨#[]⟩) ∧ w2.cell? ⟨w.heap.size + 1, 5, none⟩ = some (.slice none 0 0) ∧ w2.cell? ⟨w.heap.size + 1, 6, none⟩ = some (.slice none 0 0) := by
  refine ⟨?_, ?_, ?_, ?_, ?_, ?_, ?_⟩ <;> (rw [b2.cell (by simp [World.setCell]; try (have := ZS1.out; omega))]; go_simp)
 have F2 : w2.frozen? ⟨w.heap.size, 0, none⟩ = false ∧ w2.frozen? ⟨w.heap.size, 1, none⟩ = false ∧ w2.frozen? ⟨w.heap.size, 2, none⟩ = false ∧ w2.frozen? ⟨w.heap.size, 3, none⟩ = false ∧ w2.frozen? ⟨w.heap.size, 4, none⟩ = false ∧ w2.frozen? ⟨w.heap.size, 5, none⟩ = false ∧ w2.frozen? ⟨w.heap.size, 6, none⟩ = false ∧ w2.frozen? ⟨w.heap.size + 1, 0, none⟩ = false ∧ w2.frozen? ⟨w.heap.size + 1, 1, none⟩ = false ∧ w2.frozen? ⟨w.heap.size + 1, 2, none⟩ = false ∧ w2.frozen? ⟨w.heap.size + 1, 3, none⟩ = false ∧ w2.frozen? ⟨w.heap.size + 1, 4, none⟩ = false ∧ w2.frozen? ⟨w.heap.size + 1, 5, none⟩ = false ∧ w2.frozen? ⟨w.heap.size + 1, 6, none⟩ = false := by
  refine ⟨?_, ?_, ?_, ?_, ?_, ?_, ?_, ?_, ?_, ?_, ?_, ?_, ?_, ?_⟩ <;> (rw [b2.frozen (by simp [World.setCell]; try (have := ZS1.out; omega))]; go_simp)
 have RR1_2 := Lib.hid (show Rep w2 (x.index.d) [.slice A1r1 x.index.coefs.length c1r1, .int .i64 x.index.const] bs1 from Rep.below (Rep.keep _ RR1_1.out (by repeat (first | with_reducible exact Keeps.refl _ _ | refine Keeps.setCell ?_ (fun hm => by have := HB1.out _ hm; dsimp only at this; omega) _))) b2); clear RR1_1
 have S2 : Below w.heap.size w w2 := below_tr (by repeat (first | with_reducible exact S1 | refine Below.setCell ?_ (by simp; try omega) _)) b2
 have ZS2 := Lib.hid (show w.heap.size + 2 ≤ w2.heap.size by have := b2.size; (try simp [World.setCell] at this); have := ZS1.out; omega)
 have ZT2 := Lib.hid (show w1.heap.size ≤ w2.heap.size by have := b2.size; (try simp [World.setCell] at this); omega)
 have RR2_2 := Lib.hid r2; have HB2 := Lib.hid hb2; have ND2 := Lib.hid nd2; have LT2 := Lib.hid (Rep.lt _ r2); have HC2 := Lib.hid hc2
 clear r2 hb2 nd2 hy2 b2 hc2 PA1 PR1 F1
 go_wp2_with fail
 refine (l16OwnListExpr_r HREC.out (G7.out.below (by repeat (first | with_reducible exact S2 | refine Below.setCell ?_ (by simp; try omega) _))) Z7.out).mono ?_
 rintro e w3 ⟨Ar3, nr3, cr3, bs3, rfl, r3, nd3, hy3, b3⟩
 obtain ⟨hn3, _, _⟩ := r3.sls_len
 subst hn3
 have hb3 : ∀ y ∈ bs3, w.heap.size + 2 ≤ y := fun y hy => by have := hy3 y hy; (try simp [World.setCell] at this); have := ZS2.out; omega
 have hc3 : ∀ y ∈ bs3, w2.heap.size ≤ y := fun y hy => by have := hy3 y hy; (try simp [World.setCell] at this); omega
 have PA3 : w3.cell? ⟨w.heap.size, 0, none⟩ = some (.int .i64 x.kind) ∧ w3.cell? ⟨w.heap.size, 1, none⟩ = some (.int .i64 x.num) ∧ w3.cell? ⟨w.heap.size, 2, none⟩ = some (.slice A1r1 x.index.coefs.length c1r1) ∧ w3.cell? ⟨w.heap.size, 3, none⟩ = some (.int .i64 x.index.const) ∧ w3.cell? ⟨w.heap.size, 4, none⟩ = some (.string x.read.arr) ∧ w3.cell? ⟨w.heap.size, 5, none⟩ = some (.slice A2r2 x.read.subs.length c2r2) ∧ w3.cell? ⟨w.heap.size, 6, none⟩ = some (.slice A7 x.kids.length c7) := by
  refine ⟨?_, ?_, ?_, ?_, ?_, ?_, ?_⟩ <;> (rw [b3.cell (by simp [World.setCell]; try (have := ZS2.out; omega))]; go_simp)
 have PR3 : w3.cell? ⟨w.heap.size + 1, 0, none⟩ = some (.int .i64 0) ∧ w3.cell? ⟨w.heap.size + 1, 1, none⟩ = some (.int .i64 0) ∧ w3.cell? ⟨w.heap.size + 1, 2, none⟩ = some (.slice none 0 0) ∧ w3.cell? ⟨w.heap.size + 1, 3, none⟩ = some (.int .i64 0) ∧ w3.cell? ⟨w.heap.size + 1, 4, none⟩ = some (.string ⟨#[]⟩) ∧ w3.cell? ⟨w.heap.size + 1, 5, none⟩ = some (.slice none 0 0) ∧ w3.cell? ⟨w.heap.size + 1, 6, none⟩ = some (.slice none 0 0) := by
  refine ⟨?_, ?_, ?_, ?_, ?_, ?_, ?_⟩ <;> (rw [b3.cell (by simp [World.setCell]; try (have := ZS2.out; omega))]; go_simp)
 have F3 : w3.frozen? ⟨w.heap.size, 0, none⟩ = false ∧ w3.frozen? ⟨w.heap.size, 1, none⟩ = false ∧ w3.frozen? ⟨w.heap.size, 2, none⟩ = false ∧ w3.frozen? ⟨w.heap.size, 3, none⟩ = false ∧ w3.frozen? ⟨w.heap.size, 4, none⟩ = false ∧ w3.frozen? ⟨w.heap.size, 5, none⟩ = false ∧ w3.frozen? ⟨w.heap.size, 6, none⟩ = false ∧ w3.frozen? ⟨w.heap.size + 1, 0, none⟩ = false ∧ w3.frozen? ⟨w.heap.size + 1, 1, none⟩ = false ∧ w3.frozen? ⟨w.heap.size + 1, 2, none⟩ = false ∧ w3.frozen? ⟨w.heap.size + 1, 3, none⟩ = false ∧ w3.frozen? ⟨w.heap.size + 1, 4, none⟩ = false ∧ w3.frozen? ⟨w.heap.size + 1, 5, none⟩ = false ∧ w3.frozen? ⟨w.heap.size + 1, 6, none⟩ = false := by
  refine ⟨?_, ?_, ?_, ?_, ?_, ?_, ?_, ?_, ?_, ?_, ?_, ?_, ?_, ?_⟩ <;> (rw [b3.frozen (by simp [World.setCell]; try (have := ZS2.out; omega))]; go_simp)
 have RR1_3 := Lib.hid (show Rep w3 (x.index.d) [.slice A1r1 x.index.coefs.length c1r1, .int .i64 x.index.const] bs1 from Rep.below (Rep.keep _ RR1_2.out (by repeat (first | with_reducible exact Keeps.refl _ _ | refine Keeps.setCell ?_ (fun hm => by have := HB1.out _ hm; dsimp only at this; omega) _))) b3); clear RR1_2
 have RR2_3 := Lib.hid (show Rep w3 (x.read.d) [.string x.read.arr, .slice A2r2 x.read.subs.length c2r2] bs2 from Rep.below (Rep.keep _ RR2_2.out (by repeat (first | with_reducible exact Keeps.refl _ _ | refine Keeps.setCell ?_ (fun hm => by have := HB2.out _ hm; dsimp only at this; omega) _))) b3); clear RR2_2
 have S3 : Below w.heap.size w w3 := below_tr (by repeat (first | with_reducible exact S2 | refine Below.setCell ?_ (by simp; try omega) _)) b3
 have ZS3 := Lib.hid (show w.heap.size + 2 ≤ w3.heap.size by have := b3.size; (try simp [World.setCell] at this); have := ZS2.out; omega)
 have ZT3 := Lib.hid (show w2.heap.size ≤ w3.heap.size by have := b3.size; (try simp [World.setCell] at this); omega)
 have RR3_3 := Lib.hid r3; have HB3 := Lib.hid hb3; have ND3 := Lib.hid nd3; have LT3 := Lib.hid (Rep.lt _ r3); have HC3 := Lib.hid hc3
 clear r3 hb3 nd3 hy3 b3 hc3 PA2 PR2 F2
 have RALL := Lib.hid (show Rep w3 x.d [.int .i64 x.kind, .int .i64 x.num, .slice A1r1 x.index.coefs.length c1r1, .int .i64 x.index.const, .string x.read.arr, .slice A2r2 x.read.subs.length c2r2, .slice Ar3 x.kids.length cr3] (bs1 ++ bs2 ++ bs3) from (show ∀ W, Reps W [.int x.kind, .int x.num, x.index.d, x.read.d, sls Ex.d x.kids] ([.int .i64 x.kind] ++ ([.int .i64 x.num] ++ ([.slice A1r1 x.index.coefs.length c1r1, .int .i64 x.index.const] ++ ([.string x.read.arr, .slice A2r2 x.read.subs.length c2r2] ++ ([.slice Ar3 x.kids.length cr3] ++ ([])))))) ([] ++ ([] ++ (bs1 ++ (bs2 ++ (bs3 ++ ([])))))) → Rep W x.d [.int .i64 x.kind, .int .i64 x.num, .slice A1r1 x.index.coefs.length c1r1, .int .i64 x.index.const, .string x.read.arr, .slice A2r2 x.read.subs.length c2r2, .slice Ar3 x.kids.length cr3] (bs1 ++ bs2 ++ bs3) from fun W hq => by have h2 : Rep W (.st [.int x.kind, .int x.num, x.index.d, x.read.d, sls Ex.d x.kids]) _ _ := hq; rw [← Ex.d_eq] at h2; simpa [List.append_assoc] using h2) _ ⟨_, _, _, _, rfl, rfl, ⟨rfl, rfl, I1.out⟩, ⟨_, _, _, _, rfl, rfl, ⟨rfl, rfl, I2.out⟩, ⟨_, _, _, _, rfl, rfl, RR1_3.out, ⟨_, _, _, _, rfl, rfl, RR2_3.out, ⟨_, _, _, _, rfl, rfl, RR3_3.out, ⟨rfl, rfl⟩⟩⟩⟩⟩⟩)
 have NDALL := Lib.hid (show (bs1 ++ bs2 ++ bs3 : List Nat).Nodup from List.nodup_append.2 ⟨List.nodup_append.2 ⟨ND1.out, ND2.out, fun y h1 z h2 e => by
   subst e
   have h3 := HC2.out y h2
   (have := LT1.out y h1; omega)⟩, ND3.out, fun y h1 z h2 e => by
   subst e
   have h3 := HC3.out y h2
   have := ZT2.out
   simp only [List.mem_append] at h1
   rcases h1 with h1 | h1
   all_goals first | (have := LT1.out y h1; omega) | (have := LT2.out y h1; omega)⟩)
 have HBALL := Lib.hid (show ∀ y ∈ (bs1 ++ bs2 ++ bs3 : List Nat), w.heap.size + 2 ≤ y from (fun y hy => by
  simp only [List.mem_append] at hy
  rcases hy with (hy | hy) | hy
  ·exact HB1.out y hy
  ·exact HB2.out y hy
  ·exact HB3.out y hy))
 clear RR1_3 HB1 ND1 LT1 RR2_3 HB2 ND2 LT2 HC2 ZT2 RR3_3 HB3 ND3 LT3 HC3 ZT3
 go_wp2
 refine bodyPost_ret (v := .agg #[.int .i64 x.kind, .int .i64 x.num, .slice A1r1 x.index.coefs.length c1r1, .int .i64 x.index.const, .string x.read.arr, .slice A2r2 x.read.subs.length c2r2, .slice Ar3 x.kids.length cr3]) (by simp [results, Tryz.results223, go_sem, PA3, PR3]) rfl ⟨[.int .i64 x.kind, .int .i64 x.num, .slice A1r1 x.index.coefs.length c1r1, .int .i64 x.index.const, .string x.read.arr, .slice A2r2 x.read.subs.length c2r2, .slice Ar3 x.kids.length cr3], bs1 ++ bs2 ++ bs3, rfl, ?_, NDALL.out, fun y hy => by have := HBALL.out y hy; omega, ?_⟩
 ·exact Rep.keep _ RALL.out (by repeat (first | with_reducible exact Keeps.refl _ _ | refine Keeps.setCell ?_ (fun hm => by have := HBALL.out _ hm; dsimp only at this; omega) _))
 ·exact (by repeat (first | with_reducible exact S3 | refine Below.setCell ?_ (by simp; try omega) _))
theorem l16OwnExpr_all (x : Ex) : OwnEx x := Ex.ind (P := OwnEx) (fun x hx => fun w cs bs h hz => l16OwnExpr_r hx h hz) x
theorem l16OwnExpr_c {w : World} {x : Ex} {cs : List Value} {bs : List Nat} (h : Rep w x.d cs bs) (hz : szD x.d ≤ 10000000) : Calls Tryz.prog 223 #[.agg cs.toArray] w (MadeT w x.d) := l16OwnExpr_all x _ _ _ h hz
theorem l16OwnStmt_c {x : Stm} {w : World} {cs : List Value} {bs : List Nat} (h : Rep w x.d cs bs) (hz : szD x.d ≤ 10000000) :
  Calls Tryz.prog 196 #[.agg cs.toArray] w (MadeT w x.d) := by
 rw [szD_stm] at hz
 obtain ⟨A2, c2, A5, c5, A8, c8, A9, c9, d2, d5, d8, d9, rfl, rfl, g1, g2, g3, g4, g5, g6, g7, g8, g9⟩ := Rep.stm_iff.1 h
 have G1 := Lib.hid ((Rep.acc_iff (x := x.write)).2 ⟨_, _, _, rfl, rfl, g1, g2⟩)
 have Z1 := Lib.hid (show szD x.write.d ≤ 10000000 by omega)
 have G3 := Lib.hid ((Rep.ex_iff (x := x.value)).2 ⟨_, _, _, _, _, _, _, _, _, rfl, rfl, g3, g4, g5, g6, g7, g8, g9⟩)
 have Z3 := Lib.hid (show szD x.value.d ≤ 10000000 by omega)
 have I1 := Lib.hid g1
 have I3 := Lib.hid g3
 have I4 := Lib.hid g4
 have I6 := Lib.hid g6
 have I7 := Lib.hid g7
 clear h hz g1 g2 g3 g4 g5 g6 g7 g8 g9
 go_enter Tryz.func196, Tryz.ntmps196
 go_wp2_with fail
 refine (l16OwnAccess_c (G1.out.below bel) Z1.out).mono ?_
 rintro e w1 ⟨cs1, bs1, rfl, r1, nd1, hy1, b1⟩
 obtain ⟨A2r1, c2r1, d2r1, hcs1, _⟩ := Rep.acc_iff.1 r1
 subst hcs1
 have hb1 : ∀ y ∈ bs1, w.heap.size + 2 ≤ y := fun y hy => by have := hy1 y hy; (try simp [World.setCell] at this); omega
 have PA1 : w1.cell? ⟨w.heap.size, 0, none⟩ = some (.string x.write.arr) ∧ w1.cell? ⟨w.heap.size, 1, none⟩ = some (.slice A2 x.write.subs.length c2) ∧ w1.cell? ⟨w.heap.size, 2, none⟩ = some (.int .i64 x.value.kind) ∧ w1.cell? ⟨w.heap.size, 3, none⟩ = some (.int .i64 x.value.num) ∧ w1.cell? ⟨w.heap.size, 4, none⟩ = some (.slice A5 x.value.index.coefs.length c5) ∧ w1.cell? ⟨w.heap.size, 5, none⟩ = some (.int .i64 x.value.index.const) ∧ w1.cell? ⟨w.heap.size, 6, none⟩ = some (.string x.value.read.arr) ∧ w1.cell? ⟨w.heap.size, 7, none⟩ = some (.slice A8 x.value.read.subs.length c8) ∧ w1.cell? ⟨w.heap.size, 8, none⟩ = some (.slice A9 x.value.kids.length c9) := by
  refine ⟨?_, ?_, ?_, ?_, ?_, ?_, ?_, ?_, ?_⟩ <;> (rw [b1.cell (by simp [World.setCell]; try (omega))]; go_simp)
 have PR1 : w1.cell? ⟨w.heap.size + 1, 0, none⟩ = some (.string ⟨#[]⟩) ∧ w1.cell? ⟨w.heap.size + 1, 1, none⟩ = some (.slice none 0 0) ∧ w1.cell? ⟨w.heap.size + 1, 2, none⟩ = some (.int .i64 0) ∧ w1.cell? ⟨w.heap.size + 1, 3, none⟩ = some (.int .i64 0) ∧ w1.cell? ⟨w.heap.size + 1, 4, none⟩ = some (.slice none 0 0) ∧ w1.cell? ⟨w.heap.size + 1, 5, none⟩ = some (.int .i64 0) ∧ w1.cell? ⟨w.heap.size + 1, 6, none⟩ = some (.string ⟨#[]⟩) ∧ w1.cell? ⟨w.heap.size + 1, 7, none⟩ = some (.slice none 0 0) ∧ w1.cell? ⟨w.heap.size + 1, 8, none⟩ = some (.slice none 0 0) := by
  refine ⟨?_, ?_, ?_, ?_, ?_, ?_, ?_, ?_, ?_⟩ <;> (rw [b1.cell (by simp [World.setCell]; try (omega))]; go_simp)
 have F1 : w1.frozen? ⟨w.heap.size, 0, none⟩ = false ∧ w1.frozen? ⟨w.heap.size, 1, none⟩ = false ∧ w1.frozen? ⟨w.heap.size, 2, none⟩ = false ∧ w1.frozen? ⟨w.heap.size, 3, none⟩ = false ∧ w1.frozen? ⟨w.heap.size, 4, none⟩ = false ∧ w1.frozen? ⟨w.heap.size, 5, none⟩ = false ∧ w1.frozen? ⟨w.heap.size, 6, none⟩ = false ∧ w1.frozen? ⟨w.heap.size, 7, none⟩ = false ∧ w1.frozen? ⟨w.heap.size, 8, none⟩ = false ∧ w1.frozen? ⟨w.heap.size + 1, 0, none⟩ = false ∧ w1.frozen? ⟨w.heap.size + 1, 1, none⟩ = false ∧ w1.frozen? ⟨w.heap.size + 1, 2, none⟩ = false ∧ w1.frozen? ⟨w.heap.size + 1, 3, none⟩ = false ∧ w1.frozen? ⟨w.heap.size + 1, 4, none⟩ = false ∧ w1.frozen? ⟨w.heap.size + 1, 5, none⟩ = false ∧ w1.frozen? ⟨w.heap.size + 1, 6, none⟩ = false ∧ w1.frozen? ⟨w.heap.size + 1, 7, none⟩ = false ∧ w1.frozen? ⟨w.heap.size + 1, 8, none⟩ = false := by
  refine ⟨?_, ?_, ?_, ?_, ?_, ?_, ?_, ?_, ?_, ?_, ?_, ?_, ?_, ?_, ?_, ?_, ?_, ?_⟩ <;> (rw [b1.frozen (by simp [World.setCell]; try (omega))]; go_simp)
 have S1 : Below w.heap.size w w1 := bel
 have ZS1 := Lib.hid (show w.heap.size + 2 ≤ w1.heap.size by have := b1.size; (try simp [World.setCell] at this); omega)
 have RR1_1 := Lib.hid r1; have HB1 := Lib.hid hb1; have ND1 := Lib.hid nd1; have LT1 := Lib.hid (Rep.lt _ r1)
 clear r1 hb1 nd1 hy1 b1
 go_wp2_with fail
 refine (l16OwnExpr_c (G3.out.below (by repeat (first | with_reducible exact S1 | refine Below.setCell ?_ (by simp; try omega) _))) Z3.out).mono ?_
 rintro e w2 ⟨cs2, bs2, rfl, r2, nd2, hy2, b2⟩
 obtain ⟨A3r2, c3r2, A6r2, c6r2, A7r2, c7r2, d3r2, d6r2, d7r2, hcs2, _⟩ := Rep.ex_iff.1 r2
 subst hcs2
 have hb2 : ∀ y ∈ bs2, w.heap.size + 2 ≤ y := fun y hy => by have := hy2 y hy; (try simp [World.setCell] at this); have := ZS1.out; omega
 have hc2 : ∀ y ∈ bs2, w1.heap.size ≤ y := fun y hy => by have := hy2 y hy; (try simp [World.setCell] at this); omega
 have PA2 : w2.cell? ⟨w.heap.size, 0, none⟩ = some (.string x.write.arr) ∧ w2.cell? ⟨w.heap.size, 1, none⟩ = some (.slice A2r1 x.write.subs.length c2r1) ∧ w2.cell? ⟨w.heap.size, 2, none⟩ = some (.int .i64 x.value.kind) ∧ w2.cell? ⟨w.heap.size, 3, none⟩ = some (.int .i64 x.value.num) ∧ w2.cell? ⟨w.heap.size, 4, none⟩ = some (.slice A5 x.value.index.coefs.length c5) ∧ w2.cell? ⟨w.heap.size, 5, none⟩ = some (.int .i64 x.value.index.const) ∧ w2.cell? ⟨w.heap.size, 6, none⟩ = some (.string x.value.read.arr) ∧ w2.cell? ⟨w.heap.size, 7, none⟩ = some (.slice A8 x.value.read.subs.length c8) ∧ w2.cell? ⟨w.heap.size, 8, none⟩ = some (.slice A9 x.value.kids.length c9) := by
  refine ⟨?_, ?_, ?_, ?_, ?_, ?_, ?_, ?_, ?_⟩ <;> (rw [b2.cell (by simp [World.setCell]; try (have := ZS1.out; omega))]; go_simp)
 have PR2 : w2.cell? ⟨w.heap.size + 1, 0, none⟩ = some (.string ⟨#[]⟩) ∧ w2.cell? ⟨w.heap.size + 1, 1, none⟩ = some (.slice none 0 0) ∧ w2.cell? ⟨w.heap.size + 1, 2, none⟩ = some (.int .i64 0) ∧ w2.cell? ⟨w.heap.size + 1, 3, none⟩ = some (.int .i64 0) ∧ w2.cell? ⟨w.heap.size + 1, 4, none⟩ = some (.slice none 0 0) ∧ w2.cell? ⟨w.heap.size + 1, 5, none⟩ = some (.int .i64 0) ∧ w2.cell? ⟨w.heap.size + 1, 6, none⟩ = some (.string ⟨#[]⟩) ∧ w2.cell? ⟨w.heap.size + 1, 7, none⟩ = some (.slice none 0 0) ∧ w2.cell? ⟨w.heap.size + 1, 8, none⟩ = some (.slice none 0 0) := by
  refine ⟨?_, ?_, ?_, ?_, ?_, ?_, ?_, ?_, ?_⟩ <;> (rw [b2.cell (by simp [World.setCell]; try (have := ZS1.out; omega))]; go_simp)
 have F2 : w2.frozen? ⟨w.heap.size, 0, none⟩ = false ∧ w2.frozen? ⟨w.heap.size, 1, none⟩ = false ∧ w2.frozen? ⟨w.heap.size, 2, none⟩ = false ∧ w2.frozen? ⟨w.heap.size, 3, none⟩ = false ∧ w2.frozen? ⟨w.heap.size, 4, none⟩ = false ∧ w2.frozen? ⟨w.heap.size, 5, none⟩ = false ∧ w2.frozen? ⟨w.heap.size, 6, none⟩ = false ∧ w2.frozen? ⟨w.heap.size, 7, none⟩ = false ∧ w2.frozen? ⟨w.heap.size, 8, none⟩ = false ∧ w2.frozen? ⟨w.heap.size + 1, 0, none⟩ = false ∧ w2.frozen? ⟨w.heap.size + 1, 1, none⟩ = false ∧ w2.frozen? ⟨w.heap.size + 1, 2, none⟩ = false ∧ w2.frozen? ⟨w.heap.size + 1, 3, none⟩ = false ∧ w2.frozen? ⟨w.heap.size + 1, 4, none⟩ = false ∧ w2.frozen? ⟨w.heap.size + 1, 5, none⟩ = false ∧ w2.frozen? ⟨w.heap.size + 1, 6, none⟩ = false ∧ w2.frozen? ⟨w.heap.size + 1, 7, none⟩ = false ∧ w2.frozen? ⟨w.heap.size + 1, 8, none⟩ = false := by
  refine ⟨?_, ?_, ?_, ?_, ?_, ?_, ?_, ?_, ?_, ?_, ?_, ?_, ?_, ?_, ?_, ?_, ?_, ?_⟩ <;> (rw [b2.frozen (by simp [World.setCell]; try (have := ZS1.out; omega))]; go_simp)
 have RR1_2 := Lib.hid (show Rep w2 (x.write.d) [.string x.write.arr, .slice A2r1 x.write.subs.length c2r1] bs1 from Rep.below (Rep.keep _ RR1_1.out (by repeat (first | with_reducible exact Keeps.refl _ _ | refine Keeps.setCell ?_ (fun hm => by have := HB1.out _ hm; dsimp only at this; omega) _))) b2); clear RR1_1
 have S2 : Below w.heap.size w w2 := below_tr (by repeat (first | with_reducible exact S1 | refine Below.setCell ?_ (by simp; try omega) _)) b2
 have ZS2 := Lib.hid (show w.heap.size + 2 ≤ w2.heap.size by have := b2.size; (try simp [World.setCell] at this); have := ZS1.out; omega)
 have ZT2 := Lib.hid (show w1.heap.size ≤ w2.heap.size by have := b2.size; (try simp [World.setCell] at this); omega)
 have RR2_2 := Lib.hid r2; have HB2 := Lib.hid hb2; have ND2 := Lib.hid nd2; have LT2 := Lib.hid (Rep.lt _ r2); have HC2 := Lib.hid hc2
 clear r2 hb2 nd2 hy2 b2 hc2 PA1 PR1 F1
 have RALL := Lib.hid (show Rep w2 x.d [.string x.write.arr, .slice A2r1 x.write.subs.length c2r1, .int .i64 x.value.kind, .int .i64 x.value.num, .slice A3r2 x.value.index.coefs.length c3r2, .int .i64 x.value.index.const, .string x.value.read.arr, .slice A6r2 x.value.read.subs.length c6r2, .slice A7r2 x.value.kids.length c7r2] (bs1 ++ bs2) from (show ∀ W, Reps W [x.write.d, x.value.d] ([.string x.write.arr, .slice A2r1 x.write.subs.length c2r1] ++ ([.int .i64 x.value.kind, .int .i64 x.value.num, .slice A3r2 x.value.index.coefs.length c3r2, .int .i64 x.value.index.const, .string x.value.read.arr, .slice A6r2 x.value.read.subs.length c6r2, .slice A7r2 x.value.kids.length c7r2] ++ ([]))) (bs1 ++ (bs2 ++ ([]))) → Rep W x.d [.string x.write.arr, .slice A2r1 x.write.subs.length c2r1, .int .i64 x.value.kind, .int .i64 x.value.num, .slice A3r2 x.value.index.coefs.length c3r2, .int .i64 x.value.index.const, .string x.value.read.arr, .slice A6r2 x.value.read.subs.length c6r2, .slice A7r2 x.value.kids.length c7r2] (bs1 ++ bs2) from fun W hq => by simpa [List.append_assoc] using (show Rep W x.d _ _ from hq)) _ ⟨_, _, _, _, rfl, rfl, RR1_2.out, ⟨_, _, _, _, rfl, rfl, RR2_2.out, ⟨rfl, rfl⟩⟩⟩)
 have NDALL := Lib.hid (show (bs1 ++ bs2 : List Nat).Nodup from List.nodup_append.2 ⟨ND1.out, ND2.out, fun y h1 z h2 e => by
   subst e
   have h3 := HC2.out y h2
   (have := LT1.out y h1; omega)⟩)
 have HBALL := Lib.hid (show ∀ y ∈ (bs1 ++ bs2 : List Nat), w.heap.size + 2 ≤ y from (fun y hy => by
  simp only [List.mem_append] at hy
  rcases hy with hy | hy
  ·exact HB1.out y hy
  ·exact HB2.out y hy))
 clear RR1_2 HB1 ND1 LT1 RR2_2 HB2 ND2 LT2 HC2 ZT2
 go_wp2
 refine bodyPost_ret (v := .agg #[.string x.write.arr, .slice A2r1 x.write.subs.length c2r1, .int .i64 x.value.kind, .int .i64 x.value.num, .slice A3r2 x.value.index.coefs.length c3r2, .int .i64 x.value.index.const, .string x.value.read.arr, .slice A6r2 x.value.read.subs.length c6r2, .slice A7r2 x.value.kids.length c7r2]) (by simp [results, Tryz.results196, go_sem, PA2, PR2]) rfl ⟨[.string x.write.arr, .slice A2r1 x.write.subs.length c2r1, .int .i64 x.value.kind, .int .i64 x.value.num, .slice A3r2 x.value.index.coefs.length c3r2, .int .i64 x.value.index.const, .string x.value.read.arr, .slice A6r2 x.value.read.subs.length c6r2, .slice A7r2 x.value.kids.length c7r2], bs1 ++ bs2, rfl, ?_, NDALL.out, fun y hy => by have := HBALL.out y hy; omega, ?_⟩
 ·exact Rep.keep _ RALL.out (by repeat (first | with_reducible exact Keeps.refl _ _ | refine Keeps.setCell ?_ (fun hm => by have := HBALL.out _ hm; dsimp only at this; omega) _))
 ·exact (by repeat (first | with_reducible exact S2 | refine Below.setCell ?_ (by simp; try omega) _))
theorem l16OwnListStmt_c {xs : List Stm} {w : World} {A : Option Addr} {n c : Nat} {bs : List Nat} (h : Rep w (sls Stm.d xs) [.slice A n c] bs) (hz : szD (sls Stm.d xs) ≤ 10000000) :
  Calls Tryz.prog 157 #[.slice A n c] w (MadeS w (sls Stm.d xs)) := by
 obtain ⟨rfl, h2, h3⟩ := h.sls_len
 have hn : xs.length ≤ 9223372036854775807 := Nat.le_trans h2 h3
 have H := Lib.hid h; clear h h2 h3
 have HZ := Lib.hid (show xs.length + szDs (xs.map Stm.d) ≤ 10000000 by rw [← szD_sls]; exact hz); clear hz
 go_enter Tryz.func157, Tryz.ntmps157
 go_wp2
 go_loopw [3, 9] (fun u i wr => ∃ j : Nat, j ≤ xs.length ∧ i = .int .i64 j ∧ Grow wr w.heap.size 102 9 u ((xs.take j).map Stm.d) ∧ Below w.heap.size w wr) (fun _ i _ => xs.length - (intOf i).toNat)
 case atStart => exact ⟨0, Nat.zero_le _, rfl, Grow.made _ _ _ (Nat.le_refl _), bel⟩
 case round =>
  obtain ⟨j, hj, rfl, hG, hb⟩ := hrel
  have HG := Lib.hid hG; clear hG
  by_cases hlt : j < xs.length
  ·have HT := Lib.hid (show (xs.take (j + 1)).map Stm.d = (xs.take j).map Stm.d ++ [Stm.d xs[j]] by rw [List.take_succ_eq_append_getElem hlt, List.map_append]; rfl)
   have hsz1 := szTo_succ Stm.d hlt
   have hsz2 := szTo_le Stm.d (xs := xs) (j + 1)
   have HX := Lib.hid (show szD (Stm.d xs[j]) ≤ 10000000 by have := HZ.out; omega); clear hsz1 hsz2
   have HL := Lib.hid (show j + 1 ≤ 1000000000 by have := HZ.out; omega)
   obtain ⟨b, o, cs, l, rfl, hbl, hr, _, _, hc⟩ := (H.out.below hb).sls_at Stm.d_size (k := j) hlt
   have G := Lib.hid hr
   obtain ⟨A2, c2, A5, c5, A8, c8, A9, c9, d2, d5, d8, d9, rfl, rfl, g1, g2, g3, g4, g5, g6, g7, g8, g9⟩ := Rep.stm_iff.1 hr
   have k0 := (hc 0 _ rfl).1; rw [Nat.add_zero] at k0
   have k1 := (hc 1 _ rfl).1
   have k2 := (hc 2 _ rfl).1
   have k3 := (hc 3 _ rfl).1
   have k4 := (hc 4 _ rfl).1
   have k5 := (hc 5 _ rfl).1
   have k6 := (hc 6 _ rfl).1
   have k7 := (hc 7 _ rfl).1
   have k8 := (hc 8 _ rfl).1
   clear hc hr g1 g2 g3 g4 g5 g6 g7 g8 g9
   go_wp2_with fail
   refine (l16OwnStmt_c (G.out.below bel) HX.out).mono ?_
   rintro e w1 ⟨cs1, bs1, rfl, r1', nd1, hb1, b1⟩
   have R1 := Lib.hid r1'
   obtain ⟨A2r, c2r, A5r, c5r, A8r, c8r, A9r, c9r, d2r, d5r, d8r, d9r, hcs1, _⟩ := Rep.stm_iff.1 r1'
   subst hcs1
   clear r1'
   have HB1 := Lib.hid (show ∀ y ∈ bs1, wr.heap.size ≤ y from fun y hy => by have := hb1 y hy; (try simp at this); omega)
   have N1 := Lib.hid nd1; clear nd1 hb1
   have S1 : Below wr.heap.size wr w1 := bel
   clear b1
   go_wp2_with (
    at_builtin
    refine wpList_append_grow (w0 := wr) rfl (.tmp 13) (.tmp 16) _ rfl _ Tryz.underlying52 Tryz.infoStmt rfl (by decide) rfl HG.out ?hbw (d := Stm.d xs[j]) (news := [.string xs[j].write.arr, .slice A2r xs[j].write.subs.length c2r, .int .i64 xs[j].value.kind, .int .i64 xs[j].value.num, .slice A5r xs[j].value.index.coefs.length c5r, .int .i64 xs[j].value.index.const, .string xs[j].value.read.arr, .slice A8r xs[j].value.read.subs.length c8r, .slice A9r xs[j].value.kids.length c9r]) rfl ?hrep N1.out HB1.out (new_cellsN _ [_, _, _, _, _, _, _, _, _] _ (by simp)) rfl ?hone ?hlen hb.size ?_
    case hbw => exact bel
    case hrep => exact R1.out.below ((Below.refl _ _).alloc (Nat.le_refl _) _)
    case hone => intro u hu; simp only [List.mem_cons, List.not_mem_nil, or_false] at hu; rcases hu with rfl | rfl | rfl | rfl | rfl | rfl | rfl | rfl | rfl <;> rfl
    case hlen => have := HL.out; simp only [List.length_map, List.length_take]; omega
    intro v' w4 hG4 hB4)
   rw [← HT.out] at hG4
   have S4 : Below w.heap.size w w4 := Below.trans (below_tr hb (show Below wr.heap.size wr _ from bel)) hB4
   clear HG
   go_wp2
   go_roundw
   case rel => exact ⟨j + 1, by omega, by go_num, hG4, S4⟩
   case measure => simp [intOf]; omega
  ·have hjj : j = xs.length := by omega
   subst hjj
   have hg := HG.out; clear HG
   rw [List.take_length] at hg
   obtain ⟨Au, cu, hfu, _, _⟩ := hg.form
   subst hfu
   have HG := Lib.hid hg; clear hg
   go_wp2
   go_ret
   exact MadeS.of_grow HG.out hb
theorem l16OwnLoop_c {x : Lp} {w : World} {cs : List Value} {bs : List Nat} (h : Rep w x.d cs bs) (hz : szD x.d ≤ 10000000) :
  Calls Tryz.prog 195 #[.agg cs.toArray] w (MadeT w x.d) := by
 rw [szD_lp] at hz
 obtain ⟨A1, c1, A2, c2, d1, d2, rfl, rfl, g1, g2⟩ := Rep.lp_iff.1 h
 have G1 := Lib.hid g1
 have Z1 := Lib.hid (show szD (sls Aff.d x.lo) ≤ 10000000 by omega)
 have G2 := Lib.hid g2
 have Z2 := Lib.hid (show szD (sls Aff.d x.hi) ≤ 10000000 by omega)
 clear h hz g1 g2
 go_enter Tryz.func195, Tryz.ntmps195
 go_wp2_with fail
 refine (l16OwnListAffine_c (G1.out.below bel) Z1.out).mono ?_
 rintro e w1 ⟨Ar1, nr1, cr1, bs1, rfl, r1, nd1, hy1, b1⟩
 obtain ⟨hn1, _, _⟩ := r1.sls_len
 subst hn1
 have hb1 : ∀ y ∈ bs1, w.heap.size + 2 ≤ y := fun y hy => by have := hy1 y hy; (try simp [World.setCell] at this); omega
 have PA1 : w1.cell? ⟨w.heap.size, 0, none⟩ = some (.slice A1 x.lo.length c1) ∧ w1.cell? ⟨w.heap.size, 1, none⟩ = some (.slice A2 x.hi.length c2) := by
  refine ⟨?_, ?_⟩ <;> (rw [b1.cell (by simp [World.setCell]; try (omega))]; go_simp)
 have PR1 : w1.cell? ⟨w.heap.size + 1, 0, none⟩ = some (.slice none 0 0) ∧ w1.cell? ⟨w.heap.size + 1, 1, none⟩ = some (.slice none 0 0) := by
  refine ⟨?_, ?_⟩ <;> (rw [b1.cell (by simp [World.setCell]; try (omega))]; go_simp)
 have F1 : w1.frozen? ⟨w.heap.size, 0, none⟩ = false ∧ w1.frozen? ⟨w.heap.size, 1, none⟩ = false ∧ w1.frozen? ⟨w.heap.size + 1, 0, none⟩ = false ∧ w1.frozen? ⟨w.heap.size + 1, 1, none⟩ = false := by
  refine ⟨?_, ?_, ?_, ?_⟩ <;> (rw [b1.frozen (by simp [World.setCell]; try (omega))]; go_simp)
 have S1 : Below w.heap.size w w1 := bel
 have ZS1 := Lib.hid (show w.heap.size + 2 ≤ w1.heap.size by have := b1.size; (try simp [World.setCell] at this); omega)
 have RR1_1 := Lib.hid r1; have HB1 := Lib.hid hb1; have ND1 := Lib.hid nd1; have LT1 := Lib.hid (Rep.lt _ r1)
 clear r1 hb1 nd1 hy1 b1
 go_wp2_with fail
 refine (l16OwnListAffine_c (G2.out.below (by repeat (first | with_reducible exact S1 | refine Below.setCell ?_ (by simp; try omega) _))) Z2.out).mono ?_
 rintro e w2 ⟨Ar2, nr2, cr2, bs2, rfl, r2, nd2, hy2, b2⟩
 obtain ⟨hn2, _, _⟩ := r2.sls_len
 subst hn2
 have hb2 : ∀ y ∈ bs2, w.heap.size + 2 ≤ y := fun y hy => by have := hy2 y hy; (try simp [World.setCell] at this); have := ZS1.out; omega
 have hc2 : ∀ y ∈ bs2, w1.heap.size ≤ y := fun y hy => by have := hy2 y hy; (try simp [World.setCell] at this); omega
 have PA2 : w2.cell? ⟨w.heap.size, 0, none⟩ = some (.slice Ar1 x.lo.length cr1) ∧ w2.cell? ⟨w.heap.size, 1, none⟩ = some (.slice A2 x.hi.length c2) := by
  refine ⟨?_, ?_⟩ <;> (rw [b2.cell (by simp [World.setCell]; try (have := ZS1.out; omega))]; go_simp)
 have PR2 : w2.cell? ⟨w.heap.size + 1, 0, none⟩ = some (.slice none 0 0) ∧ w2.cell? ⟨w.heap.size + 1, 1, none⟩ = some (.slice none 0 0) := by
  refine ⟨?_, ?_⟩ <;> (rw [b2.cell (by simp [World.setCell]; try (have := ZS1.out; omega))]; go_simp)
 have F2 : w2.frozen? ⟨w.heap.size, 0, none⟩ = false ∧ w2.frozen? ⟨w.heap.size, 1, none⟩ = false ∧ w2.frozen? ⟨w.heap.size + 1, 0, none⟩ = false ∧ w2.frozen? ⟨w.heap.size + 1, 1, none⟩ = false := by
  refine ⟨?_, ?_, ?_, ?_⟩ <;> (rw [b2.frozen (by simp [World.setCell]; try (have := ZS1.out; omega))]; go_simp)
 have RR1_2 := Lib.hid (show Rep w2 (sls Aff.d x.lo) [.slice Ar1 x.lo.length cr1] bs1 from Rep.below (Rep.keep _ RR1_1.out (by repeat (first | with_reducible exact Keeps.refl _ _ | refine Keeps.setCell ?_ (fun hm => by have := HB1.out _ hm; dsimp only at this; omega) _))) b2); clear RR1_1
 have S2 : Below w.heap.size w w2 := below_tr (by repeat (first | with_reducible exact S1 | refine Below.setCell ?_ (by simp; try omega) _)) b2
 have ZS2 := Lib.hid (show w.heap.size + 2 ≤ w2.heap.size by have := b2.size; (try simp [World.setCell] at this); have := ZS1.out; omega)
 have ZT2 := Lib.hid (show w1.heap.size ≤ w2.heap.size by have := b2.size; (try simp [World.setCell] at this); omega)
 have RR2_2 := Lib.hid r2; have HB2 := Lib.hid hb2; have ND2 := Lib.hid nd2; have LT2 := Lib.hid (Rep.lt _ r2); have HC2 := Lib.hid hc2
 clear r2 hb2 nd2 hy2 b2 hc2 PA1 PR1 F1
 have RALL := Lib.hid (show Rep w2 x.d [.slice Ar1 x.lo.length cr1, .slice Ar2 x.hi.length cr2] (bs1 ++ bs2) from (show ∀ W, Reps W [sls Aff.d x.lo, sls Aff.d x.hi] ([.slice Ar1 x.lo.length cr1] ++ ([.slice Ar2 x.hi.length cr2] ++ ([]))) (bs1 ++ (bs2 ++ ([]))) → Rep W x.d [.slice Ar1 x.lo.length cr1, .slice Ar2 x.hi.length cr2] (bs1 ++ bs2) from fun W hq => by simpa [List.append_assoc] using (show Rep W x.d _ _ from hq)) _ ⟨_, _, _, _, rfl, rfl, RR1_2.out, ⟨_, _, _, _, rfl, rfl, RR2_2.out, ⟨rfl, rfl⟩⟩⟩)
 have NDALL := Lib.hid (show (bs1 ++ bs2 : List Nat).Nodup from List.nodup_append.2 ⟨ND1.out, ND2.out, fun y h1 z h2 e => by
   subst e
   have h3 := HC2.out y h2
   (have := LT1.out y h1; omega)⟩)
 have HBALL := Lib.hid (show ∀ y ∈ (bs1 ++ bs2 : List Nat), w.heap.size + 2 ≤ y from (fun y hy => by
  simp only [List.mem_append] at hy
  rcases hy with hy | hy
  ·exact HB1.out y hy
  ·exact HB2.out y hy))
 clear RR1_2 HB1 ND1 LT1 RR2_2 HB2 ND2 LT2 HC2 ZT2
 go_wp2
 refine bodyPost_ret (v := .agg #[.slice Ar1 x.lo.length cr1, .slice Ar2 x.hi.length cr2]) (by simp [results, Tryz.results195, go_sem, PA2, PR2]) rfl ⟨[.slice Ar1 x.lo.length cr1, .slice Ar2 x.hi.length cr2], bs1 ++ bs2, rfl, ?_, NDALL.out, fun y hy => by have := HBALL.out y hy; omega, ?_⟩
 ·exact Rep.keep _ RALL.out (by repeat (first | with_reducible exact Keeps.refl _ _ | refine Keeps.setCell ?_ (fun hm => by have := HBALL.out _ hm; dsimp only at this; omega) _))
 ·exact (by repeat (first | with_reducible exact S2 | refine Below.setCell ?_ (by simp; try omega) _))
theorem l16OwnListLoop_c {xs : List Lp} {w : World} {A : Option Addr} {n c : Nat} {bs : List Nat} (h : Rep w (sls Lp.d xs) [.slice A n c] bs) (hz : szD (sls Lp.d xs) ≤ 10000000) :
  Calls Tryz.prog 156 #[.slice A n c] w (MadeS w (sls Lp.d xs)) := by
 obtain ⟨rfl, h2, h3⟩ := h.sls_len
 have hn : xs.length ≤ 9223372036854775807 := Nat.le_trans h2 h3
 have H := Lib.hid h; clear h h2 h3
 have HZ := Lib.hid (show xs.length + szDs (xs.map Lp.d) ≤ 10000000 by rw [← szD_sls]; exact hz); clear hz
 go_enter Tryz.func156, Tryz.ntmps156
 go_wp2
 go_loopw [3, 9] (fun u i wr => ∃ j : Nat, j ≤ xs.length ∧ i = .int .i64 j ∧ Grow wr w.heap.size 59 2 u ((xs.take j).map Lp.d) ∧ Below w.heap.size w wr) (fun _ i _ => xs.length - (intOf i).toNat)
 case atStart => exact ⟨0, Nat.zero_le _, rfl, Grow.made _ _ _ (Nat.le_refl _), bel⟩
 case round =>
  obtain ⟨j, hj, rfl, hG, hb⟩ := hrel
  have HG := Lib.hid hG; clear hG
  by_cases hlt : j < xs.length
  ·have HT := Lib.hid (show (xs.take (j + 1)).map Lp.d = (xs.take j).map Lp.d ++ [Lp.d xs[j]] by rw [List.take_succ_eq_append_getElem hlt, List.map_append]; rfl)
   have hsz1 := szTo_succ Lp.d hlt
   have hsz2 := szTo_le Lp.d (xs := xs) (j + 1)
   have HX := Lib.hid (show szD (Lp.d xs[j]) ≤ 10000000 by have := HZ.out; omega); clear hsz1 hsz2
   have HL := Lib.hid (show j + 1 ≤ 1000000000 by have := HZ.out; omega)
   obtain ⟨b, o, cs, l, rfl, hbl, hr, _, _, hc⟩ := (H.out.below hb).sls_at Lp.d_size (k := j) hlt
   have G := Lib.hid hr
   obtain ⟨A1, c1, A2, c2, d1, d2, rfl, rfl, g1, g2⟩ := Rep.lp_iff.1 hr
   have k0 := (hc 0 _ rfl).1; rw [Nat.add_zero] at k0
   have k1 := (hc 1 _ rfl).1
   clear hc hr g1 g2
   go_wp2_with fail
   refine (l16OwnLoop_c (G.out.below bel) HX.out).mono ?_
   rintro e w1 ⟨cs1, bs1, rfl, r1', nd1, hb1, b1⟩
   have R1 := Lib.hid r1'
   obtain ⟨A1r, c1r, A2r, c2r, d1r, d2r, hcs1, _⟩ := Rep.lp_iff.1 r1'
   subst hcs1
   clear r1'
   have HB1 := Lib.hid (show ∀ y ∈ bs1, wr.heap.size ≤ y from fun y hy => by have := hb1 y hy; (try simp at this); omega)
   have N1 := Lib.hid nd1; clear nd1 hb1
   have S1 : Below wr.heap.size wr w1 := bel
   clear b1
   go_wp2_with (
    at_builtin
    refine wpList_append_grow (w0 := wr) rfl (.tmp 13) (.tmp 16) _ rfl _ Tryz.underlying51 Tryz.infoLoop rfl (by decide) rfl HG.out ?hbw (d := Lp.d xs[j]) (news := [.slice A1r xs[j].lo.length c1r, .slice A2r xs[j].hi.length c2r]) rfl ?hrep N1.out HB1.out (new_cellsN _ [_, _] _ (by simp)) rfl ?hone ?hlen hb.size ?_
    case hbw => exact bel
    case hrep => exact R1.out.below ((Below.refl _ _).alloc (Nat.le_refl _) _)
    case hone => intro u hu; simp only [List.mem_cons, List.not_mem_nil, or_false] at hu; rcases hu with rfl | rfl <;> rfl
    case hlen => have := HL.out; simp only [List.length_map, List.length_take]; omega
    intro v' w4 hG4 hB4)
   rw [← HT.out] at hG4
   have S4 : Below w.heap.size w w4 := Below.trans (below_tr hb (show Below wr.heap.size wr _ from bel)) hB4
   clear HG
   go_wp2
   go_roundw
   case rel => exact ⟨j + 1, by omega, by go_num, hG4, S4⟩
   case measure => simp [intOf]; omega
  ·have hjj : j = xs.length := by omega
   subst hjj
   have hg := HG.out; clear HG
   rw [List.take_length] at hg
   obtain ⟨Au, cu, hfu, _, _⟩ := hg.form
   subst hfu
   have HG := Lib.hid hg; clear hg
   go_wp2
   go_ret
   exact MadeS.of_grow HG.out hb
theorem l16OwnPart_c {x : Prt} {w : World} {cs : List Value} {bs : List Nat} (h : Rep w x.d cs bs) (hz : szD x.d ≤ 10000000) :
  Calls Tryz.prog 115 #[.agg cs.toArray] w (MadeT w x.d) := by
 rw [szD_prt] at hz
 obtain ⟨A1, c1, A2, c2, d1, d2, rfl, rfl, g1, g2⟩ := Rep.prt_iff.1 h
 have G1 := Lib.hid g1
 have Z1 := Lib.hid (show szD (sls Lp.d x.nest) ≤ 10000000 by omega)
 have G2 := Lib.hid g2
 have Z2 := Lib.hid (show szD (sls Stm.d x.body) ≤ 10000000 by omega)
 clear h hz g1 g2
 go_enter Tryz.func115, Tryz.ntmps115
 go_wp2_with fail
 refine (l16OwnListLoop_c (G1.out.below bel) Z1.out).mono ?_
 rintro e w1 ⟨Ar1, nr1, cr1, bs1, rfl, r1, nd1, hy1, b1⟩
 obtain ⟨hn1, _, _⟩ := r1.sls_len
 subst hn1
 have hb1 : ∀ y ∈ bs1, w.heap.size + 2 ≤ y := fun y hy => by have := hy1 y hy; (try simp [World.setCell] at this); omega
 have PA1 : w1.cell? ⟨w.heap.size, 0, none⟩ = some (.slice A1 x.nest.length c1) ∧ w1.cell? ⟨w.heap.size, 1, none⟩ = some (.slice A2 x.body.length c2) := by
  refine ⟨?_, ?_⟩ <;> (rw [b1.cell (by simp [World.setCell]; try (omega))]; go_simp)
 have PR1 : w1.cell? ⟨w.heap.size + 1, 0, none⟩ = some (.slice none 0 0) ∧ w1.cell? ⟨w.heap.size + 1, 1, none⟩ = some (.slice none 0 0) := by
  refine ⟨?_, ?_⟩ <;> (rw [b1.cell (by simp [World.setCell]; try (omega))]; go_simp)
 have F1 : w1.frozen? ⟨w.heap.size, 0, none⟩ = false ∧ w1.frozen? ⟨w.heap.size, 1, none⟩ = false ∧ w1.frozen? ⟨w.heap.size + 1, 0, none⟩ = false ∧ w1.frozen? ⟨w.heap.size + 1, 1, none⟩ = false := by
  refine ⟨?_, ?_, ?_, ?_⟩ <;> (rw [b1.frozen (by simp [World.setCell]; try (omega))]; go_simp)
 have S1 : Below w.heap.size w w1 := bel
 have ZS1 := Lib.hid (show w.heap.size + 2 ≤ w1.heap.size by have := b1.size; (try simp [World.setCell] at this); omega)
 have RR1_1 := Lib.hid r1; have HB1 := Lib.hid hb1; have ND1 := Lib.hid nd1; have LT1 := Lib.hid (Rep.lt _ r1)
 clear r1 hb1 nd1 hy1 b1
 go_wp2_with fail
 refine (l16OwnListStmt_c (G2.out.below (by repeat (first | with_reducible exact S1 | refine Below.setCell ?_ (by simp; try omega) _))) Z2.out).mono ?_
 rintro e w2 ⟨Ar2, nr2, cr2, bs2, rfl, r2, nd2, hy2, b2⟩
 obtain ⟨hn2, _, _⟩ := r2.sls_len
 subst hn2
 have hb2 : ∀ y ∈ bs2, w.heap.size + 2 ≤ y := fun y hy => by have := hy2 y hy; (try simp [World.setCell] at this); have := ZS1.out; omega
 have hc2 : ∀ y ∈ bs2, w1.heap.size ≤ y := fun y hy => by have := hy2 y hy; (try simp [World.setCell] at this); omega
 have PA2 : w2.cell? ⟨w.heap.size, 0, none⟩ = some (.slice Ar1 x.nest.length cr1) ∧ w2.cell? ⟨w.heap.size, 1, none⟩ = some (.slice A2 x.body.length c2) := by
  refine ⟨?_, ?_⟩ <;> (rw [b2.cell (by simp [World.setCell]; try (have := ZS1.out; omega))]; go_simp)
 have PR2 : w2.cell? ⟨w.heap.size + 1, 0, none⟩ = some (.slice none 0 0) ∧ w2.cell? ⟨w.heap.size + 1, 1, none⟩ = some (.slice none 0 0) := by
  refine ⟨?_, ?_⟩ <;> (rw [b2.cell (by simp [World.setCell]; try (have := ZS1.out; omega))]; go_simp)
 have F2 : w2.frozen? ⟨w.heap.size, 0, none⟩ = false ∧ w2.frozen? ⟨w.heap.size, 1, none⟩ = false ∧ w2.frozen? ⟨w.heap.size + 1, 0, none⟩ = false ∧ w2.frozen? ⟨w.heap.size + 1, 1, none⟩ = false := by
  refine ⟨?_, ?_, ?_, ?_⟩ <;> (rw [b2.frozen (by simp [World.setCell]; try (have := ZS1.out; omega))]; go_simp)
 have RR1_2 := Lib.hid (show Rep w2 (sls Lp.d x.nest) [.slice Ar1 x.nest.length cr1] bs1 from Rep.below (Rep.keep _ RR1_1.out (by repeat (first | with_reducible exact Keeps.refl _ _ | refine Keeps.setCell ?_ (fun hm => by have := HB1.out _ hm; dsimp only at this; omega) _))) b2); clear RR1_1
 have S2 : Below w.heap.size w w2 := below_tr (by repeat (first | with_reducible exact S1 | refine Below.setCell ?_ (by simp; try omega) _)) b2
 have ZS2 := Lib.hid (show w.heap.size + 2 ≤ w2.heap.size by have := b2.size; (try simp [World.setCell] at this); have := ZS1.out; omega)
 have ZT2 := Lib.hid (show w1.heap.size ≤ w2.heap.size by have := b2.size; (try simp [World.setCell] at this); omega)
 have RR2_2 := Lib.hid r2; have HB2 := Lib.hid hb2; have ND2 := Lib.hid nd2; have LT2 := Lib.hid (Rep.lt _ r2); have HC2 := Lib.hid hc2
 clear r2 hb2 nd2 hy2 b2 hc2 PA1 PR1 F1
 have RALL := Lib.hid (show Rep w2 x.d [.slice Ar1 x.nest.length cr1, .slice Ar2 x.body.length cr2] (bs1 ++ bs2) from (show ∀ W, Reps W [sls Lp.d x.nest, sls Stm.d x.body] ([.slice Ar1 x.nest.length cr1] ++ ([.slice Ar2 x.body.length cr2] ++ ([]))) (bs1 ++ (bs2 ++ ([]))) → Rep W x.d [.slice Ar1 x.nest.length cr1, .slice Ar2 x.body.length cr2] (bs1 ++ bs2) from fun W hq => by simpa [List.append_assoc] using (show Rep W x.d _ _ from hq)) _ ⟨_, _, _, _, rfl, rfl, RR1_2.out, ⟨_, _, _, _, rfl, rfl, RR2_2.out, ⟨rfl, rfl⟩⟩⟩)
 have NDALL := Lib.hid (show (bs1 ++ bs2 : List Nat).Nodup from List.nodup_append.2 ⟨ND1.out, ND2.out, fun y h1 z h2 e => by
   subst e
   have h3 := HC2.out y h2
   (have := LT1.out y h1; omega)⟩)
 have HBALL := Lib.hid (show ∀ y ∈ (bs1 ++ bs2 : List Nat), w.heap.size + 2 ≤ y from (fun y hy => by
  simp only [List.mem_append] at hy
  rcases hy with hy | hy
  ·exact HB1.out y hy
  ·exact HB2.out y hy))
 clear RR1_2 HB1 ND1 LT1 RR2_2 HB2 ND2 LT2 HC2 ZT2
 go_wp2
 refine bodyPost_ret (v := .agg #[.slice Ar1 x.nest.length cr1, .slice Ar2 x.body.length cr2]) (by simp [results, Tryz.results115, go_sem, PA2, PR2]) rfl ⟨[.slice Ar1 x.nest.length cr1, .slice Ar2 x.body.length cr2], bs1 ++ bs2, rfl, ?_, NDALL.out, fun y hy => by have := HBALL.out y hy; omega, ?_⟩
 ·exact Rep.keep _ RALL.out (by repeat (first | with_reducible exact Keeps.refl _ _ | refine Keeps.setCell ?_ (fun hm => by have := HBALL.out _ hm; dsimp only at this; omega) _))
 ·exact (by repeat (first | with_reducible exact S2 | refine Below.setCell ?_ (by simp; try omega) _))
theorem l16OwnListPart_c {xs : List Prt} {w : World} {A : Option Addr} {n c : Nat} {bs : List Nat} (h : Rep w (sls Prt.d xs) [.slice A n c] bs) (hz : szD (sls Prt.d xs) ≤ 10000000) :
  Calls Tryz.prog 73 #[.slice A n c] w (MadeS w (sls Prt.d xs)) := by
 obtain ⟨rfl, h2, h3⟩ := h.sls_len
 have hn : xs.length ≤ 9223372036854775807 := Nat.le_trans h2 h3
 have H := Lib.hid h; clear h h2 h3
 have HZ := Lib.hid (show xs.length + szDs (xs.map Prt.d) ≤ 10000000 by rw [← szD_sls]; exact hz); clear hz
 go_enter Tryz.func73, Tryz.ntmps73
 go_wp2
 go_loopw [3, 9] (fun u i wr => ∃ j : Nat, j ≤ xs.length ∧ i = .int .i64 j ∧ Grow wr w.heap.size 54 2 u ((xs.take j).map Prt.d) ∧ Below w.heap.size w wr) (fun _ i _ => xs.length - (intOf i).toNat)
 case atStart => exact ⟨0, Nat.zero_le _, rfl, Grow.made _ _ _ (Nat.le_refl _), bel⟩
 case round =>
  obtain ⟨j, hj, rfl, hG, hb⟩ := hrel
  have HG := Lib.hid hG; clear hG
  by_cases hlt : j < xs.length
  ·have HT := Lib.hid (show (xs.take (j + 1)).map Prt.d = (xs.take j).map Prt.d ++ [Prt.d xs[j]] by rw [List.take_succ_eq_append_getElem hlt, List.map_append]; rfl)
   have hsz1 := szTo_succ Prt.d hlt
   have hsz2 := szTo_le Prt.d (xs := xs) (j + 1)
   have HX := Lib.hid (show szD (Prt.d xs[j]) ≤ 10000000 by have := HZ.out; omega); clear hsz1 hsz2
   have HL := Lib.hid (show j + 1 ≤ 1000000000 by have := HZ.out; omega)
   obtain ⟨b, o, cs, l, rfl, hbl, hr, _, _, hc⟩ := (H.out.below hb).sls_at Prt.d_size (k := j) hlt
   have G := Lib.hid hr
   obtain ⟨A1, c1, A2, c2, d1, d2, rfl, rfl, g1, g2⟩ := Rep.prt_iff.1 hr
   have k0 := (hc 0 _ rfl).1; rw [Nat.add_zero] at k0
   have k1 := (hc 1 _ rfl).1
   clear hc hr g1 g2
   go_wp2_with fail
   refine (l16OwnPart_c (G.out.below bel) HX.out).mono ?_
   rintro e w1 ⟨cs1, bs1, rfl, r1', nd1, hb1, b1⟩
   have R1 := Lib.hid r1'
   obtain ⟨A1r, c1r, A2r, c2r, d1r, d2r, hcs1, _⟩ := Rep.prt_iff.1 r1'
   subst hcs1
   clear r1'
   have HB1 := Lib.hid (show ∀ y ∈ bs1, wr.heap.size ≤ y from fun y hy => by have := hb1 y hy; (try simp at this); omega)
   have N1 := Lib.hid nd1; clear nd1 hb1
   have S1 : Below wr.heap.size wr w1 := bel
   clear b1
   go_wp2_with (
    at_builtin
    refine wpList_append_grow (w0 := wr) rfl (.tmp 13) (.tmp 16) _ rfl _ Tryz.underlying28 Tryz.infoPart rfl (by decide) rfl HG.out ?hbw (d := Prt.d xs[j]) (news := [.slice A1r xs[j].nest.length c1r, .slice A2r xs[j].body.length c2r]) rfl ?hrep N1.out HB1.out (new_cellsN _ [_, _] _ (by simp)) rfl ?hone ?hlen hb.size ?_
    case hbw => exact bel
    case hrep => exact R1.out.below ((Below.refl _ _).alloc (Nat.le_refl _) _)
    case hone => intro u hu; simp only [List.mem_cons, List.not_mem_nil, or_false] at hu; rcases hu with rfl | rfl <;> rfl
    case hlen => have := HL.out; simp only [List.length_map, List.length_take]; omega
    intro v' w4 hG4 hB4)
   rw [← HT.out] at hG4
   have S4 : Below w.heap.size w w4 := Below.trans (below_tr hb (show Below wr.heap.size wr _ from bel)) hB4
   clear HG
   go_wp2
   go_roundw
   case rel => exact ⟨j + 1, by omega, by go_num, hG4, S4⟩
   case measure => simp [intOf]; omega
  ·have hjj : j = xs.length := by omega
   subst hjj
   have hg := HG.out; clear HG
   rw [List.take_length] at hg
   obtain ⟨Au, cu, hfu, _, _⟩ := hg.form
   subst hfu
   have HG := Lib.hid hg; clear hg
   go_wp2
   go_ret
   exact MadeS.of_grow HG.out hb
theorem l16OwnArray_c {w : World} {x : Ar} {cs : List Value} {bs : List Nat} (h : Rep w x.d cs bs) (hz : szD x.d ≤ 10000000) :
  Calls Tryz.prog 114 #[.agg cs.toArray] w (MadeT w x.d) := by
 rw [szD_ar] at hz
 have hl : x.dims.length ≤ 10000000 := by omega
 clear hz
 obtain ⟨A, c, d1, rfl, rfl, hI, hra⟩ := Rep.ar_iff.1 h
 have HA := Lib.hid hra; clear hra h
 have HI := Lib.hid hI; clear hI
 have hn : x.dims.length ≤ 9223372036854775807 := by omega
 go_enter Tryz.func114, Tryz.ntmps114
 go_wp2_with (
  at_builtin
  refine wpList_append_copy (B := w.heap.size + 2) rfl (.tmp 3) (.tmp 5) rfl Tryz.underlying39 Tryz.infoInt rfl ?hG rfl (HA.out.below bel) hl (by first | (simp; done) | (simp; omega) | omega) ?_
  case hG => (repeat (first | exact Grow.madeE _ _ (by simp) (by simp) | refine Grow.drewG ?_ | refine Grow.allocG ?_ _))
  intro v4 w4 hG4 hg4
  obtain ⟨A4, c4, bs4, rfl, r4, nd4, hb4, ho4⟩ := hG4.ints
  have b4 : Below (w.heap.size + 2) _ w4 := hg4.below (by first | (simp; done) | (simp; omega) | omega) (fun y hy => by have h5 : some _ = some y := hy; have h6 := Option.some.inj h5; clear h5 hy; simp at h6; omega)
  have B4 := b4.mono (show w.heap.size ≤ w.heap.size + 2 by omega)
  clear hG4
  refine have_of (Q := BoxW w4 w.heap.size (.string x.name) (.slice A x.dims.length c) ∧ BoxW w4 (w.heap.size + 1) (.string ⟨#[]⟩) (.slice none 0 0)) ?hq ?_
  case hq => constructor <;> (refine hg4.touch.boxW ⟨⟨?_, ?_⟩, ?_, ?_⟩ ?_ <;> first | (go_simp; done) | (intro hm; have h6 := own_some hm; first | omega | (simp at h6; done) | (simp at h6; omega)))
  rintro ⟨⟨⟨P5a, P5b⟩, P5c, P5d⟩, ⟨Q5a, Q5b⟩, Q5c, Q5d⟩)
 have hnb : w.heap.size + 1 ∉ bs4 := fun hm => by have := hb4 _ hm; omega
 have hna : w.heap.size ∉ bs4 := fun hm => by have := hb4 _ hm; omega
 have S4 : Below w.heap.size w w4 := by
  refine Below.trans ?_ B4
  (repeat (first | with_reducible exact Below.refl _ _ | refine Below.setCell ?_ (by simp; try omega) _ | refine below_al ?_ _ | refine Below.alloc ?_ (by simp [World.setCell]; try omega) _ | refine below_drewN ?_ _ | refine Below.drew ?_ | refine below_tr ?_ ‹Below _ _ _›))
 have hb5 : ∀ y ∈ bs4, w.heap.size ≤ y := fun y hy => by have := hb4 y hy; omega
 clear hb4 ho4 hg4 b4 B4
 go_wp2
 exact bodyPost_ret (v := .agg #[.string x.name, .slice A4 x.dims.length c4]) (by simp [results, Tryz.results114, go_sem, P5a, P5b, Q5a, Q5b]) rfl ⟨[.string x.name, .slice A4 x.dims.length c4], bs4, rfl, Rep.ar_iff.2 ⟨_, _, _, rfl, rfl, HI.out, Rep.keep _ r4 (by repeat (first | with_reducible exact Keeps.refl _ _ | refine Keeps.setCell ?_ (by first | exact hna | exact hnb) _))⟩, nd4, hb5, (by repeat (first | with_reducible exact S4 | refine Below.setCell ?_ (by simp; try omega) _))⟩
theorem l16OwnListArray_c {xs : List Ar} {w : World} {A : Option Addr} {n c : Nat} {bs : List Nat} (h : Rep w (sls Ar.d xs) [.slice A n c] bs) (hz : szD (sls Ar.d xs) ≤ 10000000) :
  Calls Tryz.prog 72 #[.slice A n c] w (MadeS w (sls Ar.d xs)) := by
 obtain ⟨rfl, h2, h3⟩ := h.sls_len
 have hn : xs.length ≤ 9223372036854775807 := Nat.le_trans h2 h3
 have H := Lib.hid h; clear h h2 h3
 have HZ := Lib.hid (show xs.length + szDs (xs.map Ar.d) ≤ 10000000 by rw [← szD_sls]; exact hz); clear hz
 go_enter Tryz.func72, Tryz.ntmps72
 go_wp2
 go_loopw [3, 9] (fun u i wr => ∃ j : Nat, j ≤ xs.length ∧ i = .int .i64 j ∧ Grow wr w.heap.size 125 2 u ((xs.take j).map Ar.d) ∧ Below w.heap.size w wr) (fun _ i _ => xs.length - (intOf i).toNat)
 case atStart => exact ⟨0, Nat.zero_le _, rfl, Grow.made _ _ _ (Nat.le_refl _), bel⟩
 case round =>
  obtain ⟨j, hj, rfl, hG, hb⟩ := hrel
  have HG := Lib.hid hG; clear hG
  by_cases hlt : j < xs.length
  ·have HT := Lib.hid (show (xs.take (j + 1)).map Ar.d = (xs.take j).map Ar.d ++ [Ar.d xs[j]] by rw [List.take_succ_eq_append_getElem hlt, List.map_append]; rfl)
   have hsz1 := szTo_succ Ar.d hlt
   have hsz2 := szTo_le Ar.d (xs := xs) (j + 1)
   have HX := Lib.hid (show szD (Ar.d xs[j]) ≤ 10000000 by have := HZ.out; omega); clear hsz1 hsz2
   have HL := Lib.hid (show j + 1 ≤ 1000000000 by have := HZ.out; omega)
   obtain ⟨b, o, cs, l, rfl, hbl, hr, _, _, hc⟩ := (H.out.below hb).sls_at Ar.d_size (k := j) hlt
   have G := Lib.hid hr
   obtain ⟨A2, c2, d2, rfl, rfl, g1, g2⟩ := Rep.ar_iff.1 hr
   have k0 := (hc 0 _ rfl).1; rw [Nat.add_zero] at k0
   have k1 := (hc 1 _ rfl).1
   clear hc hr g1 g2
   go_wp2_with fail
   refine (l16OwnArray_c (G.out.below bel) HX.out).mono ?_
   rintro e w1 ⟨cs1, bs1, rfl, r1', nd1, hb1, b1⟩
   have R1 := Lib.hid r1'
   obtain ⟨A2r, c2r, d2r, hcs1, _⟩ := Rep.ar_iff.1 r1'
   subst hcs1
   clear r1'
   have HB1 := Lib.hid (show ∀ y ∈ bs1, wr.heap.size ≤ y from fun y hy => by have := hb1 y hy; (try simp at this); omega)
   have N1 := Lib.hid nd1; clear nd1 hb1
   have S1 : Below wr.heap.size wr w1 := bel
   clear b1
   go_wp2_with (
    at_builtin
    refine wpList_append_grow (w0 := wr) rfl (.tmp 13) (.tmp 16) _ rfl _ Tryz.underlying27 Tryz.infoArray rfl (by decide) rfl HG.out ?hbw (d := Ar.d xs[j]) (news := [.string xs[j].name, .slice A2r xs[j].dims.length c2r]) rfl ?hrep N1.out HB1.out (new_cellsN _ [_, _] _ (by simp)) rfl ?hone ?hlen hb.size ?_
    case hbw => exact bel
    case hrep => exact R1.out.below ((Below.refl _ _).alloc (Nat.le_refl _) _)
    case hone => intro u hu; simp only [List.mem_cons, List.not_mem_nil, or_false] at hu; rcases hu with rfl | rfl <;> rfl
    case hlen => have := HL.out; simp only [List.length_map, List.length_take]; omega
    intro v' w4 hG4 hB4)
   rw [← HT.out] at hG4
   have S4 : Below w.heap.size w w4 := Below.trans (below_tr hb (show Below wr.heap.size wr _ from bel)) hB4
   clear HG
   go_wp2
   go_roundw
   case rel => exact ⟨j + 1, by omega, by go_num, hG4, S4⟩
   case measure => simp [intOf]; omega
  ·have hjj : j = xs.length := by omega
   subst hjj
   have hg := HG.out; clear HG
   rw [List.take_length] at hg
   obtain ⟨Au, cu, hfu, _, _⟩ := hg.form
   subst hfu
   have HG := Lib.hid hg; clear hg
   go_wp2
   go_ret
   exact MadeS.of_grow HG.out hb
theorem l16OwnProgram_c {x : Pgm} {w : World} {cs : List Value} {bs : List Nat} (h : Rep w x.d cs bs) (hz : szD x.d ≤ 10000000) :
  Calls Tryz.prog 29 #[.agg cs.toArray] w (MadeT w x.d) := by
 rw [szD_pgm] at hz
 obtain ⟨A1, c1, A2, c2, d1, d2, rfl, rfl, g1, g2⟩ := Rep.pgm_iff.1 h
 have G1 := Lib.hid g1
 have Z1 := Lib.hid (show szD (sls Ar.d x.arrays) ≤ 10000000 by omega)
 have G2 := Lib.hid g2
 have Z2 := Lib.hid (show szD (sls Prt.d x.parts) ≤ 10000000 by omega)
 clear h hz g1 g2
 go_enter Tryz.func29, Tryz.ntmps29
 go_wp2_with fail
 refine (l16OwnListArray_c (G1.out.below bel) Z1.out).mono ?_
 rintro e w1 ⟨Ar1, nr1, cr1, bs1, rfl, r1, nd1, hy1, b1⟩
 obtain ⟨hn1, _, _⟩ := r1.sls_len
 subst hn1
 have hb1 : ∀ y ∈ bs1, w.heap.size + 2 ≤ y := fun y hy => by have := hy1 y hy; (try simp [World.setCell] at this); omega
 have PA1 : w1.cell? ⟨w.heap.size, 0, none⟩ = some (.slice A1 x.arrays.length c1) ∧ w1.cell? ⟨w.heap.size, 1, none⟩ = some (.slice A2 x.parts.length c2) := by
  refine ⟨?_, ?_⟩ <;> (rw [b1.cell (by simp [World.setCell]; try (omega))]; go_simp)
 have PR1 : w1.cell? ⟨w.heap.size + 1, 0, none⟩ = some (.slice none 0 0) ∧ w1.cell? ⟨w.heap.size + 1, 1, none⟩ = some (.slice none 0 0) := by
  refine ⟨?_, ?_⟩ <;> (rw [b1.cell (by simp [World.setCell]; try (omega))]; go_simp)
 have F1 : w1.frozen? ⟨w.heap.size, 0, none⟩ = false ∧ w1.frozen? ⟨w.heap.size, 1, none⟩ = false ∧ w1.frozen? ⟨w.heap.size + 1, 0, none⟩ = false ∧ w1.frozen? ⟨w.heap.size + 1, 1, none⟩ = false := by
  refine ⟨?_, ?_, ?_, ?_⟩ <;> (rw [b1.frozen (by simp [World.setCell]; try (omega))]; go_simp)
 have S1 : Below w.heap.size w w1 := bel
 have ZS1 := Lib.hid (show w.heap.size + 2 ≤ w1.heap.size by have := b1.size; (try simp [World.setCell] at this); omega)
 have RR1_1 := Lib.hid r1; have HB1 := Lib.hid hb1; have ND1 := Lib.hid nd1; have LT1 := Lib.hid (Rep.lt _ r1)
 clear r1 hb1 nd1 hy1 b1
 go_wp2_with fail
 refine (l16OwnListPart_c (G2.out.below (by repeat (first | with_reducible exact S1 | refine Below.setCell ?_ (by simp; try omega) _))) Z2.out).mono ?_
 rintro e w2 ⟨Ar2, nr2, cr2, bs2, rfl, r2, nd2, hy2, b2⟩
 obtain ⟨hn2, _, _⟩ := r2.sls_len
 subst hn2
 have hb2 : ∀ y ∈ bs2, w.heap.size + 2 ≤ y := fun y hy => by have := hy2 y hy; (try simp [World.setCell] at this); have := ZS1.out; omega
 have hc2 : ∀ y ∈ bs2, w1.heap.size ≤ y := fun y hy => by have := hy2 y hy; (try simp [World.setCell] at this); omega
 have PA2 : w2.cell? ⟨w.heap.size, 0, none⟩ = some (.slice Ar1 x.arrays.length cr1) ∧ w2.cell? ⟨w.heap.size, 1, none⟩ = some (.slice A2 x.parts.length c2) := by
  refine ⟨?_, ?_⟩ <;> (rw [b2.cell (by simp [World.setCell]; try (have := ZS1.out; omega))]; go_simp)
 have PR2 : w2.cell? ⟨w.heap.size + 1, 0, none⟩ = some (.slice none 0 0) ∧ w2.cell? ⟨w.heap.size + 1, 1, none⟩ = some (.slice none 0 0) := by
  refine ⟨?_, ?_⟩ <;> (rw [b2.cell (by simp [World.setCell]; try (have := ZS1.out; omega))]; go_simp)
 have F2 : w2.frozen? ⟨w.heap.size, 0, none⟩ = false ∧ w2.frozen? ⟨w.heap.size, 1, none⟩ = false ∧ w2.frozen? ⟨w.heap.size + 1, 0, none⟩ = false ∧ w2.frozen? ⟨w.heap.size + 1, 1, none⟩ = false := by
  refine ⟨?_, ?_, ?_, ?_⟩ <;> (rw [b2.frozen (by simp [World.setCell]; try (have := ZS1.out; omega))]; go_simp)
 have RR1_2 := Lib.hid (show Rep w2 (sls Ar.d x.arrays) [.slice Ar1 x.arrays.length cr1] bs1 from Rep.below (Rep.keep _ RR1_1.out (by repeat (first | with_reducible exact Keeps.refl _ _ | refine Keeps.setCell ?_ (fun hm => by have := HB1.out _ hm; dsimp only at this; omega) _))) b2); clear RR1_1
 have S2 : Below w.heap.size w w2 := below_tr (by repeat (first | with_reducible exact S1 | refine Below.setCell ?_ (by simp; try omega) _)) b2
 have ZS2 := Lib.hid (show w.heap.size + 2 ≤ w2.heap.size by have := b2.size; (try simp [World.setCell] at this); have := ZS1.out; omega)
 have ZT2 := Lib.hid (show w1.heap.size ≤ w2.heap.size by have := b2.size; (try simp [World.setCell] at this); omega)
 have RR2_2 := Lib.hid r2; have HB2 := Lib.hid hb2; have ND2 := Lib.hid nd2; have LT2 := Lib.hid (Rep.lt _ r2); have HC2 := Lib.hid hc2
 clear r2 hb2 nd2 hy2 b2 hc2 PA1 PR1 F1
 have RALL := Lib.hid (show Rep w2 x.d [.slice Ar1 x.arrays.length cr1, .slice Ar2 x.parts.length cr2] (bs1 ++ bs2) from (show ∀ W, Reps W [sls Ar.d x.arrays, sls Prt.d x.parts] ([.slice Ar1 x.arrays.length cr1] ++ ([.slice Ar2 x.parts.length cr2] ++ ([]))) (bs1 ++ (bs2 ++ ([]))) → Rep W x.d [.slice Ar1 x.arrays.length cr1, .slice Ar2 x.parts.length cr2] (bs1 ++ bs2) from fun W hq => by simpa [List.append_assoc] using (show Rep W x.d _ _ from hq)) _ ⟨_, _, _, _, rfl, rfl, RR1_2.out, ⟨_, _, _, _, rfl, rfl, RR2_2.out, ⟨rfl, rfl⟩⟩⟩)
 have NDALL := Lib.hid (show (bs1 ++ bs2 : List Nat).Nodup from List.nodup_append.2 ⟨ND1.out, ND2.out, fun y h1 z h2 e => by
   subst e
   have h3 := HC2.out y h2
   (have := LT1.out y h1; omega)⟩)
 have HBALL := Lib.hid (show ∀ y ∈ (bs1 ++ bs2 : List Nat), w.heap.size + 2 ≤ y from (fun y hy => by
  simp only [List.mem_append] at hy
  rcases hy with hy | hy
  ·exact HB1.out y hy
  ·exact HB2.out y hy))
 clear RR1_2 HB1 ND1 LT1 RR2_2 HB2 ND2 LT2 HC2 ZT2
 go_wp2
 refine bodyPost_ret (v := .agg #[.slice Ar1 x.arrays.length cr1, .slice Ar2 x.parts.length cr2]) (by simp [results, Tryz.results29, go_sem, PA2, PR2]) rfl ⟨[.slice Ar1 x.arrays.length cr1, .slice Ar2 x.parts.length cr2], bs1 ++ bs2, rfl, ?_, NDALL.out, fun y hy => by have := HBALL.out y hy; omega, ?_⟩
 ·exact Rep.keep _ RALL.out (by repeat (first | with_reducible exact Keeps.refl _ _ | refine Keeps.setCell ?_ (fun hm => by have := HBALL.out _ hm; dsimp only at this; omega) _))
 ·exact (by repeat (first | with_reducible exact S2 | refine Below.setCell ?_ (by simp; try omega) _))
end Go.Proofs.YtgogjbnneoadkaaGreat
