/- Orders of a part's instances with another function's say: isLoop, around of the program. -/
import Derived.Test.YtgogjbnneoadkaaGreatZpIter
import Derived.Test.YtgogjbnneoadkaaGreatZpFlowS
set_option linter.all false
set_option linter.unusedSimpArgs false
set_option linter.unusedVariables false
namespace Go.Proofs.YtgogjbnneoadkaaGreat
open Go.ChangeShapes Go.WideShapes Go.ChangeAt Go.RowKit Go.Deep

set_option maxRecDepth 100000 in
theorem isPart_c {w : World} {p : Pgm} {cs : List Value} {bs : List Nat} {k : Int} (h : Rep w p.d cs bs) :
    Calls Tryz.prog 80 #[.agg cs.toArray, .int .i64 k] w fun e w' => e = .returned (.bool (inB k 0 ((p.parts.length : Int) - 1))) ∧ Below w.heap.size w w' := by
  obtain ⟨A1, c1, A2, c2, d1, d2, rfl, rfl, g1, g2⟩ := Rep.pgm_iff.1 h
  have Garrays := Lib.hid g1
  have Gparts := Lib.hid g2
  clear h g1 g2
  have hn : p.parts.length ≤ 9223372036854775807 := Nat.le_trans Gparts.out.sls_len.2.1 Gparts.out.sls_len.2.2
  go_enter Tryz.func80, Tryz.ntmps80
  go_wp2_with fail
  refine (within_c _ _ _ _).mono ?_
  rintro e w' ⟨rfl, rfl⟩
  go_wp2
  go_ret
  exact ⟨rfl, bel⟩
set_option maxRecDepth 100000 in
set_option maxHeartbeats 2000000 in
theorem isLoop_c {w : World} {p : Pgm} {cs : List Value} {bs : List Nat} {k m : Int} (h : Rep w p.d cs bs) :
    Calls Tryz.prog 81 #[.agg cs.toArray, .int .i64 k, .int .i64 m] w fun e w' => e = .returned (.bool (decide (loopThere p k m))) ∧ Below w.heap.size w w' := by
  have HP := Lib.hid h
  obtain ⟨A1, c1, A2, c2, d1, d2, rfl, rfl, g1, g2⟩ := Rep.pgm_iff.1 h
  have Garrays := Lib.hid g1
  have Gparts := Lib.hid g2
  clear h g1 g2
  go_enter Tryz.func81, Tryz.ntmps81
  go_wp2_with fail
  refine (isPart_c (HP.out.below bel)).mono ?_
  rintro e w1 ⟨rfl, b1⟩
  have P1 : Box2 w1 w.heap.size (.slice A1 p.arrays.length c1) (.slice A2 p.parts.length c2) := by
    refine ⟨?_, ?_⟩ <;> (rw [b1.cell (by simp [World.setCell]; try omega)]; go_simp)
  have S1 : Below w.heap.size w w1 := bel
  clear b1
  cases hin : inB k 0 ((p.parts.length : Int) - 1) with
  | false =>
    have HX := Lib.hid (show decide (loopThere p k m) = false from decide_eq_false (fun hh => by
      rw [inB_true hh.1.1 (by have := hh.1.2; omega)] at hin; cases hin))
    clear hin
    go_wp2
    go_ret
    exact ⟨ret_bool HX.out.symm, S1⟩
  | true =>
    have hb := inB_iff.1 hin
    obtain ⟨q, rfl⟩ := Int.eq_ofNat_of_zero_le hb.1
    have hq : q < p.parts.length := by omega
    have HX := Lib.hid (show decide (loopThere p (q : Int) m) = inB m 0 ((p.parts[q].nest.length : Int) - 1) by
      have e1 : (p.parts.getD (q : Int).toNat ⟨[], []⟩).nest.length = p.parts[q].nest.length := by simp [List.getD_eq_getElem?_getD, hq]
      have hi : loopThere p (q : Int) m ↔ (0 ≤ m ∧ m ≤ (p.parts[q].nest.length : Int) - 1) := by unfold loopThere; rw [e1]; omega
      unfold inB
      rw [← Bool.decide_and]
      exact decide_eq_decide.2 hi)
    clear hin
    obtain ⟨be, oe, cse, le, rfl, hble, hre, _, _, hce⟩ := (Gparts.out.below S1).sls_at Prt.d_size (k := q) hq
    have Ge := Lib.hid hre
    obtain ⟨A1e, c1e, A2e, c2e, d1e, d2e, rfl, rfl, g1e, g2e⟩ := Rep.prt_iff.1 hre
    have k0e := (hce 0 _ rfl).1; rw [Nat.add_zero] at k0e
    have k1e := (hce 1 _ rfl).1
    have Q1e := Lib.hid g1e
    have Q2e := Lib.hid g2e
    clear hce hre g1e g2e
    have hn : p.parts[q].nest.length ≤ 9223372036854775807 := Nat.le_trans Q1e.out.sls_len.2.1 Q1e.out.sls_len.2.2
    go_wp2_with fail
    refine (within_c _ _ _ _).mono ?_
    rintro e w' ⟨rfl, rfl⟩
    go_wp2
    go_ret
    exact ⟨ret_bool HX.out.symm, S1⟩
theorem Grow.low {w w' : World} {B : Nat} {e : TypeId} {size : Nat} {v : Value} {xs : List D} {N : List Nat} (h : Grow w B e size v xs) (t : Touch N w w') (hN : ∀ y ∈ N, y < B) : Grow w' B e size v xs :=
  h.kept t.size fun g hg hl => t.block g hl fun hm => by have := hN g hm; omega
/-- below B only the blocks N are other ones -/
structure Low (B : Nat) (N : List Nat) (a b : World) : Prop where
  os : b.os = a.os
  tape : b.tape = a.tape
  output : b.output = a.output
  size : a.heap.size ≤ b.heap.size
  block : ∀ y, y < B → y ∉ N → b.heap[y]? = a.heap[y]?
section
variable {B : Nat} {N : List Nat} {a b c : World}
theorem Low.of_below (h : Below B a b) : Low B N a b := ⟨h.os, h.tape, h.output, h.size, fun y hy _ => h.block y hy⟩
theorem Low.touch (h : Low B N a b) (t : Touch N b c) (hB : B ≤ a.heap.size) : Low B N a c :=
  ⟨t.os.trans h.os, t.tape.trans h.tape, t.output.trans h.output, Nat.le_trans h.size t.size, fun y hy hn => (t.block y (by have := h.size; omega) hn).trans (h.block y hy hn)⟩
theorem Low.below (h : Low B N a b) (t : Below B b c) : Low B N a c :=
  ⟨t.os.trans h.os, t.tape.trans h.tape, t.output.trans h.output, Nat.le_trans h.size t.size, fun y hy hn => (t.block y hy).trans (h.block y hy hn)⟩
theorem Low.grew {u v : Value} (h : Low B N a b) (g : Grew b c u v) (hB : B ≤ a.heap.size) (ho : ∀ y, u.ownBlock = some y → B ≤ y) : Low B N a c :=
  h.below (g.below (by have := h.size; omega) ho)
theorem Low.rep {d : D} {cs : List Value} {bs : List Nat} (h : Low B N a b) (r : Rep a d cs bs) (hb : ∀ y ∈ bs, y < B ∧ y ∉ N) : Rep b d cs bs := Rep.keep _ r ⟨h.size, fun y hy => h.block y (hb y hy).1 (hb y hy).2⟩
theorem Low.cell {g o : Nat} {v : Value} (h : Low B N a b) (k : a.cell? ⟨g, o, none⟩ = some v) (hg : g < B) (hn : g ∉ N) : b.cell? ⟨g, o, none⟩ = some v := (World.cell?_of_block (h.block g hg hn)).trans k
theorem Low.box5 {g : Nat} {u0 u1 u2 u3 u4 : Value} (h : Low B N a b) (k : Box5 a g u0 u1 u2 u3 u4) (hg : g < B) (hn : g ∉ N) : Box5 b g u0 u1 u2 u3 u4 :=
  ⟨h.cell k.1 hg hn, h.cell k.2.1 hg hn, h.cell k.2.2.1 hg hn, h.cell k.2.2.2.1 hg hn, h.cell k.2.2.2.2 hg hn⟩
theorem Low.out {w : World} (h : Low B N a b) (k : Below w.heap.size w a) (hB : w.heap.size ≤ B) : Touch N w b :=
  ⟨h.os.trans k.os, h.tape.trans k.tape, h.output.trans k.output, Nat.le_trans k.size h.size, fun y hy hn => (h.block y (by omega) hn).trans (k.block y hy)⟩
end
/-- the function orders the j-th group's instances as F says; N: the blocks that it writes to; I: what it remembers -/
def Takes (B : Nat) (I : Nat → World → Prop) (N : List Nat) (g : FuncId) (cap : Array Value) (F : Nat → List Int) (G : List (List (List Int))) : Prop :=
  ∀ j (h : j < G.length) (W : World) (A : Option Addr) (c : Nat) (bs : List Nat), B ≤ W.heap.size → I j W → Rep W (sls ints G[j]) [.slice A G[j].length c] bs → (∀ y ∈ bs, B ≤ y) →
    Calls Tryz.prog g (#[.slice A G[j].length c] ++ cap) W fun e w' => (∃ A n c bs, e = .returned (.slice A n c) ∧ Rep w' (ints (F j)) [.slice A n c] bs) ∧ Touch N W w' ∧ I (j + 1) w'
def ordF (p : Pgm) (k m : Int) (F : Nat → List Int) : List Int × Bool :=
  if progOk p = true ∧ loopThere p k m then (toI (befF (instsF p) k.toNat) ++ (List.range (grpsF (instsF p) k.toNat m.toNat).length).flatMap F ++ toI (aftF (instsF p) k.toNat), true) else ([], false)
theorem toI_len (l : List Nat) : (toI l).length = l.length := by unfold toI; rw [List.length_map]
theorem ixTo_in {us : List In} {f : In → Bool} {j : Nat} (h : j < us.length) : ixTo us f (j + 1) = ixTo us f j ++ (if f us[j] then [j] else []) := by rw [ixTo_succ, getD_in h]
set_option maxRecDepth 100000 in
set_option maxHeartbeats 8000000 in
theorem around_c {w : World} {p : Pgm} {cs : List Value} {bs : List Nat} {k m : Int} {I : Nat → World → Prop} {N : List Nat} {g : FuncId} {cap : Array Value} {F : Nat → List Int} (h : Rep w p.d cs bs) (hg : Enters Tryz.prog g) (hI0 : I 0 w)
    (hIb : ∀ j W W', I j W → w.heap.size ≤ W.heap.size → W.heap.size ≤ W'.heap.size → (∀ y, y < w.heap.size → W'.heap[y]? = W.heap[y]?) → I j W') (hN : ∀ y ∈ N, y < w.heap.size)
    (hT : progOk p = true → loopThere p k m → Takes w.heap.size I N g cap F (toI3 (grpsF (instsF p) k.toNat m.toNat))) (hF : ∀ j, progOk p = true → loopThere p k m → j ≤ (grpsF (instsF p) k.toNat m.toNat).length → ((List.range j).flatMap F).length ≤ 100000) :
    Calls Tryz.prog 64 #[.agg cs.toArray, .int .i64 k, .int .i64 m, .func (.func g) #[] cap] w fun e w' => (∃ A n c bs, e = .returned (.tuple #[.slice A n c, .bool (ordF p k m F).2]) ∧ Rep w' (ints (ordF p k m F).1) [.slice A n c] bs ∧ bs.Nodup ∧ ∀ b ∈ bs, w.heap.size ≤ b) ∧ Touch N w w' := by
  have HP := Lib.hid h
  obtain ⟨A1, c1, A2, c2, d1, d2, rfl, rfl, g1, g2⟩ := Rep.pgm_iff.1 h
  have Garrays := Lib.hid g1
  have Gparts := Lib.hid g2
  clear h g1 g2
  unfold Enters at hg
  by_cases hok : progOk p = true ∧ loopThere p k m
  case neg =>
    have HX := Lib.hid (show ordF p k m F = ([], false) from if_neg hok)
    go_enter Tryz.func64, Tryz.ntmps64
    cases hv : progOk p with
    | false =>
      go_wp2_with fail
      refine (trace_n (HP.out.below bel) hv).mono ?_
      rintro e w1 ⟨rfl, b1⟩
      have P1 : Box2 w1 w.heap.size (.slice A1 p.arrays.length c1) (.slice A2 p.parts.length c2) := by
        refine ⟨?_, ?_⟩ <;> (rw [b1.cell (by simp [World.setCell]; try omega)]; go_simp)
      have S1 : Below w.heap.size w w1 := bel
      clear b1
      go_wp2
      go_ret2
      rw [HX.out]
      exact ⟨⟨none, 0, 0, [], rfl, Rep.ints_nil (Nat.zero_le _), by simp, by simp⟩, Touch.of_below S1⟩
    | true =>
      have HL := Lib.hid (decide_eq_false fun hh => hok ⟨hv, hh⟩)
      go_wp2_with fail
      refine (trace_yN (HP.out.below bel) hv).mono ?_
      rintro e w2 ⟨g1, rfl, _, _, b2⟩
      have P2 : Box2 w2 w.heap.size (.slice A1 p.arrays.length c1) (.slice A2 p.parts.length c2) := by
        refine ⟨?_, ?_⟩ <;> (rw [b2.cell (by simp [World.setCell]; try omega)]; go_simp)
      have S2 : Below w.heap.size w w2 := bel
      clear b2
      go_wp2_with fail
      refine (isLoop_c (HP.out.below bel)).mono ?_
      rintro e w3 ⟨rfl, b3⟩
      have s3 : Below w2.heap.size w2 w3 := bel
      have P3 := P2.to s3; clear P2
      have S3 : Below w.heap.size w w3 := below_tr S2 s3
      clear s3
      clear b3
      rw [HL.out]
      go_wp2
      go_ret2
      rw [HX.out]
      exact ⟨⟨none, 0, 0, [], rfl, Rep.ints_nil (Nat.zero_le _), by simp, by simp⟩, Touch.of_below S3⟩
  case pos =>
  obtain ⟨hv, hl⟩ := hok
  have HX := Lib.hid (show ordF p k m F = (toI (befF (instsF p) k.toNat) ++ (List.range (grpsF (instsF p) k.toNat m.toNat).length).flatMap F ++ toI (aftF (instsF p) k.toNat), true) from if_pos ⟨hv, hl⟩)
  have HL := Lib.hid (decide_eq_true hl)
  have HT := Lib.hid (hT hv hl); clear hT
  have HF := Lib.hid (fun j => hF j hv hl); clear hF
  obtain ⟨⟨hl1, hl2⟩, hl3, hl4⟩ := hl
  obtain ⟨q, rfl⟩ := Int.eq_ofNat_of_zero_le hl1
  obtain ⟨r, rfl⟩ := Int.eq_ofNat_of_zero_le hl3
  have hq : q < p.parts.length := by omega
  have hr : r < p.parts[q].nest.length := by
    have e1 : (p.parts.getD (q : Int).toNat ⟨[], []⟩).nest.length = p.parts[q].nest.length := by simp [List.getD_eq_getElem?_getD, hq]
    rw [e1] at hl4; omega
  rw [Int.toNat_natCast, Int.toNat_natCast] at HT HX HF
  clear hl1 hl2 hl3 hl4
  have HIB := Lib.hid hIb; clear hIb
  have HN := Lib.hid hN; clear hN
  have HI0 := Lib.hid hI0; clear hI0
  have hun := progOk_insts hv
  have hgn := (grpsF_ok hv hq r).len.2
  go_enter Tryz.func64, Tryz.ntmps64
  go_wp2_with fail
  refine (trace_yN (HP.out.below bel) hv).mono ?_
  rintro e w4 ⟨g1, rfl, hTrc, hg1, b4⟩
  have P4 : Box2 w4 w.heap.size (.slice A1 p.arrays.length c1) (.slice A2 p.parts.length c2) := by
    refine ⟨?_, ?_⟩ <;> (rw [b4.cell (by simp [World.setCell]; try omega)]; go_simp)
  have S4 : Below w.heap.size w w4 := bel
  clear b4
  go_wp2_with fail
  refine (isLoop_c (HP.out.below bel)).mono ?_
  rintro e w5 ⟨rfl, b5⟩
  have s5 : Below w4.heap.size w4 w5 := bel
  have P5 := P4.to s5; clear P4
  have S5 : Below w.heap.size w w5 := below_tr S4 s5
  clear s5
  rw [HL.out]
  obtain ⟨w5, hw5⟩ : ∃ W : World, W = w5 := ⟨_, rfl⟩
  obtain ⟨D1, D2, D3, D4, D5, e1, e2, e3, e4, e5, ds, ds3, ds4, ds5, hX, hRP, hIs, hR4, hR5, hfr⟩ := hTrc
  have X5 := hX.to b5
  have HIS := Lib.hid (hIs.below b5)
  have hTr : Trc w5 p g1 := by rw [hw5]; exact Trc.below ⟨D1, D2, D3, D4, D5, e1, e2, e3, e4, e5, ds, ds3, ds4, ds5, hX, hRP, hIs, hR4, hR5⟩ b5
  subst hw5
  have HTR := Lib.hid hTr; clear hTr
  obtain ⟨us, hus⟩ : ∃ us, us = instsF p := ⟨_, rfl⟩
  have HUS := Lib.hid hus
  have HFR := Lib.hid (show ∀ y ∈ ds3, y < w5.heap.size ∧ y ∉ N from fun y hy => ⟨Rep.lt _ HIS.out y hy, fun hm => by have h1 := HN.out y hm; have h2 := hfr y hy; simp at h2; omega⟩)
  have hgl : g1 < w5.heap.size := lt_of_cell X5.1
  have hgn1 : g1 ∉ N := fun hm => by have h1 := HN.out _ hm; simp at hg1; omega
  have HGN := Lib.hid hgn1; clear hgn1
  have hz5 := S5.size
  clear hX hRP hIs hR4 hR5 hfr b5 P5
  rw [← hus] at hun hgn X5 HIS HX HT HF
  clear hus
  go_wp2
  go_loopw [12, 38] (fun u i wr => ∃ j : Nat, j ≤ us.length ∧ i = .int .i64 j ∧ Grow wr w5.heap.size 3 1 u ((toI (ixTo us (fun a => decide (a.part < (q : Int))) j)).map D.int) ∧ Below w5.heap.size w5 wr) (fun _ i _ => us.length - (intOf i).toNat)
  case atStart => exact ⟨0, Nat.zero_le _, rfl, Grow.nil _ _ _ _, Below.refl _ _⟩
  case round =>
    obtain ⟨j, hj, rfl, hG, hb⟩ := hrel
    have HG := Lib.hid hG; clear hG
    by_cases hlt : j < us.length
    case pos =>
      obtain ⟨Au, cu, hfu, _, _⟩ := HG.out.form
      subst hfu
      have HSN := Lib.hid (ixTo_in (f := fun a => decide (a.part < (q : Int))) hlt)
      have hxl := ixTo_len us (fun a => decide (a.part < (q : Int))) j
      obtain ⟨xs, hxs⟩ : ∃ xs, xs = toI (ixTo us (fun a => decide (a.part < (q : Int))) j) := ⟨_, rfl⟩
      have hxl2 : xs.length ≤ j := by rw [hxs, toI_len]; exact hxl
      have HXS := Lib.hid hxs
      rw [← hxs] at HG ⊢
      clear hxs
      obtain ⟨be, oe, cse, le, rfl, hble, hre, _, _, hce⟩ := (HIS.out.below hb).sls_at In.d_size (k := j) hlt
      have Ge := Lib.hid hre
      obtain ⟨A3e, c3e, d3e, rfl, rfl, g1e, g2e, g3e⟩ := Rep.in_iff.1 hre
      have k0e := (hce 0 _ rfl).1; rw [Nat.add_zero] at k0e
      have k1e := (hce 1 _ rfl).1
      have k2e := (hce 2 _ rfl).1
      have Q1e := Lib.hid g1e
      have Q2e := Lib.hid g2e
      have Q3e := Lib.hid g3e
      clear hce hre g1e g2e g3e
      have hbz := hb.size
      have hI := Lib.hid (show I64 (j : Int) by unfold I64; omega)
      by_cases hp : us[j].part < (q : Int)
      case neg =>
        have HS := Lib.hid (show xs = toI (ixTo us (fun a => decide (a.part < (q : Int))) (j + 1)) by rw [HSN.out, HXS.out, if_neg (by simpa using hp), List.append_nil])
        go_wp2
        go_roundw
        case rel => exact ⟨j + 1, by omega, by go_num, by rw [← HS.out]; exact HG.out.below bel, bel⟩
        case measure => simp [intOf]; omega
      have HS := Lib.hid (show xs ++ [(j : Int)] = toI (ixTo us (fun a => decide (a.part < (q : Int))) (j + 1)) by rw [HSN.out, if_pos (by simpa using hp), toI_snoc, HXS.out])
      go_wp2_with (
        at_builtin
        (
        refine wpList_append_more (w0 := wr) (B := w5.heap.size) (xs := xs.map D.int) (ys := [D.int (j:Int)]) rfl (.tmp 47) (.tmp 49) _ rfl _ Tryz.underlying39 Tryz.infoInt rfl (by decide) rfl HG.out ?hbw rfl (one_newN (N := (wr.heap.size+1)) (show Rep _ (D.int (j:Int)) [.int .i64 (j:Int)] [] from ⟨rfl, rfl, hI.out⟩) _ (by simp [World.setCell])) ?hys ?hn ?hf ?hlen ?hba ?_
        case hbw => exact bel
        case hys => intro y hy; simp only [List.mem_singleton] at hy; rw [hy]; rfl
        case hn => simp
        case hf => simp
        case hlen => simp; omega
        case hba => exact hbz
        intro v4 w4 hG4 hg4))
      have HG4 := Lib.hid (show Grow w4 w5.heap.size 3 1 v4 ((toI (ixTo us (fun a => decide (a.part < (q : Int))) (j + 1))).map D.int) by rw [← HS.out, List.map_append]; exact hG4)
      have S4 : Below w5.heap.size w5 w4 := by
        refine Below.trans ?_ (hg4.below ?_ (fun b hb => (HG.out.own_ge b hb).1))
        · exact bel
        · have := hb.size; simp; omega
      clear hG4 hg4
      go_wp2
      go_roundw
      case rel => exact ⟨j + 1, by omega, by go_num, HG4.out, S4⟩
      case measure => simp [intOf]; omega
    have hjj : j = us.length := by omega
    subst hjj
    have HA0 := Lib.hid (fun y hy => (HG.out.own_ge y hy).2)
    obtain ⟨B0, hB0⟩ : ∃ B0, B0 = toI (befF us q) := ⟨_, rfl⟩
    have hB0l : B0.length ≤ 120 := by rw [hB0, toI_len]; exact Nat.le_trans (ixTo_len us (fun a => decide (a.part < (q : Int))) us.length) hun
    have HB0 := Lib.hid (show Grow wr w5.heap.size 3 1 u12 (B0.map D.int) by rw [hB0]; exact HG.out)
    rw [← hB0] at HX
    clear hB0
    go_wp2_with fail
    refine (iterations_c (HTR.out.below hb) hv hq hr).mono ?_
    rintro e w6 ⟨A6, c6, bs6, rfl, r6, nd6, fr6, b6⟩
    rw [← HUS.out] at r6 ⊢
    have hgl2 := toI3_len (grpsF us q r)
    rw [← hgl2] at HX HF hgn
    obtain ⟨G, hG⟩ : ∃ G, G = toI3 (grpsF us q r) := ⟨_, rfl⟩
    rw [← hG] at HX HF HT r6 hgn ⊢
    clear hG hgl2
    have HFS := Lib.hid (show ∀ y ∈ bs6, wr.heap.size ≤ y from fr6)
    have R6 := Lib.hid r6
    have S6 := below_tr (below_tr S5 hb) b6
    have HI6 := Lib.hid (HIB.out 0 w w6 HI0.out (Nat.le_refl _) S6.size (fun y hy => S6.block y hy))
    have HL6 := Lib.hid (Low.of_below (N := N) ((below_tr hb b6)))
    have HB6 := Lib.hid (HB0.out.below b6)
    have HZ6 := Lib.hid (Nat.le_trans hb.size b6.size)
    have hzr := hb.size
    clear r6 nd6 fr6 b6 HG
    go_wp2
    go_loopw [12, 57] (fun u i wv => ∃ j : Nat, j ≤ G.length ∧ i = .int .i64 j ∧ Grow wv w5.heap.size 3 1 u ((B0 ++ (List.range j).flatMap F).map D.int) ∧ Rep wv (sls (sls ints) G) [.slice A6 G.length c6] bs6 ∧ (∀ y ∈ bs6, u.ownBlock ≠ some y) ∧ I j wv ∧ Low w5.heap.size N w5 wv) (fun _ i _ => G.length - (intOf i).toNat)
    case atStart => exact ⟨0, Nat.zero_le _, rfl, by simpa using HB6.out, R6.out, fun y hy e => by have h1 := HA0.out y e; have h2 := HFS.out y hy; omega, HI6.out, HL6.out⟩
    case round =>
      clear HI6 HL6 HB6 HB0
      obtain ⟨j, hj, rfl, hG, hr, hap, hi, hlo⟩ := hrel
      have HG := Lib.hid hG; clear hG
      have HRT := Lib.hid hr; clear hr
      have HAP := Lib.hid hap; clear hap
      have HIJ := Lib.hid hi; clear hi
      have HLO := Lib.hid hlo; clear hlo
      have hzv := HLO.out.size
      by_cases hlt : j < G.length
      case pos =>
        have hlF := HF.out (j + 1) (by omega)
        have HRS := Lib.hid (show B0 ++ (List.range (j + 1)).flatMap F = (B0 ++ (List.range j).flatMap F) ++ F j by rw [List.range_succ, List.flatMap_append, List.append_assoc]; simp)
        have hlF1 : ((List.range j).flatMap F).length + (F j).length ≤ 100000 := by
          have : (List.range (j + 1)).flatMap F = (List.range j).flatMap F ++ F j := by rw [List.range_succ, List.flatMap_append]; simp
          rw [this, List.length_append] at hlF; exact hlF
        obtain ⟨bt, ot, cst, lst, hAt, hblt, hrt, _, hlst, hct⟩ := HRT.out.sls_at (s := 1) (fun _ => rfl) (k := j) hlt
        subst hAt
        obtain ⟨At, ct, hcst, _, _⟩ := hrt.sls_form
        subst hcst
        have kt := (hct 0 _ rfl).1; rw [Nat.add_zero, Nat.mul_one] at kt
        have HRJ := Lib.hid hrt
        have HBJ := Lib.hid (show ∀ y ∈ lst, w.heap.size ≤ y from fun y hy => by have := HFS.out y (hlst y hy); omega)
        clear hct hrt hlst hlF
        obtain ⟨xs, hxs⟩ : ∃ xs, xs = B0 ++ (List.range j).flatMap F := ⟨_, rfl⟩
        have hxl : xs.length + (F j).length ≤ 200000 := by rw [hxs, List.length_append]; omega
        rw [← hxs] at HG HRS
        clear hxs
        go_wp2_with fail
        refine (HT.out j hlt _ At ct _ (by omega) HIJ.out HRJ.out HBJ.out).mono ?_
        rintro e w7 ⟨⟨A7, n7, c7, bs7, rfl, r7⟩, t7, i7⟩
        obtain ⟨rfl, _, _⟩ := r7.ints_len
        have HG7 := Lib.hid (HG.out.low t7 (fun y hy => by have := HN.out y hy; omega))
        have R7 := Lib.hid r7; clear r7
        have HT7 := Lib.hid t7; clear t7
        have HI7 := Lib.hid i7; clear i7
        have hz7 := HT7.out.size
        go_wp2_with (
          at_builtin
          (
          refine wpList_append_more (w0 := w7) (B := w5.heap.size) (xs := xs.map D.int) (ys := (F j).map D.int) rfl (.tmp 61) (.tmp 64) _ rfl _ Tryz.underlying39 Tryz.infoInt rfl (by decide) rfl HG7.out (Below.refl _ _) rfl R7.out ?hys ?hn ?hf ?hlen ?hba ?_
          case hys => intro y hy; obtain ⟨_, _, rfl⟩ := List.mem_map.1 hy; rfl
          case hn => rw [R7.out.ints_tail]; simp
          case hf => rw [R7.out.ints_tail]; simp
          case hlen => simp; omega
          case hba => omega
          intro v8 w8 hG8 hg8))
        have HG8 := Lib.hid (show Grow w8 w5.heap.size 3 1 v8 ((B0 ++ (List.range (j + 1)).flatMap F).map D.int) by rw [HRS.out, List.map_append]; exact hG8)
        have HNT := Lib.hid (show ∀ y ∈ bs6, y ∉ N from fun y hy hm => by have h1 := HN.out y hm; have h2 := HFS.out y hy; omega)
        have r7t := Rep.keep _ HRT.out (HT7.out.keeps fun y hy => ⟨Rep.lt _ HRT.out y hy, HNT.out y hy⟩)
        have r8 := Lib.hid (r7t.grew hg8 HAP.out)
        have a8 := Lib.hid (hg8.apart HAP.out (Rep.lt _ r7t))
        have i8 := Lib.hid (HIB.out (j + 1) w7 w8 HI7.out (by omega) hg8.touch.size (fun y hy => hg8.touch.block y (by omega) (fun hm => by have := (HG7.out.own_ge y (mem_ownL.1 hm)).1; omega)))
        have l8 := Lib.hid ((HLO.out.touch HT7.out (Nat.le_refl _)).grew hg8 (Nat.le_refl _) (fun y hy => (HG7.out.own_ge y hy).1))
        clear hG8 hg8 r7t
        go_wp2
        go_roundw
        case rel => exact ⟨j + 1, by omega, by go_num, HG8.out, r8.out, a8.out, i8.out, l8.out⟩
        case measure => simp [intOf]; omega
      have hjj : j = G.length := by omega
      subst hjj
      have hB1l := HF.out G.length (Nat.le_refl _)
      obtain ⟨B1, hB1⟩ : ∃ B1, B1 = B0 ++ (List.range G.length).flatMap F := ⟨_, rfl⟩
      have hB1n : B1.length ≤ 200000 := by rw [hB1, List.length_append]; omega
      rw [← hB1] at HG HX
      clear hB1 hB1l
      have XV := HLO.out.box5 X5 hgl HGN.out
      have HIV := Lib.hid (HLO.out.rep HIS.out HFR.out)
      obtain ⟨wo, rfl⟩ : ∃ wo : World, wo = wr := ⟨_, rfl⟩
      have HG0 := Lib.hid HG.out; clear HG
      go_wp2
      go_loopw [12, 72] (fun u i wz => ∃ j : Nat, j ≤ us.length ∧ i = .int .i64 j ∧ Grow wz w5.heap.size 3 1 u ((B1 ++ toI (ixTo us (fun a => decide ((q : Int) < a.part)) j)).map D.int) ∧ Below w5.heap.size wo wz) (fun _ i _ => us.length - (intOf i).toNat)
      case atStart => exact ⟨0, Nat.zero_le _, rfl, by rw [show toI (ixTo us (fun a => decide ((q : Int) < a.part)) 0) = [] from rfl, List.append_nil]; exact HG0.out, Below.refl _ _⟩
      case round =>
        clear HG0
        obtain ⟨j, hj, rfl, hG, hb3⟩ := hrel
        have HG := Lib.hid hG; clear hG
        have HI3 := Lib.hid ((Low.of_below (N := N) hb3).rep HIV.out HFR.out)
        have X3 := (Low.of_below (N := N) hb3).box5 XV hgl HGN.out
        have hz3 := hb3.size
        by_cases hlt : j < us.length
        case pos =>
          obtain ⟨Au, cu, hfu, _, _⟩ := HG.out.form
          subst hfu
          have HSN := Lib.hid (ixTo_in (f := fun a => decide ((q : Int) < a.part)) hlt)
          have hxl := ixTo_len us (fun a => decide ((q : Int) < a.part)) j
          obtain ⟨xs, hxs⟩ : ∃ xs, xs = B1 ++ toI (ixTo us (fun a => decide ((q : Int) < a.part)) j) := ⟨_, rfl⟩
          have hxl2 : xs.length ≤ 300000 := by rw [hxs, List.length_append, toI_len]; omega
          have HXS := Lib.hid hxs
          rw [← hxs] at HG ⊢
          clear hxs
          have hrf := Below.refl wr.heap.size wr
          obtain ⟨be, oe, cse, le, rfl, hble, hre, _, _, hce⟩ := (HI3.out.below hrf).sls_at In.d_size (k := j) hlt
          have Ge := Lib.hid hre
          obtain ⟨A3e, c3e, d3e, rfl, rfl, g1e, g2e, g3e⟩ := Rep.in_iff.1 hre
          have k0e := (hce 0 _ rfl).1; rw [Nat.add_zero] at k0e
          have k1e := (hce 1 _ rfl).1
          have k2e := (hce 2 _ rfl).1
          have Q1e := Lib.hid g1e
          have Q2e := Lib.hid g2e
          have Q3e := Lib.hid g3e
          clear hce hre g1e g2e g3e
          have hbz : w5.heap.size ≤ wr.heap.size := by omega
          have hI := Lib.hid (show I64 (j : Int) by unfold I64; omega)
          by_cases hp : (q : Int) < us[j].part
          case neg =>
            have HS := Lib.hid (show xs = B1 ++ toI (ixTo us (fun a => decide ((q : Int) < a.part)) (j + 1)) by rw [HSN.out, HXS.out, if_neg (by simpa using hp), List.append_nil])
            clear hrf
            go_wp2
            go_roundw
            case rel => exact ⟨j + 1, by omega, by go_num, by rw [← HS.out]; exact HG.out.below bel, hb3.trans ((show Below wr.heap.size wr _ from bel).mono (by omega))⟩
            case measure => simp [intOf]; omega
          have HS := Lib.hid (show xs ++ [(j : Int)] = B1 ++ toI (ixTo us (fun a => decide ((q : Int) < a.part)) (j + 1)) by rw [HSN.out, if_pos (by simpa using hp), toI_snoc, HXS.out, List.append_assoc])
          clear hrf
          go_wp2_with (
            at_builtin
            (
            refine wpList_append_more (w0 := wr) (B := w5.heap.size) (xs := xs.map D.int) (ys := [D.int (j:Int)]) rfl (.tmp 81) (.tmp 83) _ rfl _ Tryz.underlying39 Tryz.infoInt rfl (by decide) rfl HG.out ?hbw rfl (one_newN (N := (wr.heap.size+1)) (show Rep _ (D.int (j:Int)) [.int .i64 (j:Int)] [] from ⟨rfl, rfl, hI.out⟩) _ (by simp [World.setCell])) ?hys ?hn ?hf ?hlen ?hba ?_
            case hbw => exact bel
            case hys => intro y hy; simp only [List.mem_singleton] at hy; rw [hy]; rfl
            case hn => simp
            case hf => simp
            case hlen => simp; omega
            case hba => exact hbz
            intro v4 w4 hG4 hg4))
          have HG4 := Lib.hid (show Grow w4 w5.heap.size 3 1 v4 ((B1 ++ toI (ixTo us (fun a => decide ((q : Int) < a.part)) (j + 1))).map D.int) by rw [← HS.out, List.map_append]; exact hG4)
          have S4 : Below w5.heap.size wo w4 := by
            refine hb3.trans (Below.trans (Below.mono (show Below wr.heap.size wr _ from ?_) (by omega)) (hg4.below ?_ (fun b hb => (HG.out.own_ge b hb).1)))
            · exact bel
            · simp; omega
          clear hG4 hg4
          go_wp2
          go_roundw
          case rel => exact ⟨j + 1, by omega, by go_num, HG4.out, S4⟩
          case measure => simp [intOf]; omega
        have hjj : j = us.length := by omega
        subst hjj
        have HGE := Lib.hid (show Grow wr w5.heap.size 3 1 u12 ((B1 ++ toI (aftF us q)).map D.int) from HG.out)
        have HEND := Lib.hid ((HLO.out.below hb3).out S5 (by omega))
        clear HG
        go_wp2
        go_ret2
        rw [HX.out]
        obtain ⟨A9, c9, bs9, he, h1, h2, h3, _⟩ := HGE.out.ints
        rw [he]
        exact ⟨⟨A9, _, c9, bs9, rfl, h1, h2, fun y hy => by have := h3 y hy; omega⟩, HEND.out⟩
end Go.Proofs.YtgogjbnneoadkaaGreat
