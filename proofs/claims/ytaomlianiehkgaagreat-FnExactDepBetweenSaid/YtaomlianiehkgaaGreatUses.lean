/- The cells that a valid program's instances touch: l6Uses of the reference. -/
import Derived.Test.YtaomlianiehkgaaGreatActs
import Derived.Test.YtaomlianiehkgaaGreatInstsS
import Derived.Test.YtaomlianiehkgaaGreatCellsS
set_option linter.all false
set_option linter.unusedSimpArgs false
set_option linter.unusedVariables false
namespace Go.Proofs.YtaomlianiehkgaaGreat
open Go.ChangeShapes Go.WideShapes Go.ChangeAt Go.RowKit Go.Deep

/-- the call answers the uses -/
def MadeUses (w : World) (l : List Us) (e : Ending) (w' : World) : Prop :=
  ∃ A c bs, e = .returned (.slice A l.length c) ∧ Rep w' (sls Us.d l) [.slice A l.length c] bs ∧ Below w.heap.size w w'
theorem usesF_at {p : Pgm} {j : Nat} (h : j < (instsF p).length) : j < (usesF p).length := by rw [usesF_len]; exact h
theorem usesF_get' {p : Pgm} {j : Nat} (h : j < (instsF p).length) : (usesF p)[j]'(usesF_at h) = useF p (instsF p)[j] := by simp [usesF]
theorem map_take' {α β : Type} {f : α → β} {l : List α} {j : Nat} (h : j < l.length) : (l.take (j + 1)).map f = (l.take j).map f ++ [f l[j]] := by
  rw [List.take_succ_eq_append_getElem h, List.map_append]; rfl
theorem Tryz.infoUse : (Tryz.prog.info? 95).map (fun i => (i.zero, i.size, decide (i.bytes ≤ 1024))) = some (some (.agg #[.slice none 0 0, .int .i64 0]), 2, true) := by kernel_rfl
set_option maxRecDepth 100000 in
set_option maxHeartbeats 8000000 in
theorem l6Uses_c {w : World} {p : Pgm} {cs : List Value} {bs : List Nat} (h : Rep w p.d cs bs) (hv : progOk p = true) :
    Calls Tryz.prog 64 #[.agg cs.toArray] w (MadeUses w (usesF p)) := by
  have HLT := Lib.hid (Rep.lt _ h)
  have HP := Lib.hid h
  obtain ⟨A1, c1, A2, c2, d1, d2, rfl, rfl, g1, g2⟩ := Rep.pgm_iff.1 h
  have Garrays := Lib.hid g1
  have Gparts := Lib.hid g2
  clear h g1 g2
  have hln := (progOk_all hv).2.2
  have HV := Lib.hid hv; clear hv
  have ul := Lib.hid (usesF_len p)
  go_enter Tryz.func64, Tryz.ntmps64
  have hge : (Value.slice (some ⟨w.heap.size + 1, 0, none⟩) 0 0).ownBlock = some (w.heap.size + 1) := rfl
  go_wp2_with fail
  refine (l4Instances_c (HP.out.below (by go_bel)) HV.out).mono ?_
  rintro e w1 ⟨A3, n3, c3, bs3, rfl, r1, _, hb13, b1⟩
  have P1 : Box2 w1 w.heap.size (.slice A1 p.arrays.length c1) (.slice A2 p.parts.length c2) := by
    refine ⟨?_, ?_⟩ <;> (rw [b1.cell (by simp [World.setCell]; try omega)]; go_simp)
  have S1 : Below w.heap.size w w1 := (by go_bel)
  obtain ⟨rfl, _, _⟩ := r1.sls_len
  have HB3 := Lib.hid (show ∀ y ∈ bs3, w.heap.size + 2 ≤ y ∧ y < w1.heap.size from fun y hy => ⟨by have := hb13 y hy; simp at this; omega, Rep.lt _ r1 y hy⟩)
  have R1 := Lib.hid r1; clear r1 hb13
  obtain ⟨U0, hU0⟩ : ∃ U0, U0 = Value.slice (some ⟨w.heap.size + 1, 0, none⟩) 0 0 := ⟨_, rfl⟩
  have HU1 := Lib.hid (show Grow w1 (w.heap.size + 1) 95 2 U0 [] by rw [hU0]; exact Grow.below (Grow.madeE _ _ (by simp) (by simp)) b1)
  have HU := Lib.hid (show ∀ y, U0.ownBlock = some y → y = w.heap.size + 1 from fun y hy => by rw [hU0] at hy; simp [Value.ownBlock] at hy; omega)
  have HAP := Lib.hid (show ∀ y ∈ bs3, U0.ownBlock ≠ some y from fun y hy e => by have := HU.out y e; have := (HB3.out y hy).1; omega)
  have HU0 := Lib.hid hU0; clear hU0 b1 hge
  have lp1 := lt_of_cell P1.1
  go_wp2
  go_loopw [3, 5] (fun u i wr => ∃ j : Nat, j ≤ (instsF p).length ∧ i = .int .i64 j ∧ Grow wr (w.heap.size + 1) 95 2 u (((usesF p).take j).map Us.d) ∧ Grew w1 wr U0 u) (fun _ i _ => (instsF p).length - (intOf i).toNat)
  case atStart => exact ⟨0, Nat.zero_le _, rfl, by rw [← HU0.out]; simpa using HU1.out, by rw [← HU0.out]; exact Grew.refl _ _⟩
  case round =>
    obtain ⟨j, hj, rfl, hG, hgr⟩ := hrel
    have Sr : Below w.heap.size w wr := S1.trans (hgr.below S1.size fun b hb => by have := HU.out b hb; omega)
    have Pr := hgr.touch.box2 P1 (fun hm => by have := HU.out _ (mem_ownL.1 hm); omega)
    have lp := lt_of_cell Pr.1
    have HG := Lib.hid hG; clear hG
    have Hgr := Lib.hid hgr; clear hgr
    obtain ⟨Au, cu, hfu, _, _⟩ := HG.out.form
    rw [List.length_map, List.length_take, show min j (usesF p).length = j by have := ul.out; omega] at hfu
    by_cases hlt : j < (instsF p).length
    · have HT := Lib.hid (map_take' (f := Us.d) (usesF_at hlt))
      have HUJ := Lib.hid (usesF_get' hlt)
      have hin := InOk.of_mem (List.getElem_mem hlt)
      have hfi := hin.fine HV.out
      have hok := progOk_arr HV.out
      obtain ⟨k, s, hpk, hss, hk, hs, e1, e2⟩ := hin.get
      have HCF := Lib.hid (show CellsF p.arrays (instsF p)[j].point p.parts[k].body[s] = (((usesF p)[j]'(usesF_at hlt)).reads, ((usesF p)[j]'(usesF_at hlt)).write, true) by
        rw [HUJ.out, ← e2, CellsF_fine hfi.fine]; rfl)
      have hw : I64 ((usesF p)[j]'(usesF_at hlt)).write := by
        rw [HUJ.out]
        have hcb := cellsF_bd hok
        have := cellF_bd (a := (stmF p (instsF p)[j]).write) (pt := (instsF p)[j].point) hok
        show I64 (cellF p.arrays (stmF p (instsF p)[j]).write (instsF p)[j].point)
        unfold I64; omega
      have HSV := Lib.hid (show StmtValidF p.parts[k].body[s] ((prtF p (instsF p)[j].part).nest.length : Int) = true by rw [← e2]; exact hfi.stm)
      have HPT := Lib.hid hfi.pt
      have HOK := Lib.hid hok
      clear hin hfi hok e1 e2
      have RR := Lib.hid (R1.out.grew Hgr.out HAP.out)
      have GPr := Lib.hid (Gparts.out.below Sr)
      have GAr := Lib.hid (Garrays.out.below Sr)
      obtain ⟨be, oe, cse, le, rfl, hble, hre, _, _, hce⟩ := RR.out.sls_at In.d_size (k := j) hlt
      have Ge := Lib.hid hre
      obtain ⟨A3e, c3e, d3e, rfl, rfl, g1e, g2e, g3e⟩ := Rep.in_iff.1 hre
      have k0e := (hce 0 _ rfl).1; rw [Nat.add_zero] at k0e
      have k1e := (hce 1 _ rfl).1
      have k2e := (hce 2 _ rfl).1
      have Q1e := Lib.hid g1e
      have Q2e := Lib.hid g2e
      have Q3e := Lib.hid g3e
      clear hce hre g1e g2e g3e
      rw [hpk] at k0e
      rw [hss] at k1e
      obtain ⟨bf, of, csf, lf, rfl, hblf, hrf, _, _, hcf⟩ := GPr.out.sls_at Prt.d_size (k := k) hk
      have Gf := Lib.hid hrf
      obtain ⟨A1f, c1f, A2f, c2f, d1f, d2f, rfl, rfl, g1f, g2f⟩ := Rep.prt_iff.1 hrf
      have k0f := (hcf 0 _ rfl).1; rw [Nat.add_zero] at k0f
      have k1f := (hcf 1 _ rfl).1
      have Q1f := Lib.hid g1f
      have Q2f := Lib.hid g2f
      clear hcf hrf g1f g2f
      obtain ⟨bg, og, csg, lg, rfl, hblg, hrg, _, _, hcg⟩ := Q2f.out.sls_at Stm.d_size (k := s) hs
      have Gg := Lib.hid hrg
      obtain ⟨A2g, c2g, A5g, c5g, A8g, c8g, A9g, c9g, d2g, d5g, d8g, d9g, rfl, rfl, g1g, g2g, g3g, g4g, g5g, g6g, g7g, g8g, g9g⟩ := Rep.stm_iff.1 hrg
      have k0g := (hcg 0 _ rfl).1; rw [Nat.add_zero] at k0g
      have k1g := (hcg 1 _ rfl).1
      have k2g := (hcg 2 _ rfl).1
      have k3g := (hcg 3 _ rfl).1
      have k4g := (hcg 4 _ rfl).1
      have k5g := (hcg 5 _ rfl).1
      have k6g := (hcg 6 _ rfl).1
      have k7g := (hcg 7 _ rfl).1
      have k8g := (hcg 8 _ rfl).1
      have Q1g := Lib.hid g1g
      have Q2g := Lib.hid g2g
      have Q3g := Lib.hid g3g
      have Q4g := Lib.hid g4g
      have Q5g := Lib.hid g5g
      have Q6g := Lib.hid g6g
      have Q7g := Lib.hid g7g
      have Q8g := Lib.hid g8g
      have Q9g := Lib.hid g9g
      clear hcg hrg g1g g2g g3g g4g g5g g6g g7g g8g g9g
      obtain ⟨u, hu⟩ : ∃ u, u = (usesF p)[j]'(usesF_at hlt) := ⟨_, rfl⟩
      rw [← hu] at HT HCF hw
      clear hu hpk hss
      subst hfu
      go_wp2_with fail
      refine wp_region_noPanic ?_
      refine wp_region_held_drew (S := fun w' => w'.cell? ⟨w.heap.size, 0, none⟩ = some (.slice A1 p.arrays.length c1) ∧ w'.cell? ⟨w.heap.size, 1, none⟩ = some (.slice (some ⟨bf, of, none⟩) p.parts.length c2) ∧ w'.cell? ⟨be, oe + j * 3, none⟩ = some (.int .i64 (k : Int)) ∧ w'.cell? ⟨be, oe + j * 3 + 1, none⟩ = some (.int .i64 (s : Int)) ∧ w'.cell? ⟨be, oe + j * 3 + 2, none⟩ = some (.slice A3e (instsF p)[j].point.length c3e) ∧ w'.cell? ⟨bf, of + k * 2 + 1, none⟩ = some (.slice (some ⟨bg, og, none⟩) p.parts[k].body.length c2f) ∧ w'.cell? ⟨bg, og + s * 9, none⟩ = some (.string p.parts[k].body[s].write.arr) ∧ w'.cell? ⟨bg, og + s * 9 + 1, none⟩ = some (.slice A2g p.parts[k].body[s].write.subs.length c2g) ∧ w'.cell? ⟨bg, og + s * 9 + 2, none⟩ = some (.int .i64 p.parts[k].body[s].value.kind) ∧ w'.cell? ⟨bg, og + s * 9 + 3, none⟩ = some (.int .i64 p.parts[k].body[s].value.num) ∧ w'.cell? ⟨bg, og + s * 9 + 4, none⟩ = some (.slice A5g p.parts[k].body[s].value.index.coefs.length c5g) ∧ w'.cell? ⟨bg, og + s * 9 + 5, none⟩ = some (.int .i64 p.parts[k].body[s].value.index.const) ∧ w'.cell? ⟨bg, og + s * 9 + 6, none⟩ = some (.string p.parts[k].body[s].value.read.arr) ∧ w'.cell? ⟨bg, og + s * 9 + 7, none⟩ = some (.slice A8g p.parts[k].body[s].value.read.subs.length c8g) ∧ w'.cell? ⟨bg, og + s * 9 + 8, none⟩ = some (.slice A9g p.parts[k].body[s].value.kids.length c9g)) (by kernel_rfl) (⟨Pr.1, Pr.2, k0e, k1e, k2e, k1f, k0g, k1g, k2g, k3g, k4g, k5g, k6g, k7g, k8g⟩) (fun hHeld => ?_)
      go_takeR 0
      go_takeR 1
      go_takeR 2
      go_takeR 3
      go_takeR 4
      go_takeR 5
      go_takeR 6
      go_takeR 7
      go_takeR 8
      go_takeR 9
      go_takeR 10
      go_takeR 11
      go_takeR 12
      go_takeR 13
      go_takeR 14
      go_takeR 15
      go_takeR 16
      go_takeR 17
      go_takeR 18
      go_takeR 19
      go_takeR 20
      go_takeR 21
      go_takeR 22
      go_takeR 23
      refine stepR (i := 24) rfl (by kernel_rfl) (wanted_none rfl) (fun K hK => ?_)
      go_simp
      (refine (l4Cells_c (GAr.out.drewN 1) (Gg.out.drewN 1) (Q3e.out.drewN 1) HOK.out HSV.out HPT.out).mono ?_; rintro e w2 ⟨A6, n6, c6, bs6, rfl, r6, nd6, hb6, b2⟩; rw [HCF.out] at r6 ⊢)
      go_wp2_with fail
      refine hK.out _ _ (by obtain ⟨q0_, q1_, q2_, q3_, q4_, q5_, q6_, q7_, q8_, q9_, q10_, q11_, q12_, q13_, q14_⟩ := hHeld; exact ⟨cell_toC q0_ b2, cell_toC q1_ b2, cell_toC q2_ b2, cell_toC q3_ b2, cell_toC q4_ b2, cell_toC q5_ b2, cell_toC q6_ b2, cell_toC q7_ b2, cell_toC q8_ b2, cell_toC q9_ b2, cell_toC q10_ b2, cell_toC q11_ b2, cell_toC q12_ b2, cell_toC q13_ b2, cell_toC q14_ b2⟩) (fun hHeld => ?_)
      clear hK K
      try simp only [Act.put, List.setIfInBounds_toArray, List.set_cons_zero, List.set_cons_succ]
      go_takeR 25
      go_takeR 26
      go_takeR 27
      go_takeR 28
      go_takeR 29
      go_takeR 30
      go_takeR 31
      refine wpAnyH_done (by kernel_rfl) ?_ _
      refine NoPanic.normal ?_
      have T2 : Below wr.heap.size wr w2 := of_drew b2
      obtain ⟨rfl, _, _⟩ := r6.ints_len
      have O6 := Lib.hid (one_newN (N := w2.heap.size) (Rep.us_iff.2 ⟨A6, c6, bs6, rfl, rfl, r6, hw⟩) 95 rfl)
      have HB6 := Lib.hid (show ∀ y ∈ bs6, wr.heap.size ≤ y from fun y hy => hb6 y hy)
      have hz2 := T2.size
      have hzr := Sr.size
      clear r6 hb6 b2
      go_wp2_with (
        at_builtin
        refine wpList_append_more (w0 := wr) (B := w.heap.size + 1) (xs := ((usesF p).take j).map Us.d) (ys := [u.d]) rfl (.tmp 47) (.tmp 51) _ rfl _ Tryz.underlying91 Tryz.infoUse rfl (by decide) rfl HG.out ?hbw rfl O6.out ?hys nd6 HB6.out ?hlen ?hba ?_
        case hbw => exact (by go_bel)
        case hys => intro y hy; simp only [List.mem_singleton] at hy; rw [hy]; rfl
        case hlen => simp; omega
        case hba => omega
        intro v4 w4 hG4 hg4)
      rw [← HT.out] at hG4
      have HG4 := Lib.hid hG4
      have g4 := Lib.hid (Hgr.out.trans ((Grew.of_below (show Below wr.heap.size wr (w2.alloc (.cells #[.slice A6 u.reads.length c6, .int .i64 u.write] 95)) from T2.alloc T2.size _) _).trans hg4))
      clear hG4 hg4
      go_wp2
      go_roundw
      case rel => exact ⟨j + 1, by omega, by go_num, HG4.out, g4.out⟩
      case measure => simp [intOf]; omega
    · have hjj : j = (instsF p).length := by omega
      subst hjj
      obtain ⟨A4, c4, bs4, he, q4, _⟩ := HG.out.rep
      rw [show (instsF p).length = (usesF p).length from ul.out.symm, List.take_length, List.length_map] at he q4
      subst he
      go_wp2
      go_ret
      exact ⟨A4, c4, bs4, rfl, q4, Sr⟩
end Go.Proofs.YtaomlianiehkgaaGreat
