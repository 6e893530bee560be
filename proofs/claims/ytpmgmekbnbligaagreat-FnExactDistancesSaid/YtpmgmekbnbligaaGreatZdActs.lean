/- Texts of this seat, joined: InOk, Touch, GrowN, RegionT, TyDep, DepF, LevF. -/
import Derived.Test.YtpmgmekbnbligaaGreatZdPointIn
import Derived.Test.YtpmgmekbnbligaaGreatZdStmtOk
import Derived.Test.YtpmgmekbnbligaaGreatZdInsts
import Derived.Test.YtpmgmekbnbligaaGreatZdTotal
import Derived.StillTailTactics
import Derived.Test.YtpmgmekbnbligaaGreatZdBasic
import Derived.Test.YtpmgmekbnbligaaGreatZdCore
/- Instances of a valid program in plain Lean: whose statement is there, whose accesses denote elements. -/
set_option linter.all false
set_option linter.unusedSimpArgs false
set_option linter.unusedVariables false
namespace Go.Proofs.YtpmgmekbnbligaaGreat
open Go.ChangeShapes Go.WideShapes Go.ChangeAt Go.RowKit Go.Deep

def prtF (p : Pgm) (k : Int) : Prt := p.parts.getD k.toNat ⟨[], []⟩
def noStm : Stm := ⟨⟨⟨#[]⟩, []⟩, ⟨0, 0, ⟨[], 0⟩, ⟨⟨#[]⟩, []⟩, []⟩⟩
def stmF (p : Pgm) (x : In) : Stm := (prtF p x.part).body.getD x.stmt.toNat noStm
theorem prtF_eq {p : Pgm} {k : Nat} (h : k < p.parts.length) : prtF p (k : Int) = p.parts[k] := by simp [prtF, List.getD_eq_getElem?_getD, h]
theorem stmF_eq {p : Pgm} {x : In} {s : Nat} (hs : x.stmt = (s : Int)) (h : s < (prtF p x.part).body.length) : stmF p x = (prtF p x.part).body[s] := by simp [stmF, hs, List.getD_eq_getElem?_getD, h]
/-- an instance whose part and statement are there and whose point is one of its nest -/
structure InOk (p : Pgm) (x : In) : Prop where
  p0 : 0 ≤ x.part
  p1 : x.part.toNat < p.parts.length
  s0 : 0 ≤ x.stmt
  s1 : x.stmt.toNat < (prtF p x.part).body.length
  q : x.point ∈ ptsOf (prtF p x.part)

theorem catN_of {α : Type} {f : Nat → List α} {x : α} {k : Nat} : ∀ {m : Nat}, k < m → x ∈ f k → x ∈ catN f m
  | 0, h, _ => by omega
  | m + 1, h, hx => by
    rw [catN]
    rcases Nat.lt_or_ge k m with hk | hk
    · exact List.mem_append_left _ (catN_of hk hx)
    · have : k = m := by omega
      subst this
      exact List.mem_append_right _ hx
/-- a point in the loops' ranges is one of the nest's points -/
theorem pts_in {xs : List Lp} {q : List Int} (hl : q.length = xs.length) : ∀ (n j : Nat), j + n = xs.length → inFrom xs q n j = true → q ∈ ptsF (xs.drop j) (q.take j)
  | 0, j, hj, _ => by
    have h1 : xs.drop j = [] := List.drop_eq_nil_of_le (by omega)
    rw [h1, ptsF, List.take_of_length_le (by omega)]; simp
  | n + 1, j, hj, h => by
    have hlt : j < xs.length := by omega
    simp only [inFrom, Bool.and_eq_true, inAt, decide_eq_true_iff] at h
    obtain ⟨⟨h1, h2⟩, h3⟩ := h
    have ih := pts_in hl n (j + 1) (by omega) h3
    rw [← List.getElem_cons_drop hlt, ptsF, nthL_eq hlt]
    refine catN_of (k := (gi q j - loF (nthL xs j) (q.take j)).toNat) (by unfold widN; omega) ?_
    have e : loF (nthL xs j) (q.take j) + (((gi q j - loF (nthL xs j) (q.take j)).toNat : Nat) : Int) = gi q j := by omega
    rw [e, gi_eq (by omega), ← List.take_succ_eq_append_getElem (by omega)]
    exact ih
theorem instsFrom_mem : (xs : List Prt) → (k : Int) → (x : In) → x ∈ instsFrom xs k → ∃ j, ∃ h : j < xs.length, x ∈ instsP (k + (j : Int)) xs[j]
  | [], _, _, h => by simp [instsFrom] at h
  | y :: xs, k, x, h => by
    rw [instsFrom] at h
    rcases List.mem_append.1 h with h | h
    · exact ⟨0, by simp, by simpa using h⟩
    · obtain ⟨j, hj, hx⟩ := instsFrom_mem xs (k + 1) x h
      refine ⟨j + 1, by simpa using hj, ?_⟩
      rw [show k + ((j + 1 : Nat) : Int) = k + 1 + (j : Int) by omega]
      simpa using hx
theorem InOk.of_mem {p : Pgm} {x : In} (h : x ∈ instsF p) : InOk p x := by
  obtain ⟨j, hj, hx⟩ := instsFrom_mem _ _ _ h
  rw [Int.zero_add, instsP, List.mem_flatMap] at hx
  obtain ⟨q, hq, hx⟩ := hx
  rw [instsQ, List.mem_map] at hx
  obtain ⟨s, hs, rfl⟩ := hx
  rw [List.mem_range] at hs
  refine ⟨by simp, by simpa using hj, by simp, ?_, ?_⟩
  · rw [prtF_eq hj]; simpa using hs
  · rw [prtF_eq hj]; exact hq
theorem progOk_part {p : Pgm} (h : progOk p = true) : ∀ x ∈ p.parts, partOk p.arrays x = true := by
  simp only [progOk, progBase, Bool.and_eq_true, decide_eq_true_iff, List.all_eq_true] at h
  exact h.2.1
/-- what the walks of an instance's cells need -/
structure Fine (p : Pgm) (x : In) : Prop where
  fine : fineS p.arrays x.point (stmF p x) = true
  stm : StmtValidF (stmF p x) ((prtF p x.part).nest.length : Int) = true
  pt : PtS x.point
  len : x.point.length ≤ 4
theorem InOk.get {p : Pgm} {x : In} (h : InOk p x) : ∃ k s : Nat, x.part = (k : Int) ∧ x.stmt = (s : Int) ∧ ∃ hk : k < p.parts.length, ∃ hs : s < p.parts[k].body.length, prtF p x.part = p.parts[k] ∧ stmF p x = p.parts[k].body[s] := by
  obtain ⟨h1, h2, h3, h4, _⟩ := h
  refine ⟨x.part.toNat, x.stmt.toNat, by omega, by omega, h2, ?_⟩
  have e : prtF p x.part = p.parts[x.part.toNat] := by
    have := prtF_eq h2
    rwa [show ((x.part.toNat : Nat) : Int) = x.part by omega] at this
  have hs : x.stmt.toNat < p.parts[x.part.toNat].body.length := by rw [← e]; exact h4
  refine ⟨hs, e, ?_⟩
  rw [stmF_eq (s := x.stmt.toNat) (by omega) h4]
  simp only [e]
theorem InOk.fine {p : Pgm} {x : In} (h : InOk p x) (hv : progOk p = true) : Fine p x := by
  have hq := h.q
  obtain ⟨k, s, _, _, hk, hs, e1, e2⟩ := h.get
  have hp := progOk_part hv _ (List.getElem_mem hk)
  rw [← e1] at hp
  have hm : stmF p x ∈ (prtF p x.part).body := by rw [e2, e1]; exact List.getElem_mem hs
  simp only [partOk, bodyOk, Bool.and_eq_true, List.all_eq_true, ptFine] at hp
  have hnf := npF_ok hp.1
  have hp4 := pts_ok hnf.1 _ hq
  exact ⟨(hp.2.2 _ hq).2 _ hm, hp.2.1.2 _ hm, PtS.of_B hp4.1 hp4.2.2, hp4.2.2⟩
theorem CellsF_fine {xs : List Ar} {q : List Int} {s : Stm} (h : fineS xs q s = true) : CellsF xs q s = (rdF xs q s, wrF xs q s, true) := by rw [CellsF, if_pos h]

/-- the cells that an instance reads, the one that it writes -/
structure Us where
  reads : List Int
  write : Int
def useF (p : Pgm) (x : In) : Us := ⟨rdF p.arrays x.point (stmF p x), wrF p.arrays x.point (stmF p x)⟩
def usesF (p : Pgm) : List Us := (instsF p).map (useF p)
theorem usesF_len (p : Pgm) : (usesF p).length = (instsF p).length := by simp [usesF]
def Us.d (x : Us) : D := .st [ints x.reads, .int x.write]
theorem Us.d_size (x : Us) : x.d.size = 2 := rfl
theorem Rep.us_iff {w : World} {x : Us} {cs : List Value} {bs : List Nat} : Rep w x.d cs bs ↔ ∃ (A1 : Option Addr) (c1 : Nat) (d1 : List Nat), cs = [.slice A1 x.reads.length c1, .int .i64 x.write] ∧ bs = d1 ∧ Rep w (ints x.reads) [.slice A1 x.reads.length c1] d1 ∧ I64 x.write := by
  constructor
  · rintro ⟨_, _, _, _, rfl, rfl, h1, _, _, _, _, rfl, rfl, ⟨rfl, rfl, h2⟩, rfl, rfl⟩
    obtain ⟨A, c, rfl⟩ := h1.ints_form1
    exact ⟨A, c, _, rfl, by simp, h1, h2⟩
  · rintro ⟨A, c, d, rfl, rfl, h1, h2⟩
    exact ⟨_, [.int .i64 x.write], _, [], rfl, by simp, h1, [.int .i64 x.write], [], [], [], rfl, rfl, ⟨rfl, rfl, h2⟩, rfl, rfl⟩
end Go.Proofs.YtpmgmekbnbligaaGreat

/- The statement of an instance, the cells that it touches: stmt, touched of the program. -/
namespace Go.Proofs.YtpmgmekbnbligaaGreat
open Go.ChangeShapes Go.WideShapes Go.ChangeAt Go.RowKit Go.Deep

theorem still_tail_drew {P : Program} {id : Nat} {Q : Exit → Act → World → Prop} {a : Act} {w : World} {l : List Oper} (n : Nat) (hm : P.follows .mixedOrders = true) (hB : Region.lexTailB .any l.toArray n = true)
    (h : wpStill P l.toArray w.drew (fun a' => wpList P l.toArray Q (l.drop n) a' w.drew) (l.take n) a) : (Code.region id l.toArray true).wp P Q a w := wp_region_still_tail n hm hB h
/-- the call answers new cells and a cell -/
def MadeUse (w : World) (u : Us) (e : Ending) (w' : World) : Prop :=
  ∃ A c bs, e = .returned (.tuple #[.slice A u.reads.length c, .int .i64 u.write]) ∧ Rep w' (ints u.reads) [.slice A u.reads.length c] bs ∧ bs.Nodup ∧ (∀ b ∈ bs, w.heap.size ≤ b) ∧ Below w.heap.size w w'
set_option maxRecDepth 100000 in
set_option maxHeartbeats 4000000 in
theorem stmt_c {w : World} {p : Pgm} {x : In} {cs cs' : List Value} {bs bs' : List Nat} (h : Rep w p.d cs bs) (h' : Rep w x.d cs' bs') (hx : InOk p x) :
    Calls Tryz.prog 94 #[.agg cs.toArray, .agg cs'.toArray] w fun e w' => ∃ cs2 bs2, e = .returned (.agg cs2.toArray) ∧ Rep w' (stmF p x).d cs2 bs2 ∧ Below w.heap.size w w' := by
  obtain ⟨k, s, hpk, hss, hk, hs, e1, e2⟩ := hx.get
  obtain ⟨A1, c1, A2, c2, d1, d2, rfl, rfl, g1, g2⟩ := Rep.pgm_iff.1 h
  have Garrays := Lib.hid g1
  have Gparts := Lib.hid g2
  clear h g1 g2
  obtain ⟨A3', c3', d3', rfl, rfl, g1', g2', g3'⟩ := Rep.in_iff.1 h'
  have Gpart' := Lib.hid g1'
  have Gstmt' := Lib.hid g2'
  have Gpoint' := Lib.hid g3'
  clear h' g1' g2' g3'
  rw [hpk, hss, e2]
  clear hx e1 e2 hpk hss
  obtain ⟨be, oe, cse, le, rfl, hble, hre, _, _, hce⟩ := Gparts.out.sls_at Prt.d_size (k := k) hk
  have Ge := Lib.hid hre
  obtain ⟨A1e, c1e, A2e, c2e, d1e, d2e, rfl, rfl, g1e, g2e⟩ := Rep.prt_iff.1 hre
  have k0e := (hce 0 _ rfl).1; rw [Nat.add_zero] at k0e
  have k1e := (hce 1 _ rfl).1
  have Q1e := Lib.hid g1e
  have Q2e := Lib.hid g2e
  clear hce hre g1e g2e
  obtain ⟨bf, of, csf, lf, rfl, hblf, hrf, _, _, hcf⟩ := Q2e.out.sls_at Stm.d_size (k := s) hs
  have Gf := Lib.hid hrf
  obtain ⟨A2f, c2f, A5f, c5f, A8f, c8f, A9f, c9f, d2f, d5f, d8f, d9f, rfl, rfl, g1f, g2f, g3f, g4f, g5f, g6f, g7f, g8f, g9f⟩ := Rep.stm_iff.1 hrf
  have k0f := (hcf 0 _ rfl).1; rw [Nat.add_zero] at k0f
  have k1f := (hcf 1 _ rfl).1
  have k2f := (hcf 2 _ rfl).1
  have k3f := (hcf 3 _ rfl).1
  have k4f := (hcf 4 _ rfl).1
  have k5f := (hcf 5 _ rfl).1
  have k6f := (hcf 6 _ rfl).1
  have k7f := (hcf 7 _ rfl).1
  have k8f := (hcf 8 _ rfl).1
  have Q1f := Lib.hid g1f
  have Q2f := Lib.hid g2f
  have Q3f := Lib.hid g3f
  have Q4f := Lib.hid g4f
  have Q5f := Lib.hid g5f
  have Q6f := Lib.hid g6f
  have Q7f := Lib.hid g7f
  have Q8f := Lib.hid g8f
  have Q9f := Lib.hid g9f
  clear hcf hrf g1f g2f g3f g4f g5f g6f g7f g8f g9f
  clear Garrays Gpart' Gstmt' Gpoint' Q1e
  have l0e : be < w.heap.size + 1 := by omega
  have l1e : be < w.heap.size + 1 + 1 := by omega
  have l0f : bf < w.heap.size + 1 := by omega
  have l1f : bf < w.heap.size + 1 + 1 := by omega
  go_enter Tryz.func94, Tryz.ntmps94
  go_wp2_with fail
  refine still_tail_drew 11 (by kernel_rfl) (by kernel_rfl) ?_
  simp only [List.take_succ_cons, List.take_zero, List.drop_succ_cons, List.drop_zero]
  repeat still_step
  try refine wpStill_nil ?_
  go_wp2
  trace_state
  exact bodyPost_ret (v := .agg #[.string p.parts[k].body[s].write.arr, .slice A2f p.parts[k].body[s].write.subs.length c2f, .int .i64 p.parts[k].body[s].value.kind, .int .i64 p.parts[k].body[s].value.num, .slice A5f p.parts[k].body[s].value.index.coefs.length c5f, .int .i64 p.parts[k].body[s].value.index.const, .string p.parts[k].body[s].value.read.arr, .slice A8f p.parts[k].body[s].value.read.subs.length c8f, .slice A9f p.parts[k].body[s].value.kids.length c9f]) (by simp [results, Tryz.results94, go_sem]) rfl ⟨_, _, rfl, Gf.out.below bel, bel⟩
set_option maxRecDepth 100000 in
set_option maxHeartbeats 8000000 in
theorem touched_c {w : World} {p : Pgm} {x : In} {cs cs' : List Value} {bs bs' : List Nat} (h : Rep w p.d cs bs) (h' : Rep w x.d cs' bs') (hx : InOk p x) (hv : progOk p = true) :
    Calls Tryz.prog 58 #[.agg cs.toArray, .agg cs'.toArray] w (MadeUse w (useF p x)) := by
  have hf := hx.fine hv
  have hok := progOk_arr hv
  have HST := Lib.hid (StB.of hf.stm hf.pt)
  have hcb := cellsF_bd hok
  have hcw := cellF_bd (a := (stmF p x).write) (pt := x.point) hok
  have HOK := Lib.hid hok; clear hok hf hv
  have HIN := Lib.hid hx; clear hx
  obtain ⟨y, hy⟩ : ∃ y, y = stmF p x := ⟨_, rfl⟩
  have HU := Lib.hid (show useF p x = ⟨(readsF y.value).map (fun a => cellF p.arrays a x.point), cellF p.arrays y.write x.point⟩ by rw [hy]; rfl)
  rw [← hy] at hcw HST
  rw [HU.out]
  have HP := Lib.hid h
  have HX := Lib.hid h'
  obtain ⟨A1, c1, A2, c2, d1, d2, rfl, rfl, g1, g2⟩ := Rep.pgm_iff.1 h
  have Garrays := Lib.hid g1
  have Gparts := Lib.hid g2
  clear h g1 g2
  obtain ⟨A3', c3', d3', rfl, rfl, g1', g2', g3'⟩ := Rep.in_iff.1 h'
  have Gpart' := Lib.hid g1'
  have Gstmt' := Lib.hid g2'
  have Gpoint' := Lib.hid g3'
  clear h' g1' g2' g3'
  go_enter Tryz.func58, Tryz.ntmps58
  go_wp2_with fail
  refine (stmt_c (HP.out.below bel) (HX.out.below bel) HIN.out).mono ?_
  rintro e w1 ⟨cs2, bs2, rfl, r1, b1⟩
  have P1 : Box2 w1 w.heap.size (.slice A1 p.arrays.length c1) (.slice A2 p.parts.length c2) := by
    refine ⟨?_, ?_⟩ <;> (rw [b1.cell (by simp [World.setCell]; try omega)]; go_simp)
  have X1 : Box3 w1 (w.heap.size+1) (.int .i64 x.part) (.int .i64 x.stmt) (.slice A3' x.point.length c3') := by
    refine ⟨?_, ?_, ?_⟩ <;> (rw [b1.cell (by simp [World.setCell]; try omega)]; go_simp)
  have S1 : Below w.heap.size w w1 := bel
  clear b1
  rw [← hy] at r1
  have HY := Lib.hid hy; clear hy
  obtain ⟨A22, c22, A52, c52, A82, c82, A92, c92, d22, d52, d82, d92, rfl, rfl, g12, g22, g32, g42, g52, g62, g72, g82, g92⟩ := Rep.stm_iff.1 r1
  have Gwrite2 := Lib.hid ((Rep.acc_iff (x := y.write)).2 ⟨_, _, _, rfl, rfl, g12, g22⟩)
  have Gvalue2 := Lib.hid ((Rep.ex_iff (x := y.value)).2 ⟨_, _, _, _, _, _, _, _, _, rfl, rfl, g32, g42, g52, g62, g72, g82, g92⟩)
  clear r1 g12 g22 g32 g42 g52 g62 g72 g82 g92
  go_wp2_with fail
  refine (reads_c y.value _ _ _ HST.out.n (Gvalue2.out.below bel)).mono ?_
  rintro e w2 ⟨A9, c9, bs9, rfl, r2, hs2, hy2, b2⟩
  have M2 : Box9 w2 w1.heap.size (.string y.write.arr) (.slice A22 y.write.subs.length c22) (.int .i64 y.value.kind) (.int .i64 y.value.num) (.slice A52 y.value.index.coefs.length c52) (.int .i64 y.value.index.const) (.string y.value.read.arr) (.slice A82 y.value.read.subs.length c82) (.slice A92 y.value.kids.length c92) := by
    refine ⟨?_, ?_, ?_, ?_, ?_, ?_, ?_, ?_, ?_⟩ <;> (rw [b2.cell (by simp [World.setCell]; try omega)]; go_simp)
  have s2 : Below w1.heap.size w1 w2 := bel
  have P2 := P1.to s2; clear P1
  have X2 := X1.to s2; clear X1
  have S2 : Below w.heap.size w w2 := below_tr S1 s2
  clear s2
  have U2 : Below w1.heap.size w1 w2 := by clear S2; exact bel
  have GW2 := Lib.hid (Gwrite2.out.below U2)
  clear b2 U2
  have R2 := Lib.hid r2; clear r2 hs2 hy2
  obtain ⟨RS, hRS⟩ : ∃ RS, RS = readsF y.value := ⟨_, rfl⟩
  have hrn : RS.length ≤ 1000000 := by rw [hRS]; exact HST.out.n
  rw [← hRS] at R2 ⊢
  have HRS := Lib.hid hRS; clear hRS
  have H2 := Lib.hid (HP.out.below S2)
  have HQ2 := Lib.hid (Gpoint'.out.below S2)
  have hz2 := S2.size
  go_wp2
  go_loopw [7, 17] (fun u i wr => ∃ j : Nat, j ≤ RS.length ∧ i = .int .i64 j ∧ Grow wr w2.heap.size 3 1 u (((RS.take j).map (fun a => cellF p.arrays a x.point)).map D.int) ∧ Below w2.heap.size w2 wr) (fun _ i _ => RS.length - (intOf i).toNat)
  case atStart => exact ⟨0, Nat.zero_le _, rfl, Grow.nil _ _ _ _, Below.refl _ _⟩
  case round =>
    obtain ⟨j, hj, rfl, hG, hb⟩ := hrel
    have Pr := P2.to hb
    have Xr := X2.to hb
    have Mr := M2.to hb
    have Sr := below_tr S2 hb
    have HG := Lib.hid hG; clear hG
    obtain ⟨Au, cu, hfu, _, _⟩ := HG.out.form
    simp only [List.length_map, List.length_take] at hfu
    rw [show min j RS.length = j by omega] at hfu
    have lp := lt_of_cell Pr.1
    have lx := lt_of_cell Xr.1
    have lm := lt_of_cell Mr.1
    clear P2 X2 M2
    by_cases hlt : j < RS.length
    · have HT := Lib.hid (show (RS.take (j + 1)).map (fun a => cellF p.arrays a x.point) = (RS.take j).map (fun a => cellF p.arrays a x.point) ++ [cellF p.arrays RS[j] x.point] by rw [List.take_succ_eq_append_getElem hlt, List.map_append]; rfl)
      have hmem : RS[j] ∈ readsF y.value := by rw [← HRS.out]; exact List.getElem_mem hlt
      have HM := Lib.hid (HST.out.r _ hmem); clear hmem
      have hcr := cellF_bd (a := RS[j]) (pt := x.point) HOK.out
      have hRR : Rep wr (sls Acc.d RS) [.slice A9 RS.length c9] bs9 := R2.out.below hb
      have RR := Lib.hid hRR; clear hRR
      obtain ⟨be, oe, cse, le, rfl, hble, hre, _, _, hce⟩ := RR.out.sls_at Acc.d_size (k := j) hlt
      have Ge := Lib.hid hre
      obtain ⟨A2e, c2e, d2e, rfl, rfl, g1e, g2e⟩ := Rep.acc_iff.1 hre
      have k0e := (hce 0 _ rfl).1; rw [Nat.add_zero] at k0e
      have k1e := (hce 1 _ rfl).1
      have Q1e := Lib.hid g1e
      have Q2e := Lib.hid g2e
      clear hce hre g1e g2e
      subst hfu
      go_wp2_with fail
      refine (cell_c (H2.out.below (below_tr hb bel)) (Ge.out.below bel) (HQ2.out.below (below_tr hb bel)) HOK.out HM.out.2).mono ?_
      rintro e w3 ⟨rfl, b3⟩
      obtain ⟨v, hv⟩ : ∃ v, v = cellF p.arrays RS[j] x.point := ⟨_, rfl⟩
      rw [← hv] at HT hcr ⊢
      have T3 : Below wr.heap.size wr w3 := bel
      have S3 : Below w2.heap.size w2 w3 := below_tr hb T3
      clear b3 hv
      have hG3 := Lib.hid (HG.out.below T3)
      have hI := Lib.hid (show I64 v by unfold I64; omega)
      have hbz : w2.heap.size ≤ w3.heap.size := S3.size
      go_wp2_with (
        at_builtin
        refine wpList_append_more (w0 := w3) (B := w2.heap.size) (xs := ((RS.take j).map (fun a => cellF p.arrays a x.point)).map D.int) (ys := [D.int v]) rfl (.tmp 21) (.tmp 27) _ rfl _ Tryz.underlying27 Tryz.infoInt rfl (by decide) rfl hG3.out ?hbw rfl (one_int _ hI.out _) ?hys ?hn ?hf ?hlen ?hba ?_
        case hbw => exact bel
        case hys => intro y hy; simp only [List.mem_singleton] at hy; rw [hy]; rfl
        case hn => simp
        case hf => simp
        case hlen => simp; omega
        case hba => exact hbz
        intro v4 w4 hG4 hg4)
      rw [show ((RS.take j).map (fun a => cellF p.arrays a x.point)).map D.int ++ [D.int v] = ((RS.take (j + 1)).map (fun a => cellF p.arrays a x.point)).map D.int by rw [HT.out, List.map_append]; rfl] at hG4
      have HG4 := Lib.hid hG4
      have S4 : Below w2.heap.size w2 w4 := (S3.alloc S3.size _).trans (hg4.below (Nat.le_trans hbz (by simp)) (fun b hb => (hG3.out.own_ge b hb).1))
      clear hG4 hg4
      go_wp2
      go_roundw
      case rel => exact ⟨j + 1, by omega, by go_num, HG4.out, S4⟩
      case measure => simp [intOf]; omega
    · have hjj : j = RS.length := by omega
      subst hjj
      rw [List.take_length] at HG
      subst hfu
      go_wp2_with fail
      refine (cell_c (H2.out.below (below_tr hb bel)) (GW2.out.below (below_tr hb bel)) (HQ2.out.below (below_tr hb bel)) HOK.out HST.out.w).mono ?_
      rintro e w3 ⟨rfl, b3⟩
      have T3 : Below wr.heap.size wr w3 := bel
      have S3 : Below w2.heap.size w2 w3 := below_tr hb T3
      have hG3 := Lib.hid (HG.out.below T3)
      go_wp2
      go_ret2
      obtain ⟨A, c, bs, he, h1, h2, h3, _⟩ := hG3.out.ints
      rw [he]
      have e : (List.map (fun a => cellF p.arrays a x.point) RS).length = (List.map (fun a => cellF p.arrays a x.point) (readsF y.value)).length := by rw [HRS.out]
      refine ⟨A, c, bs, congrArg (fun n => Ending.returned (.tuple #[.slice A n c, .int .i64 (cellF p.arrays y.write x.point)])) e, ?_, h2, fun b hb' => Nat.le_trans hz2 (h3 b hb'), below_tr S2 S3⟩
      show Rep w3 (ints (List.map (fun a => cellF p.arrays a x.point) (readsF y.value))) [.slice A (List.map (fun a => cellF p.arrays a x.point) (readsF y.value)).length c] bs
      rw [← HRS.out]; exact h1
end Go.Proofs.YtpmgmekbnbligaaGreat

/- A growing slice with its elements' own blocks said: two of them grow side by side. -/
namespace Go.Proofs.YtpmgmekbnbligaaGreat
open Go.ChangeShapes Go.WideShapes Go.ChangeAt Go.RowKit Go.Deep

/-- v is a slice of the call's own, made since the heap had B blocks; cb: the blocks of its elements -/
def GrowN (w : World) (B : Nat) (e : TypeId) (size : Nat) (v : Value) (xs : List D) (cb : List Nat) : Prop :=
  ∃ es, w.ownsRow B e size v xs.length es ∧ Reps w xs es cb ∧ cb.Nodup ∧ (∀ y ∈ cb, B ≤ y) ∧ ∀ g, v.ownBlock = some g → g ∉ cb
section
variable {P : Program} {w w' : World} {B : Nat} {e : TypeId} {size : Nat} {v : Value} {xs : List D} {cb : List Nat}
theorem GrowN.grow (h : GrowN w B e size v xs cb) : Grow w B e size v xs := by obtain ⟨es, h⟩ := h; exact ⟨es, cb, h⟩
theorem GrowN.nil (w : World) (B : Nat) (e : TypeId) (size : Nat) : GrowN w B e size (.slice none 0 0) [] [] := ⟨[], ⟨by simp, .inl ⟨rfl, rfl⟩⟩, ⟨rfl, rfl⟩, by simp, by simp, fun g h => by cases h⟩
theorem GrowN.lt (h : GrowN w B e size v xs cb) : ∀ y ∈ cb, B ≤ y ∧ y < w.heap.size := by
  obtain ⟨es, _, h2, _, h4, _⟩ := h
  exact fun y hy => ⟨h4 y hy, Reps.lt _ h2 y hy⟩
theorem GrowN.own (h : GrowN w B e size v xs cb) : ∀ g, v.ownBlock = some g → B ≤ g ∧ g < w.heap.size ∧ g ∉ cb := by
  obtain ⟨es, h1, _, _, _, h5⟩ := h
  exact fun g hg => ⟨(own_lt' h1 hg).1, (own_lt' h1 hg).2, h5 g hg⟩
theorem own_kept1 {n : Nat} {es : List Value} (h : w.ownsRow B e size v n es) (hb : ∀ g, v.ownBlock = some g → w'.heap[g]? = w.heap[g]?) : w'.ownsRow B e size v n es := by
  refine ⟨h.1, ?_⟩
  rcases h.2 with h0 | ⟨g, cap, cur, rfl, h1, h2, h3, h4, h5, h6⟩
  · exact .inl h0
  · exact .inr ⟨g, cap, cur, rfl, h1, (hb g rfl).trans h2, h3, h4, h5, h6⟩
theorem GrowN.touch {bs : List Nat} (h : GrowN w B e size v xs cb) (t : Touch bs w w') (h1 : ∀ g, v.ownBlock = some g → g ∉ bs) (h2 : ∀ y ∈ cb, y ∉ bs) : GrowN w' B e size v xs cb := by
  have hl := h.lt
  have ho := h.own
  obtain ⟨es, q1, q2, q3, q4, q5⟩ := h
  exact ⟨es, own_kept1 q1 fun g hg => t.block g (ho g hg).2.1 (h1 g hg), Reps.keep _ q2 ⟨t.size, fun y hy => t.block y (hl y hy).2 (h2 y hy)⟩, q3, q4, q5⟩
theorem GrowN.below (h : GrowN w B e size v xs cb) (hb : Below w.heap.size w w') : GrowN w' B e size v xs cb := h.touch (Touch.of_below hb (bs := [])) (by simp) (by simp)
theorem GrowN.set_low (h : GrowN w B e size v xs cb) {p : Addr} (hp : p.block < B) (u : Value) : GrowN (w.setCell p u) B e size v xs cb := by
  have hl := h.lt
  have ho := h.own
  obtain ⟨es, q1, q2, q3, q4, q5⟩ := h
  exact ⟨es, own_kept1 q1 fun g hg => Below.heap_setCell _ _ _ _ (fun e => by have := (ho g hg).1; omega), Reps.keep _ q2 ⟨by simp [World.setCell], fun y hy => Below.heap_setCell _ _ _ _ (fun e => by have := (hl y hy).1; omega)⟩, q3, q4, q5⟩
theorem run_append_growN (w : World) (t ty : TypeId) (i : TypeInfo) (z : Value) (bytes : Nat) (ht : P.underlying t = some (.slice e)) (hi : P.info? e = some i) (hz : i.zero = some z)
    (hsize : i.size = size) (hby : i.bytes = bytes) (hzs : z.cells.size = size) (hsz : 0 < size) (hG : GrowN w B e size v xs cb) {x : D} {g0 : Nat} {news : List Value} {b1 : List Nat}
    (hr : Rep w x news b1) (hn : b1.Nodup) (hf : ∀ y ∈ b1, y ∉ cb ∧ v.ownBlock ≠ some y ∧ B ≤ y) (hcells : ∀ j u, news[j]? = some u → w.cell? ⟨g0, j, none⟩ = some u) (hlen : news.length = size) (h1 : ∀ u ∈ news, u.oneCell' = true)
    (h63 : xs.length + 1 ≤ 1000000000) (hbytes : bytes ≤ 1024) (hbase : B ≤ w.heap.size) :
    ∃ v' w', (Builtin.append_ #[t, t] ty #[v, .slice (some ⟨g0, 0, none⟩) 1 1]).run P w = .ok v' w' ∧ GrowN w' B e size v' (xs ++ [x]) (cb ++ b1) ∧ Grew w w' v v' := by
  obtain ⟨es, q1, q2, q3, q4, q5⟩ := hG
  obtain ⟨v', w', hrun, h2, h3, _, h5⟩ := run_append_own_at (P := P) w B t ty e i z size bytes ht hi hz hsize hby hzs hsz v xs.length es q1 ⟨g0, 0, none⟩ 1 1 news (by rw [hlen, Nat.one_mul]) (fun j u hu => by rw [add_none, Nat.zero_add]; exact hcells j u hu) h1
    (by unfold maxLen; omega) (by have := Nat.mul_le_mul h63 hbytes; omega) hbase
  have hlt0 := Reps.lt _ q2
  have hblk : ∀ y, y < w.heap.size → v.ownBlock ≠ some y → w'.heap[y]? = w.heap[y]? := fun y hy hne => h3.block y hy (fun e => hne e.symm)
  refine ⟨v', w', hrun, ⟨es ++ news, by simpa using h2, reps_snoc (Reps.keep _ q2 ⟨h3.size, fun y hy => hblk y (hlt0 y hy) fun h => q5 y h hy⟩) (Rep.keep _ hr ⟨h3.size, fun y hy => hblk y (Rep.lt _ hr y hy) (hf y hy).2.1⟩), ?_, ?_, ?_⟩, ⟨h3.os, h3.tape, h3.output, h3.size, fun y hy hm => hblk y hy fun e => hm (mem_ownL.2 e)⟩, fun y hy => ?_⟩
  · exact List.nodup_append.2 ⟨q3, hn, fun y hy z hz e => (hf z hz).1 (e ▸ hy)⟩
  · intro y hy
    rcases List.mem_append.1 hy with hy | hy
    · exact q4 y hy
    · exact (hf y hy).2.2
  · intro g hg hm
    rcases h5 with h5 | h5
    · rw [h5] at hg
      rcases List.mem_append.1 hm with hm | hm
      · exact q5 g hg hm
      · exact (hf g hm).2.1 hg
    · rw [h5] at hg
      have hgw : w.heap.size = g := by simpa using hg
      rcases List.mem_append.1 hm with hm | hm
      · have := hlt0 g hm; omega
      · have := Rep.lt _ hr g hm; omega
  · rcases h5 with h5 | h5
    · rw [h5] at hy; exact .inl hy
    · rw [h5] at hy
      have : w.heap.size = y := by simpa using hy
      exact .inr (by omega)
theorem wp_append_growN {o : Oper} {a : Act} {K : Act → World → Prop} {Q : Exit → Act → World → Prop} (s x : Operand) (t : TypeId)
    (ho : o.op = .call { callee := .builtin .append, args := #[s, x], argTypes := #[t, t] })
    (z : Value) (ht : P.underlying t = some (.slice e)) (hinfo : (P.info? e).map (fun i => (i.zero, i.size, decide (i.bytes ≤ 1024))) = some (some z, size, true)) (hzs : z.cells.size = size) (hsz : 0 < size) (hs : a.eval s = v) (hG : GrowN w B e size v xs cb) {d : D} {g0 : Nat} {news : List Value} {b1 : List Nat}
    (hx : a.eval x = .slice (some ⟨g0, 0, none⟩) 1 1) (hr : Rep w d news b1) (hn : b1.Nodup) (hf : ∀ y ∈ b1, y ∉ cb ∧ v.ownBlock ≠ some y ∧ B ≤ y) (hcells : ∀ j u, news[j]? = some u → w.cell? ⟨g0, j, none⟩ = some u) (hlen : news.length = size) (h1 : ∀ u ∈ news, u.oneCell' = true)
    (h63 : xs.length + 1 ≤ 1000000000) (hbase : B ≤ w.heap.size)
    (h : ∀ v' w', GrowN w' B e size v' (xs ++ [d]) (cb ++ b1) → Grew w w' v v' → K (a.put o.dst v') w') : o.wp P a w K Q := by
  obtain ⟨i, hi, hzz⟩ := Option.map_eq_some_iff.1 hinfo
  simp only [Prod.mk.injEq, decide_eq_true_iff] at hzz
  obtain ⟨v', w', hrun, h2, h3⟩ := run_append_growN (P := P) w t o.type i z i.bytes ht hi hzz.1 hzz.2.1 rfl hzs hsz hG hr hn hf hcells hlen h1 h63 hzz.2.2 hbase
  unfold Oper.wp execOp
  simp only [ho, resolve, invoke, builtin, Sem.run_bind, Sem.run_pure, Result.andThen_ok, List.map_toArray, List.map_cons, List.map_nil, hs, hx, hrun]
  exact h v' w' h2 h3
/-- two growing slices' blocks lie apart -/
structure Apart (vr vw : Value) (cb : List Nat) : Prop where
  o : ∀ y, vr.ownBlock = some y → vw.ownBlock ≠ some y
  c : ∀ y, vw.ownBlock = some y → y ∉ cb
theorem Apart.nil : Apart (.slice none 0 0) (.slice none 0 0) [] := by
  constructor
  · intro y h; cases h
  · intro y h; cases h
theorem Apart.step {vr vw vr' vw' : Value} {b1 : List Nat} {N0 N1 N2 N3 : Nat} (a : Apart vr vw cb) (hw0 : ∀ y, vw.ownBlock = some y → y < N0) (hcb : ∀ y ∈ cb, y < N0)
    (g1 : ∀ y, vr'.ownBlock = some y → vr.ownBlock = some y ∨ N1 ≤ y) (h01 : N0 ≤ N1) (l1 : ∀ y, vr'.ownBlock = some y → y < N2) (hb : ∀ y ∈ b1, N0 ≤ y ∧ y < N2) (h02 : N0 ≤ N2)
    (g2 : ∀ y, vw'.ownBlock = some y → vw.ownBlock = some y ∨ N3 ≤ y) (h23 : N2 ≤ N3) : Apart vr' vw' (cb ++ b1) := by
  refine ⟨fun y h1 h2 => ?_, fun y h2 hm => ?_⟩
  · have := l1 y h1
    rcases g2 y h2 with h3 | h3
    · have := hw0 y h3
      rcases g1 y h1 with h4 | h4
      · exact a.o y h4 h3
      · omega
    · omega
  · rcases g2 y h2 with h3 | h3
    · have := hw0 y h3
      rcases List.mem_append.1 hm with hm | hm
      · exact a.c y h3 hm
      · have := (hb y hm).1; omega
    · rcases List.mem_append.1 hm with hm | hm
      · have := hcb y hm; omega
      · have := (hb y hm).2; omega
theorem Touch.box5 {bs : List Nat} {a b : World} (h : Touch bs a b) {g : Nat} {u0 u1 u2 u3 u4 : Value} (k : Box5 a g u0 u1 u2 u3 u4) (hn : g ∉ bs) : Box5 b g u0 u1 u2 u3 u4 := by
  have hl := lt_of_cell k.1
  exact ⟨(h.cell hl hn).trans k.1, (h.cell hl hn).trans k.2.1, (h.cell hl hn).trans k.2.2.1, (h.cell hl hn).trans k.2.2.2.1, (h.cell hl hn).trans k.2.2.2.2⟩
end
end Go.Proofs.YtpmgmekbnbligaaGreat

/- A region that draws its order and ends in stores (the tail): what its loads read has to hold till the tail begins. -/
namespace Go.Proofs.YtpmgmekbnbligaaGreat
open Go.RowKit

section
variable {P : Program} {ops : Array Oper} {Q : Exit → Act → World → Prop} {md : Region.Mode} {S : World → Prop} {T : Nat}
/-- whatever order is picked, S holds behind every operation till number T has come up -/
def wpAnyT (P : Program) (md : Region.Mode) (ops : Array Oper) (Q : Exit → Act → World → Prop) (S : World → Prop) (T : Nat) : Nat → Array Bool → Act → World → Prop
  | 0, listed, a, w => Region.ready md ops listed = [] ∧ Q .normal a w
  | fuel + 1, listed, a, w =>
    (Region.ready md ops listed = [] → Q .normal a w) ∧
    ∀ i ∈ Region.ready md ops listed, wpOp P ops Q i (fun a' w' => ((listed.setIfInBounds i true).getD T true = false → S w') ∧ wpAnyT P md ops Q S T fuel (listed.setIfInBounds i true) a' w') a w
theorem wpAny_of_T : ∀ (fuel : Nat) (listed : Array Bool) (a : Act) (w : World), wpAnyT P md ops Q S T fuel listed a w → wpAny P md ops Q fuel listed a w
  | 0, _, _, _, h => h
  | fuel + 1, _, _, _, h => ⟨h.1, fun i hi => wpOp_mono (fun a' w' h' => wpAny_of_T fuel _ a' w' h'.2) (h.2 i hi)⟩
/-- number T waits for number i -/
def tailB (md : Region.Mode) (ops : Array Oper) (T i : Nat) : Bool := !(T == i) && match ops[T]? with
  | some o => o.after.toList.any fun e => Region.binds md e && e.on == i
  | none => false
theorem wpAnyT_first {S' : World → Prop} {i : Nat} {oi : Oper} {v : Value} (hi : ops[i]? = some oi) (hsel : ∀ (j : Nat) (o : Oper) cs b, ops[j]? = some o → o.op ≠ .select cs b)
    (hQ : ∀ c a w, Q (.panic c) (a.put oi.dst v) w → Q (.panic c) a w) (hTi : T ≠ i)
    (C : Array Bool → Prop)
    (hC : ∀ (listed : Array Bool) j oj, C listed → ops[j]? = some oj → (∀ e ∈ oj.after, Region.binds md e = true → e.on ≠ i) → C (listed.setIfInBounds j true) ∧ ∀ w, ((listed.setIfInBounds j true).getD T true = false → S w) → S' w) :
    ∀ (fuel : Nat) (listed : Array Bool) (a : Act) (w : World), C listed →
      (∀ j oj, ops[j]? = some oj → j ≠ i → listed.getD j true = false → (∀ e ∈ oj.after, Region.binds md e = true → e.on ≠ i) → oi.apart ops oj = true) →
      i ∈ Region.ready md ops listed → YieldsIf P ops S' oi v a → S' w → (listed.getD T true = false → S w) →
      wpAnyT P md ops Q S T fuel (listed.setIfInBounds i true) (a.put oi.dst v) w → wpAnyT P md ops Q S T (fuel + 1) listed a w := by
  have hget : ∀ listed : Array Bool, (listed.setIfInBounds i true).getD T true = listed.getD T true := fun listed => getD_set_ne true (Ne.symm hTi)
  intro fuel
  induction fuel with
  | zero =>
    intro listed a w _ _ hr hy hS hK H
    refine ⟨fun h => (by rw [h] at hr; cases hr), fun j hj => ?_⟩
    by_cases hji : j = i
    · subst hji; exact hy.wpOp hi hS ⟨fun h => hK (by rw [hget] at h; exact h), H⟩
    · have := ready_mono hj hji
      rw [H.1] at this
      cases this
  | succ fuel ih =>
    intro listed a w hc hfree hr hy hS hK H
    refine ⟨fun h => (by rw [h] at hr; cases hr), fun j hj => ?_⟩
    by_cases hji : j = i
    · subst hji; exact hy.wpOp hi hS ⟨fun h => hK (by rw [hget] at h; exact h), H⟩
    · have h1 := H.2 j (ready_mono hj hji)
      obtain ⟨hjun, oj, hoj, hall⟩ := mem_ready.1 hj
      have hnot : ∀ e ∈ oj.after, Region.binds md e = true → e.on ≠ i := fun e he hb heq => by
        have h1 := hall e he hb
        have h0 := (mem_ready.1 hr).1
        rw [heq] at h1
        rcases Nat.lt_or_ge i listed.size with h' | h'
        · simp [h'] at h0 h1; rw [h0] at h1; cases h1
        · simp [Array.getElem?_eq_none h'] at h1
      obtain ⟨hc', hS'⟩ := hC listed j oj hc hoj hnot
      have h2 := wpOp_putIf hoj (hfree j oj hoj hji hjun hnot) (fun cs b => hsel i oi cs b hi) (fun cs b => hsel j oj cs b hoj) hQ hy h1
      have hfree' : ∀ k ok, ops[k]? = some ok → k ≠ i → (listed.setIfInBounds j true).getD k true = false →
          (∀ e ∈ ok.after, Region.binds md e = true → e.on ≠ i) → oi.apart ops ok = true := fun k ok hk hki hun hno => by
        refine hfree k ok hk hki ?_ hno
        by_cases hjk : j = k
        · subst hjk; exact hjun
        · rw [getD_set_ne true hjk] at hun; exact hun
      have hcomm : (listed.setIfInBounds i true).setIfInBounds j true = (listed.setIfInBounds j true).setIfInBounds i true := Array.setIfInBounds_comm _ _ (Ne.symm hji)
      refine wpOp_mono (fun a' w' h3 => ?_) h2
      have h4 : (listed.setIfInBounds j true).getD T true = false → S w' := fun h => h3.2.1 (by rw [hcomm, hget]; exact h)
      refine ⟨h4, ih (listed.setIfInBounds j true) a' w' hc' hfree' (ready_mono hr (Ne.symm hji)) h3.1 (hS' w' h4) h4 ?_⟩
      rw [← hcomm]
      exact h3.2.2
theorem wpAnyT_done {listed : Array Bool} {a : Act} {w : World} (hr : Region.ready md ops listed = []) (h : Q .normal a w) : ∀ fuel, wpAnyT P md ops Q S T fuel listed a w
  | 0 => ⟨hr, h⟩
  | _ + 1 => ⟨fun _ => h, by rw [hr]; simp⟩
theorem wp_regionT {id : Nat} {a : Act} {w : World} (T : Nat) (hm : P.follows .mixedOrders = true) (hS : S w.drew)
    (h : S w.drew → wpAnyT P .any ops Q S T ops.size (Array.replicate ops.size false) a w.drew) : (Code.region id ops true).wp P Q a w :=
  wp_region_any hm (wpAny_of_T _ _ _ _ (h hS))
end
section
variable {P : Program} {l : List Oper} {Q : Exit → Act → World → Prop} {S : World → Prop} {md : Region.Mode} {T : Nat}
/-- a load ahead of the tail is taken first -/
theorem takeT {i : Nat} {oi : Oper} {v : Value} {fuel : Nat} {listed : Array Bool} {a : Act} {w : World} (hi : l[i]? = some oi) (hg : oi.guard = none) (ht : tailB md l.toArray T i = true) (hl : listed.getD T true = false)
    (hs : Region.noSelect l.toArray = true) (hf : Region.free md l.toArray listed i = true) (hr : (Region.ready md l.toArray listed).contains i = true)
    (hQ : ∀ c a w, Q (.panic c) (a.put oi.dst v) w → Q (.panic c) a w) (hy : ∀ w, S w → (execOp a.eval oi).run P w = .ok (.value v) w) (hS : S w)
    (h : wpAnyT P md l.toArray Q S T fuel (listed.setIfInBounds i true) (a.put oi.dst v) w) : wpAnyT P md l.toArray Q S T (fuel + 1) listed a w := by
  simp only [tailB, Bool.and_eq_true, Bool.not_eq_true', beq_eq_false_iff_ne] at ht
  obtain ⟨hTi, ht⟩ := ht
  refine wpAnyT_first (S' := S) (oi := oi) (by simpa using hi) (Region.noSelect_spec hs) hQ hTi (fun listed => listed.getD T true = false) (fun listed j oj hc hj hno => ?_) fuel listed a w hl (Region.free_spec (by simpa using hi) hf) (by simpa using hr) (.inl ⟨by simp [Region.wanted, hg], hy⟩) hS (fun _ => hS) h
  have hne : j ≠ T := fun e => by
    subst e
    rw [hj] at ht
    simp only [List.any_eq_true, Bool.and_eq_true, beq_iff_eq] at ht
    obtain ⟨e, he, hb, heq⟩ := ht
    exact hno e (by simpa using he) hb heq
  have hg2 : (listed.setIfInBounds j true).getD T true = false := by rw [getD_set_ne true hne]; exact hc
  exact ⟨hg2, fun w hw => hw hg2⟩
/-- what yields in whatever world is taken first -/
theorem takeU {i : Nat} {oi : Oper} {v : Value} {fuel : Nat} {listed : Array Bool} {a : Act} {w : World} (hi : l[i]? = some oi) (hg : oi.guard = none) (hTi : (T == i) = false)
    (hs : Region.noSelect l.toArray = true) (hf : Region.free md l.toArray listed i = true) (hr : (Region.ready md l.toArray listed).contains i = true)
    (hQ : ∀ c a w, Q (.panic c) (a.put oi.dst v) w → Q (.panic c) a w) (hy : ∀ w, (execOp a.eval oi).run P w = .ok (.value v) w) (hK : listed.getD T true = false → S w)
    (h : wpAnyT P md l.toArray Q S T fuel (listed.setIfInBounds i true) (a.put oi.dst v) w) : wpAnyT P md l.toArray Q S T (fuel + 1) listed a w :=
  wpAnyT_first (S' := fun _ => True) (oi := oi) (by simpa using hi) (Region.noSelect_spec hs) hQ (by simpa using hTi) (fun _ => True) (fun _ _ _ _ _ _ => ⟨trivial, fun _ _ => trivial⟩) fuel listed a w trivial (Region.free_spec (by simpa using hi) hf) (by simpa using hr) (.inl ⟨by simp [Region.wanted, hg], fun w _ => hy w⟩) trivial hK h
/-- each of the operations that may come up comes up -/
theorem readyT {rs : List Nat} {fuel : Nat} {listed : Array Bool} {a : Act} {w : World} (hr : Region.ready md l.toArray listed = rs) (hne : rs ≠ [])
    (h : ∀ i ∈ rs, wpOp P l.toArray Q i (fun a' w' => ((listed.setIfInBounds i true).getD T true = false → S w') ∧ wpAnyT P md l.toArray Q S T fuel (listed.setIfInBounds i true) a' w') a w) : wpAnyT P md l.toArray Q S T (fuel + 1) listed a w :=
  ⟨fun h0 => absurd (hr ▸ h0) hne, hr ▸ h⟩
/-- one of them -/
theorem opT {i : Nat} {o : Oper} {fuel : Nat} {listed : Array Bool} {a : Act} {w : World} (ho : l[i]? = some o) (hg : Region.wanted o (yielded l.toArray a.tmps) = true)
    (h : ∀ K' : Act → World → Prop, Shut (∀ a w, S w → (S w → wpAnyT P md l.toArray Q S T fuel (listed.setIfInBounds i true) a w) → K' a w) → Oper.wp P o a w K' Q) :
    wpOp P l.toArray Q i (fun a' w' => ((listed.setIfInBounds i true).getD T true = false → S w') ∧ wpAnyT P md l.toArray Q S T fuel (listed.setIfInBounds i true) a' w') a w := by
  refine wpOp_step (o := o) (by simpa using ho) fun K hK => ?_
  rw [if_pos hg]
  exact h K fun a w hS hW => hK a w ⟨fun _ => hS, hW hS⟩
/-- one of the tail's -/
theorem opTT {i : Nat} {o : Oper} {fuel : Nat} {listed : Array Bool} {a : Act} {w : World} (ho : l[i]? = some o) (hg : Region.wanted o (yielded l.toArray a.tmps) = true) (ht : (listed.setIfInBounds i true).getD T true = true)
    (h : ∀ K' : Act → World → Prop, Shut (∀ a w, wpAnyT P md l.toArray Q S T fuel (listed.setIfInBounds i true) a w → K' a w) → Oper.wp P o a w K' Q) :
    wpOp P l.toArray Q i (fun a' w' => ((listed.setIfInBounds i true).getD T true = false → S w') ∧ wpAnyT P md l.toArray Q S T fuel (listed.setIfInBounds i true) a' w') a w := by
  refine wpOp_step (o := o) (by simpa using ho) fun K hK => ?_
  rw [if_pos hg]
  exact h K fun a w hW => hK a w ⟨fun h => (by rw [ht] at h; cases h), hW⟩
theorem all1 {p : Nat → Prop} {i : Nat} (h : p i) : ∀ k ∈ [i], p k := by simpa using h
theorem all2 {p : Nat → Prop} {i j : Nat} (h : p i) (h2 : p j) : ∀ k ∈ [i, j], p k := by simpa using ⟨h, h2⟩
end
section
variable {P : Program} {l : List Oper} {Q : Exit → Act → World → Prop} {S : World → Prop} {md : Region.Mode} {T : Nat}
theorem goT (i : Nat) {oi : Oper} {v : Value} {fuel : Nat} {listed : Array Bool} {a a' : Act} {w : World} (hS : S w)
    (h : wpAnyT P md l.toArray Q S T fuel (listed.setIfInBounds i true) a' w)
    (hi : l[i]? = some oi := by rfl) (hg : oi.guard = none := by rfl) (ht : tailB md l.toArray T i = true := by kernel_rfl) (hl : listed.getD T true = false := by kernel_rfl) (hs : Region.noSelect l.toArray = true := by kernel_rfl)
    (hf : Region.free md l.toArray listed i = true := by kernel_rfl) (hr : (Region.ready md l.toArray listed).contains i = true := by kernel_rfl)
    (hy : ∀ w, S w → (execOp a.eval oi).run P w = .ok (.value v) w := by (intro w hSw; (try dsimp only at hSw); go_simp; try with_reducible rfl))
    (hA : a.put oi.dst v = a' := by (simp only [Act.put, aq0, aq1, aq2]; try rfl))
    (hQ : ∀ c a w, Q (.panic c) (a.put oi.dst v) w → Q (.panic c) a w := by exact fun _ _ _ h => h) : wpAnyT P md l.toArray Q S T (fuel + 1) listed a w :=
  takeT hi hg ht hl hs hf hr hQ hy hS (by rw [hA]; exact h)
theorem goU (i : Nat) {oi : Oper} {v : Value} {fuel : Nat} {listed : Array Bool} {a a' : Act} {w : World} (hK : listed.getD T true = false → S w)
    (h : wpAnyT P md l.toArray Q S T fuel (listed.setIfInBounds i true) a' w)
    (hi : l[i]? = some oi := by rfl) (hg : oi.guard = none := by rfl) (ht : (T == i) = false := by kernel_rfl) (hs : Region.noSelect l.toArray = true := by kernel_rfl)
    (hf : Region.free md l.toArray listed i = true := by kernel_rfl) (hr : (Region.ready md l.toArray listed).contains i = true := by kernel_rfl)
    (hy : ∀ w, (execOp a.eval oi).run P w = .ok (.value v) w := by (intro w; go_simp; try with_reducible rfl))
    (hA : a.put oi.dst v = a' := by (simp only [Act.put, aq0, aq1, aq2]; try rfl))
    (hQ : ∀ c a w, Q (.panic c) (a.put oi.dst v) w → Q (.panic c) a w := by exact fun _ _ _ h => h) : wpAnyT P md l.toArray Q S T (fuel + 1) listed a w :=
  takeU hi hg ht hs hf hr hQ hy hK (by rw [hA]; exact h)
end
end Go.Proofs.YtpmgmekbnbligaaGreat

/- The Go type Dep: how it reads; the law package's functions on it and on slices of it. Printed by tygen.py. -/
namespace Go.Proofs.YtpmgmekbnbligaaGreat
open Go.ChangeShapes Go.WideShapes Go.ChangeAt Go.RowKit Go.Deep

structure Dp where
  from_ : Int
  to_ : Int
  kinds : Int
  deriving DecidableEq
def Dp.d (x : Dp) : D := .st [.int x.from_, .int x.to_, .int x.kinds]
theorem Dp.d_size (x : Dp) : x.d.size = 3 := rfl
theorem Rep.dp_iff {w : World} {x : Dp} {cs : List Value} {bs : List Nat} : Rep w x.d cs bs ↔ cs = [.int .i64 x.from_, .int .i64 x.to_, .int .i64 x.kinds] ∧ bs = [] ∧ I64 x.from_ ∧ I64 x.to_ ∧ I64 x.kinds := by
  constructor
  · intro h
    replace h : Reps w [.int x.from_, .int x.to_, .int x.kinds] cs bs := h
    obtain ⟨_, _, _, _, rfl, rfl, g1, h⟩ := h
    obtain ⟨_, _, _, _, rfl, rfl, g2, h⟩ := h
    obtain ⟨_, _, _, _, rfl, rfl, g3, h⟩ := h
    obtain ⟨rfl, rfl⟩ := h
    obtain ⟨rfl, rfl, g1⟩ := g1
    obtain ⟨rfl, rfl, g2⟩ := g2
    obtain ⟨rfl, rfl, g3⟩ := g3
    exact ⟨rfl, by simp, g1, g2, g3⟩
  · rintro ⟨rfl, rfl, g1, g2, g3⟩
    have h : Reps w [.int x.from_, .int x.to_, .int x.kinds] _ _ := ⟨_, _, _, _, rfl, rfl, ⟨rfl, rfl, g1⟩, ⟨_, _, _, _, rfl, rfl, ⟨rfl, rfl, g2⟩, ⟨_, _, _, _, rfl, rfl, ⟨rfl, rfl, g3⟩, ⟨rfl, rfl⟩⟩⟩⟩
    simpa using (show Rep w x.d _ _ from h)

theorem Tryz.infoDep : (Tryz.prog.info? 93).map (fun i => (i.zero, i.size, decide (i.bytes ≤ 1024))) = some (some (.agg #[.int .i64 0, .int .i64 0, .int .i64 0]), 3, true) := by kernel_rfl

end Go.Proofs.YtpmgmekbnbligaaGreat

/- Dependences in plain Lean: kinds, the list of all of them. -/
namespace Go.Proofs.YtpmgmekbnbligaaGreat
open Go.ChangeShapes Go.WideShapes Go.ChangeAt Go.RowKit Go.Deep

def kindsF (a b : Us) : Int := (if b.reads.contains a.write then 1 else 0) + (if a.reads.contains b.write then 2 else 0) + (if a.write = b.write then 4 else 0)
theorem kindsF_bd (a b : Us) : 0 ≤ kindsF a b ∧ kindsF a b ≤ 7 := by
  unfold kindsF
  split <;> split <;> split <;> omega
def noUs : Us := ⟨[], 0⟩
def nthU (us : List Us) (k : Nat) : Us := us.getD k noUs
theorem nthU_eq {us : List Us} {k : Nat} (h : k < us.length) : nthU us k = us[k] := by simp [nthU, List.getD_eq_getElem?_getD, h]
/-- the dependences from instance i to the instances from k on, n of them at most -/
def depsTo (us : List Us) (i : Nat) : Nat → Nat → List Dp
  | 0, _ => []
  | n + 1, k => (if 0 < kindsF (nthU us i) (nthU us k) then [⟨(i : Int), (k : Int), kindsF (nthU us i) (nthU us k)⟩] else []) ++ depsTo us i n (k + 1)
def depsN (us : List Us) : Nat → List Dp
  | 0 => []
  | i + 1 => depsN us i ++ depsTo us i (us.length - (i + 1)) (i + 1)
def depsF (us : List Us) : List Dp := depsN us us.length
/-- the dependences from i to the instances before k -/
def depsB (us : List Us) (i k : Nat) : List Dp := depsTo us i (k - (i + 1)) (i + 1)
theorem depsTo_snoc (us : List Us) (i : Nat) : ∀ n k, depsTo us i (n + 1) k = depsTo us i n k ++ (if 0 < kindsF (nthU us i) (nthU us (k + n)) then [⟨(i : Int), ((k + n : Nat) : Int), kindsF (nthU us i) (nthU us (k + n))⟩] else [])
  | 0, k => by simp [depsTo]
  | n + 1, k => by
    rw [depsTo, depsTo_snoc us i n (k + 1)]
    conv => rhs; rw [depsTo]
    rw [List.append_assoc, show k + 1 + n = k + (n + 1) by omega]
theorem depsB_snoc {us : List Us} {i k : Nat} (h : i < k) : depsB us i (k + 1) = depsB us i k ++ (if 0 < kindsF (nthU us i) (nthU us k) then [⟨(i : Int), (k : Int), kindsF (nthU us i) (nthU us k)⟩] else []) := by
  unfold depsB
  rw [show k + 1 - (i + 1) = (k - (i + 1)) + 1 by omega, depsTo_snoc, show i + 1 + (k - (i + 1)) = k by omega]
theorem depsB_yes {us : List Us} {i k : Nat} (h : i < k) (h2 : 0 < kindsF (nthU us i) (nthU us k)) : depsB us i (k + 1) = depsB us i k ++ [⟨(i : Int), (k : Int), kindsF (nthU us i) (nthU us k)⟩] := by rw [depsB_snoc h, if_pos h2]
theorem depsB_no {us : List Us} {i k : Nat} (h : i < k) (h2 : ¬ 0 < kindsF (nthU us i) (nthU us k)) : depsB us i (k + 1) = depsB us i k := by rw [depsB_snoc h, if_neg h2, List.append_nil]
theorem depsTo_mem (us : List Us) (i : Nat) : ∀ n k d, d ∈ depsTo us i n k → d.from_ = (i : Int) ∧ ∃ j, k ≤ j ∧ j < k + n ∧ d.to_ = (j : Int) ∧ d.kinds = kindsF (nthU us i) (nthU us j) ∧ 0 < d.kinds
  | 0, k, d, h => by simp [depsTo] at h
  | n + 1, k, d, h => by
    rw [depsTo] at h
    rcases List.mem_append.1 h with h | h
    · split at h
      · next h2 =>
        rw [List.mem_singleton] at h; subst h
        exact ⟨rfl, k, Nat.le_refl _, by omega, rfl, rfl, h2⟩
      · simp at h
    · obtain ⟨h1, j, h2, h3, h4, h5⟩ := depsTo_mem us i n (k + 1) d h
      exact ⟨h1, j, by omega, by omega, h4, h5⟩
/-- what holds of a dependence -/
structure DpOk (us : List Us) (d : Dp) : Prop where
  f0 : 0 ≤ d.from_
  ft : d.from_ < d.to_
  t1 : d.to_ < (us.length : Int)
  k0 : 0 < d.kinds
  k1 : d.kinds ≤ 7
theorem depsN_mem {us : List Us} : ∀ {n : Nat}, n ≤ us.length → ∀ d ∈ depsN us n, DpOk us d ∧ d.from_ < (n : Int)
  | 0, _, d, h => by simp [depsN] at h
  | n + 1, hn, d, h => by
    rw [depsN] at h
    rcases List.mem_append.1 h with h | h
    · have := depsN_mem (by omega) d h
      exact ⟨this.1, by omega⟩
    · obtain ⟨h1, j, h2, h3, h4, h5, h6⟩ := depsTo_mem _ _ _ _ _ h
      have hk := kindsF_bd (nthU us n) (nthU us j)
      exact ⟨⟨by omega, by omega, by omega, h6, by omega⟩, by omega⟩
theorem depsF_mem {us : List Us} : ∀ d ∈ depsF us, DpOk us d := fun d h => (depsN_mem (Nat.le_refl _) d h).1
/-- the dependences come in the order of the instances they start from -/
theorem depsN_sorted {us : List Us} : ∀ {n : Nat}, n ≤ us.length → (depsN us n).Pairwise (fun a b => a.from_ ≤ b.from_)
  | 0, _ => by simp [depsN]
  | n + 1, hn => by
    rw [depsN]
    refine List.pairwise_append.2 ⟨depsN_sorted (by omega), ?_, fun a ha b hb => ?_⟩
    · refine List.pairwise_of_forall_mem_list fun a ha b hb => ?_
      rw [(depsTo_mem _ _ _ _ _ ha).1, (depsTo_mem _ _ _ _ _ hb).1]
      omega
    · have h1 := (depsN_mem (by omega) a ha).2
      rw [(depsTo_mem _ _ _ _ _ hb).1]
      omega
theorem depsTo_len (us : List Us) (i : Nat) : ∀ n k, (depsTo us i n k).length ≤ n
  | 0, _ => by simp [depsTo]
  | n + 1, k => by
    rw [depsTo, List.length_append]
    have := depsTo_len us i n (k + 1)
    split <;> simp <;> omega
theorem depsN_len {us : List Us} : ∀ {n : Nat}, n ≤ us.length → (depsN us n).length ≤ n * us.length
  | 0, _ => by simp [depsN]
  | n + 1, hn => by
    rw [depsN, List.length_append, Nat.add_mul]
    have h1 := depsN_len (us := us) (n := n) (by omega)
    have h2 := depsTo_len us n (us.length - (n + 1)) (n + 1)
    omega
end Go.Proofs.YtpmgmekbnbligaaGreat

/- Levels in plain Lean: the longest ways through the dependences. -/
namespace Go.Proofs.YtpmgmekbnbligaaGreat
open Go.ChangeShapes Go.WideShapes Go.ChangeAt Go.RowKit Go.Deep

end Go.Proofs.YtpmgmekbnbligaaGreat
