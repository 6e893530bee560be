/- Statements whose accesses denote elements at a point: stmtOk of the program. -/
import Derived.Test.YtbhniobgaoncaaaGreatDoorZpTyStmt
import Derived.Test.YtbhniobgaoncaaaGreatDoorZpCore
import Derived.Test.YtbhniobgaoncaaaGreatDoorZpPgF
import Derived.Test.YtbhniobgaoncaaaGreatDoorZpCellW
import Derived.Test.YtbhniobgaoncaaaGreatDoorZpReads
set_option linter.all false
set_option linter.unusedSimpArgs false
set_option linter.unusedVariables false
namespace Go.Proofs.YtbhniobgaoncaaaGreatDoor
open Go.ChangeShapes Go.WideShapes Go.ChangeAt Go.RowKit Go.Deep

set_option maxHeartbeats 1000000 in
theorem IndexFunc_Stmt_c {w : World} {xs : List Stm} {A : Option Addr} {n c : Nat} {bs : List Nat} {g : FuncId} {cap : Array Value} {p : Stm → Bool} (h : Rep w (sls Stm.d xs) [.slice A n c] bs) (hg : Enters Tryz.prog g)
    (hp : ∀ x cs bs W, x ∈ xs → Below w.heap.size w W → Rep W (Stm.d x) cs bs → Calls Tryz.prog g (#[.agg cs.toArray] ++ cap) W fun e w' => e = .returned (.bool (p x)) ∧ Below W.heap.size W w') :
    Calls Tryz.prog 179 #[.slice A n c, .func (.func g) #[] cap] w fun e w' => e = .returned (.int .i64 (idxI p xs 0)) ∧ Below w.heap.size w w' := by
  obtain ⟨rfl, h2, h3⟩ := h.sls_len
  have hn : xs.length ≤ 9223372036854775807 := Nat.le_trans h2 h3
  clear h2 h3
  have H := Lib.hid h; clear h
  have HP := Lib.hid hp; clear hp
  unfold Enters at hg
  go_enter Tryz.func179, Tryz.ntmps179
  go_wp2
  go_loopw [8] (fun i wr => ∃ j : Nat, j ≤ xs.length ∧ i = .int .i64 j ∧ idxI p xs 0 = idxI p (xs.drop j) j ∧ Below w.heap.size w wr) (fun i _ => xs.length - (intOf i).toNat)
  case atStart => exact ⟨0, Nat.zero_le _, rfl, by simp, Below.refl _ _⟩
  case round =>
    obtain ⟨j, hj, rfl, hi, hb⟩ := hrel
    have HI := Lib.hid hi; clear hi
    by_cases hlt : j < xs.length
    · have hd := Lib.hid (idxI_drop p xs j hlt)
      obtain ⟨b, o, cs, l, rfl, hbl, hr, _, _, hc⟩ := (H.out.below hb).sls_at Stm.d_size (k := j) hlt
      have G := Lib.hid hr
      obtain ⟨A2, c2, A5, c5, A8, c8, A9, c9, d2, d5, d8, d9, rfl, rfl, g1, g2, g3, g4, g5, g6, g7, g8, g9⟩ := Rep.stm_iff.1 hr
      have k0 := (hc 0 _ rfl).1; rw [Nat.add_zero] at k0
      have k1 := (hc 1 _ rfl).1
      have k2 := (hc 2 _ rfl).1
      have k3 := (hc 3 _ rfl).1
      have k4 := (hc 4 _ rfl).1
      have k5 := (hc 5 _ rfl).1
      have k6 := (hc 6 _ rfl).1
      have k7 := (hc 7 _ rfl).1
      have k8 := (hc 8 _ rfl).1
      clear hc hr g1 g2 g3 g4 g5 g6 g7 g8 g9
      go_wp2_with fail
      refine (HP.out _ _ _ _ (List.getElem_mem hlt) (by exact hb) G.out).mono ?_
      rintro e w1 ⟨rfl, b1⟩
      have S1 := below_tr hb b1
      by_cases hpx : p xs[j] = true
      · have hd2 := Lib.hid (hd.out.trans (if_pos hpx))
        have HX := Lib.hid hpx; clear hpx
        rw [HX.out]
        go_wp2
        go_ret
        exact ⟨ret_int (by rw [HI.out, hd2.out]), S1⟩
      · have hd2 := Lib.hid (hd.out.trans (if_neg hpx))
        simp only [Bool.not_eq_true] at hpx
        have HX := Lib.hid hpx; clear hpx
        rw [HX.out]
        go_wp2
        go_roundw
        case rel => exact ⟨j + 1, by omega, by go_num, by rw [HI.out, hd2.out], S1⟩
        case measure => simp [intOf]; omega
    · have hjj : j = xs.length := by omega
      subst hjj
      go_wp2
      go_ret
      exact ⟨ret_int (by rw [HI.out]; simp [idxI]), hb⟩

theorem ContainsFunc_Stmt_c {w : World} {xs : List Stm} {A : Option Addr} {n c : Nat} {bs : List Nat} {g : FuncId} {cap : Array Value} {p : Stm → Bool} (h : Rep w (sls Stm.d xs) [.slice A n c] bs) (hg : Enters Tryz.prog g)
    (hp : ∀ x cs bs W, x ∈ xs → Below w.heap.size w W → Rep W (Stm.d x) cs bs → Calls Tryz.prog g (#[.agg cs.toArray] ++ cap) W fun e w' => e = .returned (.bool (p x)) ∧ Below W.heap.size W w') :
    Calls Tryz.prog 130 #[.slice A n c, .func (.func g) #[] cap] w fun e w' => e = .returned (.bool (xs.any p)) ∧ Below w.heap.size w w' := by
  have hx := Lib.hid (idxI_any p xs 0 (Int.le_refl _))
  have HH := Lib.hid h; clear h
  have HP := Lib.hid hp; clear hp
  go_enter Tryz.func130, Tryz.ntmps130
  go_wp2_with fail
  refine (IndexFunc_Stmt_c HH.out hg HP.out).mono ?_
  rintro e w1 ⟨rfl, b1⟩
  go_wp2
  go_ret
  exact ⟨ret_bool hx.out, b1⟩

end Go.Proofs.YtbhniobgaoncaaaGreatDoor
set_option linter.all false
set_option linter.unusedSimpArgs false
set_option linter.unusedVariables false
namespace Go.Proofs.YtbhniobgaoncaaaGreatDoor
open Go.ChangeShapes Go.WideShapes Go.ChangeAt Go.RowKit Go.Deep

/-- what the walks of a statement's cells need -/
structure StB (s : Stm) (q : List Int) : Prop where
  w1 : 1 ≤ s.write.subs.length
  w : ∀ t ∈ s.write.subs, EvBd t q
  r : ∀ a ∈ readsF s.value, 1 ≤ a.subs.length ∧ ∀ t ∈ a.subs, EvBd t q
  n : (readsF s.value).length ≤ 1000000
theorem accOk_subs {a : Acc} {d : Int} (h : accOk a d = true) : 1 ≤ a.subs.length ∧ ∀ t ∈ a.subs, affOk t = true := by
  simp only [accOk, Bool.and_eq_true] at h
  have := sideOk_iff h.2
  exact ⟨this.1, fun t ht => (this.2.2 t ht).1⟩
theorem shape_reads (x : Ex) : ∀ (L : Nat) (d : Int), exShape x d L = true → ∀ a ∈ readsF x, accOk a d = true :=
  Ex.ind (P := fun x => ∀ (L : Nat) (d : Int), exShape x d L = true → ∀ a ∈ readsF x, accOk a d = true) (fun x hx L d h a ha => by
    rw [exShape_eq] at h
    simp only [Bool.and_eq_true, decide_eq_true_iff, List.all_eq_true] at h
    rw [readsF_eq] at ha
    by_cases hk : x.kind = 3
    · rw [if_pos hk, List.mem_singleton] at ha
      have ho := h.2.2.1
      rw [ha]
      simp [ownF, hk] at ho
      exact ho.2.2
    · rw [if_neg hk] at ha
      have : ∀ ys : List Ex, (∀ y ∈ ys, y ∈ x.kids) → a ∈ readsL ys → accOk a d = true := by
        intro ys
        induction ys with
        | nil => intro _ h; simp [readsL] at h
        | cons y ys ih =>
          intro hy h1
          rw [readsL] at h1
          rcases List.mem_append.1 h1 with h1 | h1
          · exact hx y (hy y List.mem_cons_self) _ d (h.2.2.2 y (hy y List.mem_cons_self)) a h1
          · exact ih (fun z hz => hy z (List.mem_cons_of_mem _ hz)) h1
      exact this x.kids (fun _ h => h) ha) x
theorem reads_len (x : Ex) : ∀ L : Nat, (∃ d, exShape x d L = true) → (readsF x).length ≤ exCnt x L :=
  Ex.ind (P := fun x => ∀ L : Nat, (∃ d, exShape x d L = true) → (readsF x).length ≤ exCnt x L) (fun x hx L ⟨d, h⟩ => by
    have h0 := exCnt_pos x L
    rw [readsF_eq]
    by_cases hk : x.kind = 3
    · rw [if_pos hk]; simpa using h0
    · rw [if_neg hk]
      rw [exShape_eq] at h
      simp only [Bool.and_eq_true, decide_eq_true_iff, List.all_eq_true] at h
      obtain ⟨L, rfl⟩ : ∃ M, L = M + 1 := ⟨L - 1, by omega⟩
      rw [exCnt_succ]
      simp only [Nat.add_sub_cancel] at h
      have : ∀ ys : List Ex, (∀ y ∈ ys, y ∈ x.kids) → (readsL ys).length ≤ cntL (fun y => exCnt y L) ys := by
        intro ys
        induction ys with
        | nil => intro _; simp [readsL, cntL]
        | cons y ys ih =>
          intro hy
          have h1 := hx y (hy y List.mem_cons_self) L ⟨d, h.2.2.2 y (hy y List.mem_cons_self)⟩
          have h2 := ih fun z hz => hy z (List.mem_cons_of_mem _ hz)
          simp only [readsL, List.length_append, cntL]; omega
      have := this x.kids fun _ h => h
      omega) x
theorem stmtValid_parts {s : Stm} {d : Int} (h : StmtValidF s d = true) : accOk s.write d = true ∧ exShape s.value d 5 = true ∧ exCnt s.value 5 ≤ 12 := by
  simp only [StmtValidF, Bool.and_eq_true, decide_eq_true_iff] at h
  exact ⟨h.2.1, h.2.2.1, h.2.2.2⟩
theorem StB.of {s : Stm} {d : Int} {q : List Int} (h : StmtValidF s d = true) (hq : PtS q) : StB s q := by
  obtain ⟨h1, h2, h3⟩ := stmtValid_parts h
  have h4 := accOk_subs h1
  refine ⟨h4.1, fun t ht => hq t (h4.2 t ht), fun a ha => ?_, ?_⟩
  · have h5 := accOk_subs (shape_reads s.value 5 d h2 a ha)
    exact ⟨h5.1, fun t ht => hq t (h5.2 t ht)⟩
  · have := reads_len s.value 5 ⟨d, h2⟩; omega
def cellBad (xs : List Ar) (q : List Int) (a : Acc) : Bool := decide (cellF xs a q < 0)

section
variable {w : World} {bs bs1 bs2 : List Nat}
theorem stmtOk1_c {p : Pgm} {a : Acc} {q : List Int} {cs : List Value} {A1 A2 B : Option Addr} {c1 c2 m d g1 g2 : Nat} (h : Rep w a.d cs bs) (hP : Box2 w g1 (.slice A1 p.arrays.length c1) (.slice A2 p.parts.length c2)) (hT : Box1 w g2 (.slice B m d))
    (hp : Rep w p.d [.slice A1 p.arrays.length c1, .slice A2 p.parts.length c2] bs1) (hq : Rep w (ints q) [.slice B m d] bs2) (hok : arrsOk p.arrays = true) (hs : ∀ t ∈ a.subs, EvBd t q) :
    Calls Tryz.prog 184 (#[.agg cs.toArray] ++ #[.pointer (some ⟨g1, 0, none⟩), .pointer (some ⟨g2, 0, none⟩)]) w fun e w' => e = .returned (.bool (cellBad p.arrays q a)) ∧ Below w.heap.size w w' := by
  show Calls Tryz.prog 184 #[.agg cs.toArray, .pointer (some ⟨g1, 0, none⟩), .pointer (some ⟨g2, 0, none⟩)] w _
  have HH := Lib.hid h
  obtain ⟨A2', c2', d2', rfl, rfl, g1', g2'⟩ := Rep.acc_iff.1 h
  have Garr' := Lib.hid g1'
  have Gsubs' := Lib.hid g2'
  clear h g1' g2'
  have HP := Lib.hid hp; clear hp
  have HQ := Lib.hid hq; clear hq
  have HS := Lib.hid hs; clear hs
  have HOK := Lib.hid hok; clear hok
  have l1 := lt_of_cell hP.1
  have l2 := lt_of_cell hT
  obtain ⟨hP1, hP2⟩ := hP
  go_enter Tryz.func184, Tryz.ntmps184
  go_wp2_with fail
  refine (cell_c (HP.out.below bel) (HH.out.below bel) (HQ.out.below bel) HOK.out HS.out).mono ?_
  rintro e w1 ⟨rfl, b1⟩
  go_wp2
  go_ret
  exact ⟨ret_bool rfl, bel⟩
theorem stmtOk1_e : Enters Tryz.prog 184 := fun args W => by go_simp

set_option maxRecDepth 100000 in
set_option maxHeartbeats 4000000 in
theorem stmtOk_c {p : Pgm} {s : Stm} {q : List Int} {cs cs' : List Value} {B : Option Addr} {m d : Nat} (h : Rep w p.d cs bs) (h' : Rep w s.d cs' bs1) (hq : Rep w (ints q) [.slice B m d] bs2) (hok : arrsOk p.arrays = true) (hst : StB s q) :
    Calls Tryz.prog 133 #[.agg cs.toArray, .agg cs'.toArray, .slice B m d] w fun e w' => e = .returned (.bool (fineS p.arrays q s)) ∧ Below w.heap.size w w' := by
  have HX := Lib.hid (show fineS p.arrays q s = (decide (0 ≤ cellF p.arrays s.write q) && !(readsF s.value).any (cellBad p.arrays q)) from rfl)
  have HP := Lib.hid h
  obtain ⟨A1, c1, A2, c2, d1, d2, rfl, rfl, g1, g2⟩ := Rep.pgm_iff.1 h
  have Garrays := Lib.hid g1
  have Gparts := Lib.hid g2
  clear h g1 g2
  obtain ⟨A2', c2', A5', c5', A8', c8', A9', c9', d2', d5', d8', d9', rfl, rfl, g1', g2', g3', g4', g5', g6', g7', g8', g9'⟩ := Rep.stm_iff.1 h'
  have Gwrite' := Lib.hid ((Rep.acc_iff (x := s.write)).2 ⟨_, _, _, rfl, rfl, g1', g2'⟩)
  have Gvalue' := Lib.hid ((Rep.ex_iff (x := s.value)).2 ⟨_, _, _, _, _, _, _, _, _, rfl, rfl, g3', g4', g5', g6', g7', g8', g9'⟩)
  clear h' g1' g2' g3' g4' g5' g6' g7' g8' g9'
  have HQ := Lib.hid hq; clear hq
  have HOK := Lib.hid hok; clear hok
  have HST := Lib.hid hst; clear hst
  go_enter Tryz.func133, Tryz.ntmps133
  go_wp2_with fail
  refine (cell_c (HP.out.below bel) (Gwrite'.out.below bel) (HQ.out.below bel) HOK.out HST.out.w).mono ?_
  rintro e w1 ⟨rfl, b1⟩
  have P1 : Box2 w1 w.heap.size (.slice A1 p.arrays.length c1) (.slice A2 p.parts.length c2) := by
    refine ⟨?_, ?_⟩ <;> (rw [b1.cell (by simp [World.setCell]; try omega)]; go_simp)
  have M1 : Box9 w1 (w.heap.size+1) (.string s.write.arr) (.slice A2' s.write.subs.length c2') (.int .i64 s.value.kind) (.int .i64 s.value.num) (.slice A5' s.value.index.coefs.length c5') (.int .i64 s.value.index.const) (.string s.value.read.arr) (.slice A8' s.value.read.subs.length c8') (.slice A9' s.value.kids.length c9') := by
    refine ⟨?_, ?_, ?_, ?_, ?_, ?_, ?_, ?_, ?_⟩ <;> (rw [b1.cell (by simp [World.setCell]; try omega)]; go_simp)
  have T1 : Box1 w1 (w.heap.size+2) (.slice B m d) := by
    show w1.cell? _ = _; rw [b1.cell (by simp [World.setCell]; try omega)]; go_simp
  have S1 : Below w.heap.size w w1 := bel
  clear b1
  by_cases hp_ : 0 ≤ cellF p.arrays s.write q
  case neg =>
    have HF_ := Lib.hid (HX.out.trans (by rw [decide_eq_false hp_, Bool.false_and]))
    go_wp2
    go_ret
    exact ⟨ret_bool HF_.out.symm, bel⟩
  have HX1 := Lib.hid (HX.out.trans (by rw [decide_eq_true hp_, Bool.true_and])); have hdHX1 := hp_; clear hp_
  go_wp2_with fail
  refine (reads_c s.value _ _ _ HST.out.n (Gvalue'.out.below bel)).mono ?_
  rintro e w2 ⟨A9, c9, bs9, rfl, r2, hs2, hy2, b2⟩
  have s2 : Below w1.heap.size w1 w2 := bel
  have P2 := P1.to s2; clear P1
  have M2 := M1.to s2; clear M1
  have T2 := T1.to s2; clear T1
  have S2 : Below w.heap.size w w2 := below_tr S1 s2
  clear s2
  clear b2
  have R2 := Lib.hid r2; clear r2 hs2 hy2
  have HP2 := Lib.hid (HP.out.below S2)
  have HQ2 := Lib.hid (HQ.out.below S2)
  go_wp2_with fail
  refine (ContainsFunc_Access_c (p := cellBad p.arrays q) R2.out stmtOk1_e (fun x cs bs W hm hb r => stmtOk1_c r (P2.to hb) (T2.to hb) (HP2.out.below hb) (HQ2.out.below hb) HOK.out (HST.out.r x hm).2)).mono ?_
  rintro e w3 ⟨rfl, b3⟩
  have s3 : Below w2.heap.size w2 w3 := bel
  have P3 := P2.to s3; clear P2
  have M3 := M2.to s3; clear M2
  have T3 := T2.to s3; clear T2
  have S3 : Below w.heap.size w w3 := below_tr S2 s3
  clear s3
  clear b3
  go_wp2
  go_ret
  exact ⟨ret_bool HX1.out.symm, bel⟩
end
end Go.Proofs.YtbhniobgaoncaaaGreatDoor
