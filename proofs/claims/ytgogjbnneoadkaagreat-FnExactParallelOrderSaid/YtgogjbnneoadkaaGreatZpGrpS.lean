/- Groups of a part's instances as the reference takes them. -/
import Derived.Test.YtgogjbnneoadkaaGreatZpSame
set_option linter.all false
set_option linter.unusedSimpArgs false
set_option linter.unusedVariables false
namespace Go.Proofs.YtgogjbnneoadkaaGreat
open Go.ChangeShapes Go.WideShapes Go.ChangeAt Go.RowKit Go.Deep

def hasB (p : Pgm) (k m : Int) : Bool := decide (progOk p = true ∧ loopThere p k m)
theorem hasB_no {p : Pgm} {k m : Int} (h : ¬ (progOk p = true ∧ loopThere p k m)) : hasB p k m = false := decide_eq_false h
theorem hasB_yes {p : Pgm} {k m : Int} (h : progOk p = true ∧ loopThere p k m) : hasB p k m = true := decide_eq_true h
set_option maxRecDepth 100000 in
set_option maxHeartbeats 4000000 in
theorem l8Has_c {w : World} {p : Pgm} {cs : List Value} {bs : List Nat} {k m : Int} (h : Rep w p.d cs bs) :
    Calls Tryz.prog 30 #[.agg cs.toArray, .int .i64 k, .int .i64 m] w fun e w' => e = .returned (.bool (hasB p k m)) ∧ Below w.heap.size w w' := by
  have HP := Lib.hid h
  obtain ⟨A1, c1, A2, c2, d1, d2, rfl, rfl, g1, g2⟩ := Rep.pgm_iff.1 h
  have Garrays := Lib.hid g1
  have Gparts := Lib.hid g2
  clear h g1 g2
  have hn : p.parts.length ≤ 9223372036854775807 := Nat.le_trans Gparts.out.sls_len.2.1 Gparts.out.sls_len.2.2
  go_enter Tryz.func30, Tryz.ntmps30
  go_wp2_with fail
  refine (specProgramValid_c (HP.out.below bel)).mono ?_
  rintro e w1 ⟨rfl, b1⟩
  have P1 : Box2 w1 w.heap.size (.slice A1 p.arrays.length c1) (.slice A2 p.parts.length c2) := by
    refine ⟨?_, ?_⟩ <;> (rw [b1.cell (by simp [World.setCell]; try omega)]; go_simp)
  have S1 : Below w.heap.size w w1 := bel
  clear b1
  cases hv : progOk p with
  | false =>
    have HX := Lib.hid (show hasB p k m = false from hasB_no (fun hh => by rw [hv] at hh; cases hh.1))
    clear hv
    go_wp2
    go_ret
    exact ⟨ret_bool HX.out.symm, S1⟩
  | true =>
    have HV := Lib.hid hv; clear hv
    by_cases h0 : 0 ≤ k
    case neg =>
      have HX := Lib.hid (show hasB p k m = false from hasB_no (fun hh => h0 hh.2.1.1))
      go_wp2
      go_ret
      exact ⟨ret_bool HX.out.symm, S1⟩
    by_cases h1 : k < (p.parts.length : Int)
    case neg =>
      have HX := Lib.hid (show hasB p k m = false from hasB_no (fun hh => h1 hh.2.1.2))
      go_wp2
      go_ret
      exact ⟨ret_bool HX.out.symm, S1⟩
    by_cases h2 : 0 ≤ m
    case neg =>
      have HX := Lib.hid (show hasB p k m = false from hasB_no (fun hh => h2 hh.2.2.1))
      go_wp2
      go_ret
      exact ⟨ret_bool HX.out.symm, S1⟩
    obtain ⟨q, rfl⟩ := Int.eq_ofNat_of_zero_le h0
    have hq : q < p.parts.length := by omega
    have HX := Lib.hid (show hasB p (q : Int) m = decide (m < (p.parts[q].nest.length : Int)) by
      have e1 : (p.parts.getD (q : Int).toNat ⟨[], []⟩).nest.length = p.parts[q].nest.length := by simp [List.getD_eq_getElem?_getD, hq]
      refine decide_eq_decide.2 ⟨fun hh => ?_, fun hh => ⟨HV.out, ⟨h0, h1⟩, h2, ?_⟩⟩
      · have := hh.2.2.2; rwa [e1] at this
      · rw [e1]; exact hh)
    obtain ⟨be, oe, cse, le, rfl, hble, hre, _, _, hce⟩ := (Gparts.out.below S1).sls_at Prt.d_size (k := q) hq
    have Ge := Lib.hid hre
    obtain ⟨A1e, c1e, A2e, c2e, d1e, d2e, rfl, rfl, g1e, g2e⟩ := Rep.prt_iff.1 hre
    have k0e := (hce 0 _ rfl).1; rw [Nat.add_zero] at k0e
    have k1e := (hce 1 _ rfl).1
    have Q1e := Lib.hid g1e
    have Q2e := Lib.hid g2e
    clear hce hre g1e g2e
    have hn2 : p.parts[q].nest.length ≤ 9223372036854775807 := Nat.le_trans Q1e.out.sls_len.2.1 Q1e.out.sls_len.2.2
    go_wp2
    go_ret
    exact ⟨ret_bool HX.out.symm, S1⟩
/-- the call answers a new slice of integers, grown by the call -/
def GrownI (w : World) (xs : List Int) (e : Ending) (w' : World) : Prop := ∃ v, e = .returned v ∧ Grow w' w.heap.size 3 1 v (xs.map D.int) ∧ Below w.heap.size w w'
set_option maxRecDepth 100000 in
set_option maxHeartbeats 4000000 in
theorem l9Parts_c {w : World} {us : List In} {A : Option Addr} {n c : Nat} {bs : List Nat} {lo hi : Int} (h : Rep w (sls In.d us) [.slice A n c] bs) (hn : us.length ≤ 120) :
    Calls Tryz.prog 60 #[.slice A n c, .int .i64 lo, .int .i64 hi] w (GrownI w (toI (idxOf us dIn fun a => decide (lo ≤ a.part) && decide (a.part < hi)))) := by
  obtain ⟨rfl, _, _⟩ := h.sls_len
  have HI := Lib.hid h; clear h
  obtain ⟨f, hf⟩ : ∃ f : In → Bool, f = fun a => decide (lo ≤ a.part) && decide (a.part < hi) := ⟨_, rfl⟩
  have HF := Lib.hid (show ∀ a, f a = (decide (lo ≤ a.part) && decide (a.part < hi)) from fun a => by rw [hf])
  rw [← hf]
  clear hf
  go_enter Tryz.func60, Tryz.ntmps60
  go_wp2
  go_loopw [7, 8] (fun u i wr => ∃ j : Nat, j ≤ us.length ∧ i = .int .i64 j ∧ Grow wr w.heap.size 3 1 u ((toI (ixTo us f j)).map D.int) ∧ Below w.heap.size w wr) (fun _ i _ => us.length - (intOf i).toNat)
  case atStart => exact ⟨0, Nat.zero_le _, rfl, Grow.made _ _ _ (Nat.le_refl _), bel⟩
  case round =>
    obtain ⟨j, hj, rfl, hG, hb⟩ := hrel
    have HG := Lib.hid hG; clear hG
    by_cases hlt : j < us.length
    case neg =>
      have hjj : j = us.length := by omega
      subst hjj
      have HE := Lib.hid HG.out; clear HG
      go_wp2
      go_ret
      exact ⟨_, rfl, HE.out, hb⟩
    obtain ⟨Au, cu, hfu, _, _⟩ := HG.out.form
    subst hfu
    have HSN := Lib.hid (ixTo_in (f := f) hlt)
    have hxl := ixTo_len us f j
    obtain ⟨xs, hxs⟩ : ∃ xs, xs = toI (ixTo us f j) := ⟨_, rfl⟩
    have hxl2 : xs.length ≤ j := by rw [hxs, toI_len]; exact hxl
    have HXS := Lib.hid hxs
    rw [← hxs] at HG ⊢
    clear hxs
    obtain ⟨be, oe, cse, le, rfl, hble, hre, _, _, hce⟩ := (HI.out.below hb).sls_at In.d_size (k := j) hlt
    have Ge := Lib.hid hre
    obtain ⟨A3e, c3e, d3e, rfl, rfl, g1e, g2e, g3e⟩ := Rep.in_iff.1 hre
    have k0e := (hce 0 _ rfl).1; rw [Nat.add_zero] at k0e
    have k1e := (hce 1 _ rfl).1
    have k2e := (hce 2 _ rfl).1
    have Q1e := Lib.hid g1e
    have Q2e := Lib.hid g2e
    have Q3e := Lib.hid g3e
    clear hce hre g1e g2e g3e
    have hbz := hb.size
    have hI := Lib.hid (show I64 (j : Int) by unfold I64; omega)
    cases hp : f us[j] with
    | false =>
      have HS := Lib.hid (show xs = toI (ixTo us f (j + 1)) by rw [HSN.out, HXS.out, hp]; simp)
      rw [HF.out] at hp
      by_cases h1 : lo ≤ us[j].part
      case neg =>
        clear hp
        go_wp2
        go_roundw
        case rel => exact ⟨j + 1, by omega, by go_num, by rw [← HS.out]; exact HG.out, hb⟩
        case measure => simp [intOf]; omega
      by_cases h2 : us[j].part < hi
      case pos => simp [h1, h2] at hp
      clear hp
      go_wp2
      go_roundw
      case rel => exact ⟨j + 1, by omega, by go_num, by rw [← HS.out]; exact HG.out, hb⟩
      case measure => simp [intOf]; omega
    | true =>
      have HS := Lib.hid (show xs ++ [(j : Int)] = toI (ixTo us f (j + 1)) by rw [HSN.out, hp, if_pos rfl, toI_snoc, HXS.out])
      rw [HF.out, Bool.and_eq_true, decide_eq_true_iff, decide_eq_true_iff] at hp
      obtain ⟨h1, h2⟩ := hp
      go_wp2_with (
        at_builtin
        (
        refine wpList_append_more (w0 := wr) (B := w.heap.size) (xs := xs.map D.int) (ys := [D.int (j:Int)]) rfl (.tmp 32) (.tmp 34) _ rfl _ Tryz.underlying39 Tryz.infoInt rfl (by decide) rfl HG.out ?hbw rfl (one_newN (N := wr.heap.size) (show Rep _ (D.int (j:Int)) [.int .i64 (j:Int)] [] from ⟨rfl, rfl, hI.out⟩) _ (by simp [World.setCell])) ?hys ?hn ?hf ?hlen ?hba ?_
        case hbw => exact bel
        case hys => intro y hy; simp only [List.mem_singleton] at hy; rw [hy]; rfl
        case hn => simp
        case hf => simp
        case hlen => simp; omega
        case hba => exact hbz
        intro v4 w4 hG4 hg4))
      have HG4 := Lib.hid (show Grow w4 w.heap.size 3 1 v4 ((toI (ixTo us f (j + 1))).map D.int) by rw [← HS.out, List.map_append]; exact hG4)
      have S4 : Below w.heap.size w w4 := Below.trans bel (hg4.below (by simp; omega) (fun b hb => (HG.out.own_ge b hb).1))
      clear hG4 hg4
      go_wp2
      go_roundw
      case rel => exact ⟨j + 1, by omega, by go_num, HG4.out, S4⟩
      case measure => simp [intOf]; omega
def grpB (k : Int) (pre : List Int) (a : In) : Bool := decide (a.part = k) && decide (a.point.take pre.length = pre)
def grpOf (us : List In) (k : Int) (pre : List Int) : List Nat := idxOf us dIn (grpB k pre)
set_option maxRecDepth 100000 in
set_option maxHeartbeats 4000000 in
theorem l9Group_c {w : World} {us : List In} {A A' : Option Addr} {n c n' c' : Nat} {bs bs' : List Nat} {k : Int} {pre : List Int} (h : Rep w (sls In.d us) [.slice A n c] bs) (h' : Rep w (ints pre) [.slice A' n' c'] bs') (hn : us.length ≤ 120) (hl : ∀ a ∈ us, a.part = k → pre.length ≤ a.point.length) :
    Calls Tryz.prog 62 #[.slice A n c, .int .i64 k, .slice A' n' c'] w (GrownI w (toI (grpOf us k pre))) := by
  obtain ⟨rfl, _, _⟩ := h.sls_len
  obtain ⟨rfl, _, _⟩ := h'.ints_len
  have HI := Lib.hid h; clear h
  have HP := Lib.hid h'; clear h'
  have HL := Lib.hid hl; clear hl
  unfold grpOf
  obtain ⟨f, hf⟩ : ∃ f : In → Bool, f = grpB k pre := ⟨_, rfl⟩
  have HF := Lib.hid (show ∀ a, f a = (decide (a.part = k) && decide (a.point.take pre.length = pre)) from fun a => by rw [hf]; rfl)
  rw [← hf]
  clear hf
  go_enter Tryz.func62, Tryz.ntmps62
  go_wp2
  go_loopw [7, 8] (fun u i wr => ∃ j : Nat, j ≤ us.length ∧ i = .int .i64 j ∧ Grow wr w.heap.size 3 1 u ((toI (ixTo us f j)).map D.int) ∧ Below w.heap.size w wr) (fun _ i _ => us.length - (intOf i).toNat)
  case atStart => exact ⟨0, Nat.zero_le _, rfl, Grow.made _ _ _ (Nat.le_refl _), bel⟩
  case round =>
    obtain ⟨j, hj, rfl, hG, hb⟩ := hrel
    have HG := Lib.hid hG; clear hG
    by_cases hlt : j < us.length
    case neg =>
      have hjj : j = us.length := by omega
      subst hjj
      have HE := Lib.hid HG.out; clear HG
      go_wp2
      go_ret
      exact ⟨_, rfl, HE.out, hb⟩
    have HSN := Lib.hid (ixTo_in (f := f) hlt)
    have hxl := ixTo_len us f j
    obtain ⟨xs, hxs⟩ : ∃ xs, xs = toI (ixTo us f j) := ⟨_, rfl⟩
    have hxl2 : xs.length ≤ j := by rw [hxs, toI_len]; exact hxl
    have HXS := Lib.hid hxs
    rw [← hxs] at HG
    clear hxs
    obtain ⟨Au, cu, hfu, _, _⟩ := HG.out.form
    rw [List.length_map] at hfu
    subst hfu
    obtain ⟨be, oe, cse, le, rfl, hble, hre, _, _, hce⟩ := (HI.out.below hb).sls_at In.d_size (k := j) hlt
    have Ge := Lib.hid hre
    obtain ⟨A3e, c3e, d3e, rfl, rfl, g1e, g2e, g3e⟩ := Rep.in_iff.1 hre
    have k0e := (hce 0 _ rfl).1; rw [Nat.add_zero] at k0e
    have k1e := (hce 1 _ rfl).1
    have k2e := (hce 2 _ rfl).1
    have Q1e := Lib.hid g1e
    have Q2e := Lib.hid g2e
    have Q3e := Lib.hid g3e
    clear hce hre g1e g2e g3e
    have hbz := hb.size
    have hI := Lib.hid (show I64 (j : Int) by unfold I64; omega)
    by_cases h1 : us[j].part = k
    case neg =>
      have HS := Lib.hid (show xs = toI (ixTo us f (j + 1)) by rw [HSN.out, HXS.out, HF.out, decide_eq_false h1]; simp)
      have q0 : (us[j].part == k) = false := ieq_f h1
      go_wp2
      go_roundw
      case rel => exact ⟨j + 1, by omega, by go_num, by rw [← HS.out]; exact HG.out, hb⟩
      case measure => simp [intOf]; omega
    have q0 : (us[j].part == k) = true := ieq_t h1
    have hlen := HL.out _ (List.getElem_mem hlt) h1
    have hcap := Q3e.out.ints_len.2.1
    have hcm := Q3e.out.ints_len.2.2
    have HE1 := Lib.hid ((Q3e.out.ints_take (j := pre.length) hlen).choose_spec)
    have hpl := HP.out.ints_len.2.1
    have hpm := HP.out.ints_len.2.2
    go_wp2_with fail
    refine (drewB (l1Ints_c HE1.out (HP.out.below hb))).mono ?_
    rintro e w2 ⟨rfl, b2⟩
    have S2 := below_tr hb b2
    cases h2 : decide (us[j].point.take pre.length = pre) with
    | false =>
      have HS := Lib.hid (show xs = toI (ixTo us f (j + 1)) by rw [HSN.out, HXS.out, HF.out, h2]; simp)
      clear h2
      go_wp2
      go_roundw
      case rel => exact ⟨j + 1, by omega, by go_num, by rw [← HS.out]; exact HG.out.below b2, S2⟩
      case measure => simp [intOf]; omega
    | true =>
      have HS := Lib.hid (show xs ++ [(j : Int)] = toI (ixTo us f (j + 1)) by rw [HSN.out, HF.out, h2, decide_eq_true h1, Bool.and_true, if_pos rfl, toI_snoc, HXS.out])
      clear h2
      have HG0 := Lib.hid (HG.out.below b2)
      clear HG
      have HG := HG0
      have hbz := S2.size
      go_wp2_with (
        at_builtin
        (
        refine wpList_append_more (w0 := w2) (B := w.heap.size) (xs := xs.map D.int) (ys := [D.int (j:Int)]) rfl (.tmp 35) (.tmp 37) _ rfl _ Tryz.underlying39 Tryz.infoInt rfl (by decide) rfl HG.out ?hbw rfl (one_newN (N := w2.heap.size) (show Rep _ (D.int (j:Int)) [.int .i64 (j:Int)] [] from ⟨rfl, rfl, hI.out⟩) _ (by simp [World.setCell])) ?hys ?hn ?hf ?hlen ?hba ?_
        case hbw => exact bel
        case hys => intro y hy; simp only [List.mem_singleton] at hy; rw [hy]; rfl
        case hn => simp
        case hf => simp
        case hlen => simp; omega
        case hba => exact hbz
        intro v4 w4 hG4 hg4))
      have HG4 := Lib.hid (show Grow w4 w.heap.size 3 1 v4 ((toI (ixTo us f (j + 1))).map D.int) by rw [← HS.out, List.map_append]; exact hG4)
      have S4 : Below w.heap.size w w4 := Below.trans (show Below w.heap.size w _ from (S2.alloc S2.size _)) (hg4.below (by simp; omega) (fun b hb => (HG.out.own_ge b hb).1))
      clear hG4 hg4
      go_wp2
      go_roundw
      case rel => exact ⟨j + 1, by omega, by go_num, HG4.out, S4⟩
      case measure => simp [intOf]; omega
/-- v is a slice of slices that the call has made since the heap had B blocks; its elements lie in the blocks S -/
def GrowA (w : World) (B : Nat) (e : TypeId) (v : Value) (xs : List (List Int)) (S : List Nat) : Prop :=
  ∃ es cb, w.ownsRow B e 1 v xs.length es ∧ Reps w (xs.map ints) es cb ∧ ∀ y ∈ cb, y ∈ S
section
variable {P : Program} {w w' : World} {B : Nat} {e : TypeId} {v : Value} {xs : List (List Int)} {S : List Nat}
theorem GrowA.nil (w : World) (B : Nat) (e : TypeId) (S : List Nat) : GrowA w B e (.slice none 0 0) [] S := ⟨[], [], World.ownsRow_nil _ _ _ _, ⟨rfl, rfl⟩, by simp⟩
theorem GrowA.made (w : World) {B : Nat} (e : TypeId) (S : List Nat) (hB : B ≤ w.heap.size) : GrowA (w.alloc (.cells #[] e)) B e (.slice (some ⟨w.heap.size, 0, none⟩) 0 0) [] S :=
  ⟨[], [], World.ownsRow_made w #[] 0 hB (Nat.zero_le _) (by simp), ⟨rfl, rfl⟩, by simp⟩
theorem GrowA.form (h : GrowA w B e v xs S) : ∃ A c, v = .slice A xs.length c ∧ xs.length ≤ c ∧ c ≤ maxLen := by
  obtain ⟨es, cb, h1, h2, _⟩ := h
  obtain ⟨A, c, bs, rfl, h6, _⟩ := Rep.of_own (xs := xs.map ints) h1 (by simp) h2
  obtain ⟨h1, h2, h3⟩ := h6.sl_len
  exact ⟨A, c, rfl, h2, h3⟩
theorem GrowA.rep (h : GrowA w B e v xs S) : ∃ A c bs, v = .slice A xs.length c ∧ Rep w (sls ints xs) [.slice A xs.length c] bs ∧ ∀ y ∈ bs, y ∈ S ∨ (B ≤ y ∧ v.ownBlock = some y) := by
  obtain ⟨es, cb, h1, h2, h3⟩ := h
  obtain ⟨A, c, bs, rfl, h6, h7⟩ := Rep.of_own (xs := xs.map ints) h1 (by simp) h2
  refine ⟨A, c, bs, rfl, h6, ?_⟩
  rcases h7 with ⟨_, rfl⟩ | ⟨g, rfl, hg, hgo⟩
  · simp
  · intro y hy
    rcases List.mem_cons.1 hy with rfl | hy
    · exact .inr ⟨hg, hgo⟩
    · exact .inl (h3 y hy)
theorem GrowA.own_ge (h : GrowA w B e v xs S) : ∀ b, v.ownBlock = some b → B ≤ b ∧ b < w.heap.size := by
  obtain ⟨es, cb, h1, _⟩ := h
  exact fun b hb => own_lt' h1 hb
theorem GrowA.keep (h : GrowA w B e v xs S) (hs : w.heap.size ≤ w'.heap.size) (h1 : ∀ g, v.ownBlock = some g → w'.heap[g]? = w.heap[g]?) (h2 : ∀ y ∈ S, y < w.heap.size → w'.heap[y]? = w.heap[y]?) : GrowA w' B e v xs S := by
  obtain ⟨es, cb, q1, q2, q3⟩ := h
  exact ⟨es, cb, own_kept1 q1 h1, Reps.keep _ q2 ⟨hs, fun y hy => h2 y (q3 y hy) (Reps.lt _ q2 y hy)⟩, q3⟩
theorem GrowA.below (h : GrowA w B e v xs S) (hb : Below w.heap.size w w') : GrowA w' B e v xs S :=
  h.keep hb.size (fun g hg => hb.block g (h.own_ge g hg).2) (fun y _ hl => hb.block y hl)
theorem wpList_append_A {ops : Array Oper} {rest : List Oper} {o : Oper} {a : Act} {Q : Exit → Act → World → Prop} (hgd : o.guard = none) (s x : Operand) (t : TypeId)
    (ho : o.op = .call { callee := .builtin .append, args := #[s, x], argTypes := #[t, t] })
    (z : Value) (ht : P.underlying t = some (.slice e)) (hinfo : (P.info? e).map (fun i => (i.zero, i.size, decide (i.bytes ≤ 1024))) = some (some z, 1, true)) (hzs : z.cells.size = 1) (hs : a.eval s = v) (hG : GrowA w B e v xs S) {g0 : Nat} {A : Option Addr} {n c : Nat} {x0 : List Int} {bx : List Nat}
    (hx : a.eval x = .slice (some ⟨g0, 0, none⟩) 1 1) (hcell : w.cell? ⟨g0, 0, none⟩ = some (.slice A n c)) (hr : Rep w (ints x0) [.slice A n c] bx) (hbx : ∀ y ∈ bx, y ∈ S) (hS : ∀ y ∈ S, y < B) (h63 : xs.length + 1 ≤ 1000000000) (hbase : B ≤ w.heap.size)
    (h : ∀ v' w', GrowA w' B e v' (xs ++ [x0]) S → Grew w w' v v' → wpList P ops Q rest (a.put o.dst v') w') : wpList P ops Q (o :: rest) a w := by
  obtain ⟨es, cb, q1, q2, q3⟩ := hG
  refine wpList_plain hgd fun K hK => wp_append_es s x t ho z ht hinfo hzs hs q1 hx hcell rfl h63 hbase fun v' w' h5 h6 => hK _ _ (h v' w' ⟨es ++ [.slice A n c], cb ++ bx, by simpa using h5, ?_, ?_⟩ h6)
  · have keep : ∀ y, y ∈ S → y < w.heap.size → w'.heap[y]? = w.heap[y]? := fun y hy hl => h6.touch.block y hl fun hm => by
      have := (own_ltL q1 y hm).1; have := hS y hy; omega
    rw [List.map_append]
    exact (Reps_append _ _).2 ⟨es, [.slice A n c], cb, bx, rfl, rfl, Reps.keep _ q2 ⟨h6.touch.size, fun y hy => keep y (q3 y hy) (Reps.lt _ q2 y hy)⟩, [.slice A n c], [], bx, [], rfl, by simp, Rep.keep _ hr ⟨h6.touch.size, fun y hy => keep y (hbx y hy) (Rep.lt _ hr y hy)⟩, rfl, rfl⟩
  · intro y hy
    rcases List.mem_append.1 hy with hy | hy
    · exact q3 y hy
    · exact hbx y hy
end
theorem Rep.ints_takeS {w : World} {A : Option Addr} {n c : Nat} {bs : List Nat} {xs : List Int} (h : Rep w (ints xs) [.slice A n c] bs) {j : Nat} (hj : j ≤ xs.length) : ∃ bs', Rep w (ints (xs.take j)) [.slice A j c] bs' ∧ ∀ y ∈ bs', y ∈ bs := by
  rcases Nat.eq_zero_or_pos j with h0 | h0
  · subst h0; exact ⟨[], Rep.ints_nil h.ints_len.2.2, by simp⟩
  · obtain ⟨bs', h2⟩ := h.ints_take hj
    refine ⟨bs', h2, ?_⟩
    obtain ⟨b1, o1, e1, r1, _⟩ := h.ints_at (k := 0) (by omega)
    obtain ⟨b2, o2, e2, r2, _⟩ := h2.ints_at (k := 0) (by rw [List.length_take]; omega)
    rw [e1] at e2
    simp only [Option.some.injEq, Addr.mk.injEq] at e2
    rw [r1, r2, e2.1]
    exact fun y hy => hy
/-- the last element in place -/
theorem GrowA.last {w : World} {B : Nat} {e : TypeId} {v : Value} {xs : List (List Int)} {x : List Int} {S : List Nat} (h : GrowA w B e v (xs ++ [x]) S) : ∃ b o c A c1 bx, v = .slice (some ⟨b, o, none⟩) (xs.length + 1) c ∧ w.cell? ⟨b, o + xs.length, none⟩ = some (.slice A x.length c1) ∧ b < w.heap.size ∧ Rep w (ints x) [.slice A x.length c1] bx := by
  obtain ⟨A, c, bs, rfl, h1, _⟩ := h.rep
  obtain ⟨b, o, cs, l, rfl, hb, hr, _, _, hc⟩ := h1.sls_at (s := 1) (fun _ => rfl) (k := xs.length) (by simp)
  have e1 : (xs ++ [x])[xs.length]'(by simp) = x := by simp
  rw [e1] at hr
  obtain ⟨A1, c1, rfl⟩ := hr.ints_form1
  refine ⟨b, o, c, A1, c1, l, by rw [List.length_append, List.length_singleton], ?_, hb, hr⟩
  have := (hc 0 _ rfl).1
  rwa [Nat.add_zero, Nat.mul_one] at this
theorem toI_get {ix : List Nat} {j : Nat} (h : j < ix.length) : gi (toI ix) j = (ix[j] : Int) := by
  rw [gi_eq (by rw [toI_len]; exact h)]
  simp [toI]
set_option maxRecDepth 100000 in
set_option maxHeartbeats 8000000 in
theorem l9Heads_c {w : World} {us : List In} {ix : List Nat} {A A' : Option Addr} {n c n' c' m : Nat} {bs bs' : List Nat} (h : Rep w (sls In.d us) [.slice A n c] bs) (h' : Rep w (ints (toI ix)) [.slice A' n' c'] bs') (hn : us.length ≤ 120) (hl : ix.length ≤ 120) (hi : ∀ i ∈ ix, ∃ hlt : i < us.length, m ≤ us[i].point.length) :
    Calls Tryz.prog 61 #[.slice A n c, .slice A' n' c', .int .i64 (m : Int)] w fun e w' => ∃ A n c bs2, e = .returned (.slice A n c) ∧ Rep w' (sls ints (headsK (ptK us m) ix)) [.slice A n c] bs2 ∧ (∀ y ∈ bs2, y ∈ bs ∨ w.heap.size ≤ y) ∧ Below w.heap.size w w' := by
  obtain ⟨rfl, _, _⟩ := h.sls_len
  have hlx := h'.ints_len.1
  rw [toI_len] at hlx
  subst hlx
  have HI := Lib.hid h
  have HP := Lib.hid h'; clear h'
  have HX := Lib.hid hi; clear hi
  have HBS := Lib.hid (Rep.lt _ h); clear h
  go_enter Tryz.func61, Tryz.ntmps61
  go_wp2
  go_loopw [7, 8] (fun u i wr => ∃ j : Nat, j ≤ ix.length ∧ i = .int .i64 j ∧ GrowA wr w.heap.size 39 u (headsK (ptK us m) (ix.take j)) bs ∧ Below w.heap.size w wr) (fun _ i _ => ix.length - (intOf i).toNat)
  case atStart => exact ⟨0, Nat.zero_le _, rfl, GrowA.made _ _ _ (Nat.le_refl _), bel⟩
  case round =>
    obtain ⟨j, hj, rfl, hG, hb⟩ := hrel
    have HG := Lib.hid hG; clear hG
    by_cases hlt : j < ix.length
    case neg =>
      have hjj : j = ix.length := by omega
      subst hjj
      rw [List.take_length] at HG
      obtain ⟨A6, c6, b6, he, h1, h2⟩ := HG.out.rep
      have HE := Lib.hid h1; clear h1
      go_wp2
      go_ret
      exact ⟨A6, _, c6, b6, congrArg Ending.returned he, HE.out, fun y hy => (h2 y hy).imp id (fun h => h.1), hb⟩
    have hql := headsK_len (ptK us m) (ix.take j)
    rw [List.length_take] at hql
    have HSN := Lib.hid (show headsK (ptK us m) (ix.take (j + 1)) = _ by rw [List.take_succ_eq_append_getElem hlt, headsK_snoc])
    obtain ⟨bg, og, hAg, _, hlg, hcg, _⟩ := (HP.out.below hb).ints_at (k := j) (by rw [toI_len]; exact hlt)
    subst hAg
    rw [toI_get hlt] at hcg
    obtain ⟨hil, hmp⟩ := HX.out _ (List.getElem_mem hlt)
    obtain ⟨i, hie⟩ : ∃ i, i = ix[j] := ⟨_, rfl⟩
    have hil2 : i < us.length := by rw [hie]; exact hil
    have hmp2 : m ≤ us[i].point.length := by subst hie; exact hmp
    rw [← hie] at hcg HSN
    clear hil hmp hie
    obtain ⟨be, oe, cse, le, rfl, hble, hre, _, hmme, hce⟩ := (HI.out.below hb).sls_at In.d_size (k := i) hil2
    have HMe := Lib.hid hmme; clear hmme
    have Ge := Lib.hid hre
    obtain ⟨A3e, c3e, d3e, rfl, rfl, g1e, g2e, g3e⟩ := Rep.in_iff.1 hre
    have k0e := (hce 0 _ rfl).1; rw [Nat.add_zero] at k0e
    have k1e := (hce 1 _ rfl).1
    have k2e := (hce 2 _ rfl).1
    have Q1e := Lib.hid g1e
    have Q2e := Lib.hid g2e
    have Q3e := Lib.hid g3e
    clear hce hre g1e g2e g3e
    have hcap := Q3e.out.ints_len.2.1
    have hcm := Q3e.out.ints_len.2.2
    obtain ⟨bx, hbx1, hbx2⟩ := Q3e.out.ints_takeS (j := m) hmp2
    have HE1 := Lib.hid hbx1
    have HBX := Lib.hid (show ∀ y ∈ bx, y ∈ bs from fun y hy => HMe.out y (hbx2 y hy))
    have hkey := ptK_eq hil2 m
    rw [hkey] at HSN
    obtain ⟨q, hq⟩ : ∃ q, q = us[i].point.take m := ⟨_, rfl⟩
    rw [← hq] at HSN HE1
    have hqm : q.length = m := by rw [hq, List.length_take]; omega
    clear hkey hq hbx1 hbx2
    have hbz := hb.size
    obtain ⟨hs, hhs⟩ : ∃ hs, hs = headsK (ptK us m) (ix.take j) := ⟨_, rfl⟩
    rw [← hhs] at HSN HG hql
    clear hhs
    rcases List.eq_nil_or_concat hs with h0 | ⟨ys, y, h0⟩
    · have HS := Lib.hid (show headsK (ptK us m) (ix.take (j + 1)) = [] ++ [q] by rw [HSN.out, h0]; rfl)
      rw [h0] at HG
      clear h0
      obtain ⟨Au, cu, hfu, _, _⟩ := HG.out.form
      subst hfu
      go_wp2_with (
        at_builtin
        (
        refine wpList_append_A (x0 := q) rfl (.tmp 41) (.tmp 43) _ rfl _ Tryz.underlying91 Tryz.infoInts rfl rfl (HG.out.below ?hbw) rfl (by go_simp) (HE1.out.below ?hbw2) HBX.out HBS.out ?hlen ?hba ?_
        case hbw => exact bel
        case hbw2 => exact bel
        case hlen => first | omega | (simp; omega) | simp
        case hba => first | omega | (simp [World.setCell]; omega) | simp
        intro v4 w4 hG4 hg4))
      have S4 : Below w.heap.size w w4 := Below.trans (show Below w.heap.size w _ from bel) (hg4.below (by simp; omega) (fun b hb => (GrowA.own_ge HG.out b hb).1))
      have HG4 := Lib.hid hG4
      clear hG4 hg4
      go_wp2
      go_roundw
      case rel => exact ⟨j + 1, by omega, by go_num, by rw [HS.out]; exact HG4.out, S4⟩
      case measure => simp [intOf]; omega
    · rw [List.concat_eq_append] at h0
      have hlast : hs.getLast? = some y := by rw [h0]; simp
      have HS0 := Lib.hid (show y = q → headsK (ptK us m) (ix.take (j + 1)) = ys ++ [y] from fun e => by rw [HSN.out, hlast, e, if_pos rfl, h0, e])
      have HS1 := Lib.hid (show y ≠ q → headsK (ptK us m) (ix.take (j + 1)) = (ys ++ [y]) ++ [q] from fun e => by rw [HSN.out, hlast, if_neg (fun h => e (Option.some.inj h)), h0])
      rw [h0] at HG hql
      rw [List.length_append, List.length_singleton] at hql
      clear h0 hlast HSN
      obtain ⟨bl, ol, cl, Al, c1l, bxl, hvl, hcl, hbl, hrl⟩ := HG.out.last
      subst hvl
      have HRL := Lib.hid hrl; clear hrl
      go_wp2_with fail
      refine (drewB (l1Ints_c HRL.out HE1.out)).mono ?_
      rintro e w2 ⟨rfl, b2⟩
      have S2 := below_tr hb b2
      have HG2 := Lib.hid (HG.out.below b2)
      have HE2 := Lib.hid (HE1.out.below b2)
      have hz2 := S2.size
      clear HE1
      have HE1 := HE2
      by_cases hyq : y = q
      · have HS := Lib.hid (HS0.out hyq)
        have hd : decide (y = q) = true := decide_eq_true hyq
        rw [hd]
        clear hyq hd
        go_wp2
        go_roundw
        case rel => exact ⟨j + 1, by omega, by go_num, by rw [HS.out]; exact HG2.out, S2⟩
        case measure => simp [intOf]; omega
      · have HS := Lib.hid (HS1.out hyq)
        have hd : decide (y = q) = false := decide_eq_false hyq
        rw [hd]
        clear hyq hd
        go_wp2_with (
          at_builtin
          (
          refine wpList_append_A (x0 := q) rfl (.tmp 41) (.tmp 43) _ rfl _ Tryz.underlying91 Tryz.infoInts rfl rfl (HG2.out.below ?hbw) rfl (by go_simp) (HE1.out.below ?hbw2) HBX.out HBS.out ?hlen ?hba ?_
          case hbw => exact bel
          case hbw2 => exact bel
          case hlen => first | omega | (simp; omega) | simp
          case hba => first | omega | (simp [World.setCell]; omega) | simp
          intro v4 w4 hG4 hg4))
        have S4 : Below w.heap.size w w4 := Below.trans (show Below w.heap.size w _ from bel) (hg4.below (by simp; omega) (fun b hb => (GrowA.own_ge HG2.out b hb).1))
        have HG4 := Lib.hid hG4
        clear hG4 hg4
        go_wp2
        go_roundw
        case rel => exact ⟨j + 1, by omega, by go_num, by rw [HS.out]; exact HG4.out, S4⟩
        case measure => simp [intOf]; omega
end Go.Proofs.YtgogjbnneoadkaaGreat
