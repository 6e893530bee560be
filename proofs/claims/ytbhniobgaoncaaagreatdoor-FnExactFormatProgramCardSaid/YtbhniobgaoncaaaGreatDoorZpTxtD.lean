/- The program's text of a list of affine expressions. -/
import Derived.Test.YtbhniobgaoncaaaGreatDoorZpTxtC
import Derived.Test.YtbhniobgaoncaaaGreatDoorZpBasic
import Derived.Lib.Join
set_option linter.all false
set_option linter.unusedSimpArgs false
set_option linter.unusedVariables false
namespace Go.Proofs.YtbhniobgaoncaaaGreatDoor
open Go.ChangeShapes Go.WideShapes Go.ChangeAt Go.RowKit Go.Deep

theorem affOk_bds {a : Aff} (h : affOk a = true) : a.coefs.length ≤ 4 ∧ (∀ v, (gi a.coefs v).natAbs < 100) ∧ a.const.natAbs < 100 := by
  unfold affOk at h
  simp only [Bool.and_eq_true, decide_eq_true_iff, Bool.not_eq_true'] at h
  obtain ⟨⟨h4, hk⟩, hb⟩ := h
  have hk2 := inB_iff.1 hk
  refine ⟨by omega, fun v => ?_, by have : -99 ≤ a.const ∧ a.const ≤ 99 := hk2; omega⟩
  rcases Nat.lt_or_ge v a.coefs.length with hv | hv
  · have h1 : coefBad a.coefs[v] = false := by
      cases e : coefBad a.coefs[v] with
      | false => rfl
      | true => rw [List.any_eq_true.2 ⟨_, List.getElem_mem hv, e⟩] at hb; cases hb
    unfold coefBad at h1
    have h2 := inB_iff.1 (show inB a.coefs[v] (-9) 9 = true by simpa using h1)
    have h3 : gi a.coefs v = a.coefs[v] := by simp [gi, List.getD_eq_getElem?_getD, hv]
    rw [h3]; omega
  · have h3 : gi a.coefs v = 0 := by simp [gi, List.getD_eq_getElem?_getD, hv]
    rw [h3]; simp
end Go.Proofs.YtbhniobgaoncaaaGreatDoor
set_option linter.all false
set_option linter.unusedSimpArgs false
set_option linter.unusedVariables false
namespace Go.Proofs.YtbhniobgaoncaaaGreatDoor
open Go.ChangeShapes Go.WideShapes Go.ChangeAt Go.RowKit Go.Deep

theorem Reps_strs {w : World} : (ss : List ByteArray) → {es : List Value} → {cb : List Nat} → Reps w (ss.map D.str) es cb → es = ss.map Value.string
  | [], _, _, h => h.1
  | s :: ss, _, _, h => by
    obtain ⟨c1, c2, b1, b2, rfl, _, ⟨h1, _, _⟩, h2⟩ := h
    rw [h1, Reps_strs ss h2]; rfl
/-- the cells from o on of the block b hold the texts -/
def SRow (w : World) (b o : Nat) (ss : List ByteArray) : Prop := (∀ (j : Nat) x, ss[j]? = some x → w.cell? ⟨b, o + j, none⟩ = some (.string x)) ∧ b < w.heap.size
theorem Grow.strs {w : World} {B : Nat} {e : TypeId} {v : Value} {ss : List ByteArray} (h : Grow w B e 1 v (ss.map D.str)) :
    ∃ A c, v = .slice A ss.length c ∧ ss.length ≤ c ∧ (ss = [] ∨ ∃ b, B ≤ b ∧ A = some ⟨b, 0, none⟩ ∧ SRow w b 0 ss) := by
  obtain ⟨A, c, bs, hv, hr, _, hB⟩ := h.rep
  obtain ⟨A', c', es, cb, hcs, hc, _, hrs, h0⟩ := hr
  simp only [List.cons.injEq, Value.slice.injEq, and_true, List.length_map] at hcs
  obtain ⟨rfl, rfl⟩ : A = A' ∧ c = c' := ⟨hcs.1, hcs.2.2⟩
  simp only [List.length_map] at hv hc
  refine ⟨A, c, hv, hc, ?_⟩
  rcases h0 with ⟨hx, _⟩ | ⟨b, o, hA, hbs, hlt, hcell⟩
  · exact .inl (List.map_eq_nil_iff.1 hx)
  · have ho : o = 0 := by
      obtain ⟨es2, cb2, hown, _⟩ := h
      subst hA hv
      rcases hown.2 with ⟨h1, _⟩ | ⟨g, cap, cur, h1, _⟩
      · cases h1
      · simp only [Value.slice.injEq, Option.some.injEq, Addr.mk.injEq] at h1; omega
    subst ho
    refine .inr ⟨b, hB b (by rw [hbs]; exact List.mem_cons_self), hA, fun j x hx => ?_, hlt⟩
    rw [Reps_strs ss hrs] at hcell
    exact (hcell j (.string x) (by rw [List.getElem?_map, hx]; rfl)).1
theorem one_str (w : World) {s : ByteArray} (h : s.size ≤ maxLen) (t : TypeId) : Rep (w.alloc (.cells #[.string s] t)) (.sl [D.str s]) [.slice (some ⟨w.heap.size, 0, none⟩) 1 1] [w.heap.size] :=
  one_new w (d := D.str s) (cells := [.string s]) (b := []) ⟨rfl, rfl, h⟩ t
theorem Tryz.infoStr : (Tryz.prog.info? 9).map (fun i => (i.zero, i.size, decide (i.bytes ≤ 1024))) = some (some (.string ⟨#[]⟩), 1, true) := by kernel_rfl

/-- texts of expressions, joined -/
theorem join_side : ∀ al : List Aff, Lib.join (al.map affI) [44] = sideL al
  | [] => rfl
  | [a] => by rw [List.map_cons, List.map_nil, Lib.join_one]; rfl
  | a :: b :: l => by
    have ih := join_side (b :: l)
    rw [List.map_cons, Lib.join_cons] at ih ⊢
    rw [sideL, ← ih, List.map_cons]
    simp [Lib.joinTail]
theorem sideL_len : ∀ {al : List Aff}, (∀ a ∈ al, affOk a = true) → (sideL al).length ≤ 24 * al.length
  | [], _ => by simp [sideL]
  | [a], h => by have := affI_len (affOk_bds (h a (by simp))).1; simp only [sideL, List.length_singleton]; omega
  | a :: b :: l, h => by
    have h1 := affI_len (affOk_bds (h a (by simp))).1
    have h2 := sideL_len (al := b :: l) fun x hx => h x (List.mem_cons_of_mem _ hx)
    simp only [sideL, List.length_append, List.length_cons] at h2 ⊢; omega
set_option maxRecDepth 100000 in
set_option maxHeartbeats 4000000 in
theorem affinesText_c {xs : List Aff} {w : World} {A : Option Addr} {n c : Nat} {bs : List Nat} (h : Rep w (sls Aff.d xs) [.slice A n c] bs) (hl : xs.length ≤ 4) (hs : ∀ a ∈ xs, affOk a = true) :
    Calls Tryz.prog 88 #[.slice A n c] w fun e w' => e = .returned (.string (strOf (sideL xs))) ∧ Below w.heap.size w w' := by
  obtain ⟨rfl, h2, h3⟩ := h.sls_len
  have hn : xs.length ≤ 9223372036854775807 := Nat.le_trans h2 h3
  have H := Lib.hid h; clear h h2 h3
  have HS := Lib.hid hs; clear hs
  go_enter Tryz.func88, Tryz.ntmps88
  go_wp2
  go_loopw [3, 8] (fun u i wr => ∃ j : Nat, j ≤ xs.length ∧ i = .int .i64 j ∧ Grow wr w.heap.size 9 1 u (((xs.take j).map fun a => strOf (affI a)).map D.str) ∧ Below w.heap.size w wr) (fun _ i _ => xs.length - (intOf i).toNat)
  case atStart => exact ⟨0, Nat.zero_le _, rfl, Grow.nil _ _ _ _, Below.refl _ _⟩
  case round =>
    obtain ⟨j, hj, rfl, hG, hb⟩ := hrel
    have HG := Lib.hid hG; clear hG
    by_cases hlt : j < xs.length
    · have HT := Lib.hid (show ((xs.take (j + 1)).map fun a => strOf (affI a)).map D.str = ((xs.take j).map fun a => strOf (affI a)).map D.str ++ [D.str (strOf (affI xs[j]))] by rw [List.take_succ_eq_append_getElem hlt, List.map_append, List.map_append]; rfl)
      have HX := Lib.hid (affOk_bds (HS.out _ (List.getElem_mem hlt)))
      have HZ := Lib.hid (show (strOf (affI xs[j])).size ≤ maxLen by rw [strOf_size]; have := affI_len HX.out.1; unfold maxLen; omega)
      obtain ⟨b, o, cs, l, rfl, hbl, hr, _, _, hc⟩ := (H.out.below hb).sls_at Aff.d_size (k := j) hlt
      have G := Lib.hid hr
      obtain ⟨A1, c1, d1, rfl, rfl, g1, g2⟩ := Rep.aff_iff2.1 hr
      have k0 := (hc 0 _ rfl).1; rw [Nat.add_zero] at k0
      have k1 := (hc 1 _ rfl).1
      clear hc hr g1 g2
      go_wp2_with fail
      refine (affineText_c (G.out.below bel) HX.out.1 HX.out.2.1 HX.out.2.2).mono ?_
      rintro e w1 ⟨rfl, b1⟩
      have S1 : Below wr.heap.size wr w1 := bel
      clear b1
      have hG1 := HG.out.below S1
      go_wp2_with (
        at_builtin
        refine wpList_append_more (w0 := w1) (B := w.heap.size) (xs := ((xs.take j).map fun a => strOf (affI a)).map D.str) (ys := [D.str (strOf (affI xs[j]))]) rfl (.tmp 12) (.tmp 15) _ rfl _ Tryz.underlying75 Tryz.infoStr rfl (by decide) rfl hG1 ?hbw rfl (one_str _ HZ.out _) ?hys ?hn ?hf ?hlen ?hba ?_
        case hbw => exact bel
        case hys => intro y hy; simp only [List.mem_singleton] at hy; rw [hy]; rfl
        case hn => simp
        case hf => simp
        case hlen => (simp only [List.length_map, List.length_take, List.length_singleton]; try omega)
        case hba => exact Nat.le_trans hb.size S1.size
        intro v' w4 hG4 hg4)
      rw [← HT.out] at hG4
      have S4 : Below w.heap.size w w4 := ((below_tr hb S1).alloc (Nat.le_trans hb.size S1.size) _).trans (hg4.below (Nat.le_trans (Nat.le_trans hb.size S1.size) (by simp)) (fun b hb => (hG1.own_ge b hb).1))
      have HG4 := Lib.hid hG4
      clear HG hG1 hG4 hg4
      go_wp2
      go_roundw
      case rel => exact ⟨j + 1, by omega, by go_num, HG4.out, S4⟩
      case measure => simp [intOf]; omega
    · have hjj : j = xs.length := by omega
      subst hjj
      have hg := HG.out; clear HG
      rw [List.take_length] at hg
      obtain ⟨Au, cu, hfu, hcu, hrow⟩ := hg.strs
      rw [List.length_map] at hfu hcu
      subst hfu
      have HL := Lib.hid (sideL_len HS.out)
      have HJ := Lib.hid (show Lib.join (((xs.map fun a => strOf (affI a))).map (·.data.toList)) [44] = sideL xs by
        rw [List.map_map, ← join_side]; congr 1)
      clear hg
      rcases hrow with hnil | ⟨b, hB, rfl, hrow⟩
      · have hx : xs = [] := List.map_eq_nil_iff.1 hnil
        subst hx
        have HJN := Lib.hid (show Calls Tryz.prog 148 #[.slice Au 0 cu, .string ⟨#[44]⟩] wr fun e w' => e = .returned (.string ⟨#[]⟩) ∧ w' = wr from sh_strings_Join_none Au cu _ wr)
        go_wp2_with fail
        refine HJN.out.mono ?_
        rintro e w1 ⟨rfl, rfl⟩
        go_wp2
        go_ret
        exact ⟨rfl, hb⟩
      · have HJN := sh_strings_Join b 0 cu (xs.map fun a => strOf (affI a)) ⟨#[44]⟩ wr hrow.1 hrow.2 (by rw [List.length_map]; omega) (by rw [List.length_map]; omega) (by
          show (Lib.join _ [44]).length ≤ _
          rw [HJ.out]; have := HL.out; omega)
        rw [List.length_map, show (⟨#[44]⟩ : ByteArray).data.toList = [44] from rfl, HJ.out] at HJN
        have HJN2 := Lib.hid HJN; clear HJN hrow
        go_wp2_with fail
        refine HJN2.out.mono ?_
        rintro e w1 ⟨rfl, b1⟩
        go_wp2
        go_ret
        exact ⟨rfl, below_tr hb b1⟩
end Go.Proofs.YtbhniobgaoncaaaGreatDoor
