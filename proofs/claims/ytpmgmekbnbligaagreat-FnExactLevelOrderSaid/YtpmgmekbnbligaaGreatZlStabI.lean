/- The steps of slices.SortStableFunc on a row of numbers: insertion. -/
import Derived.Test.YtpmgmekbnbligaaGreatZlStabS
import Derived.Deep.QuietTactic
set_option linter.all false
set_option linter.unusedSimpArgs false
set_option linter.unusedVariables false
namespace Go.Proofs.YtpmgmekbnbligaaGreat
open Go.ChangeShapes Go.WideShapes Go.ChangeAt Go.RowKit Go.Deep

/-- the function handed in, at whatever draws on -/
theorem CmpI.at_ {P : Program} {f : FuncId} {cv : Value} {key : Int → Int} {W0 w : World} {g n : Nat} (h : CmpI P f cv key W0 g n) (hw : Touch [g] W0 w) {x y : Int} (hx : 0 ≤ x ∧ x < (n : Int)) (hy : 0 ≤ y ∧ y < (n : Int)) (m : Nat) :
    Calls P f #[.int .i64 x, .int .i64 y, cv] (w.drewN m) fun e w' => e = .returned (.int .i64 (key x - key y)) ∧ ∃ q, w' = (w.drewN m).drewN q := h _ x y (hw.drewN m) hx hy

set_option maxRecDepth 100000 in
set_option maxHeartbeats 4000000 in
theorem insertion_c {w W0 : World} {g t n c a b N : Nat} {cv : Value} {key : Int → Int} {xs : List Int} (h : RowI w g t xs) (hn : xs.length = n) (hab : a ≤ b) (hb : b ≤ n) (hl : n ≤ 1000000) (hup : Up a b xs) (hall : AllIn N xs) (hw : Touch [g] W0 w)
    (hc : CmpI Tryz.prog 27 cv key W0 g N) :
    Calls Tryz.prog 71 #[.slice (some ⟨g, 0, none⟩) n c, .int .i64 a, .int .i64 b, .func (.func 27) #[] #[cv]] w fun e w' => e = .returned (.tuple #[]) ∧ ∃ ys, RowI w' g t ys ∧ Tr a b xs ys ∧ Srt key a b ys ∧ Touch [g] w w' := by
  have HR := Lib.hid h; clear h
  have HN := Lib.hid hn; clear hn
  have HU := Lib.hid hup; clear hup
  have HA := Lib.hid hall; clear hall
  have HW := Lib.hid hw; clear hw
  have HC := Lib.hid hc; clear hc
  go_enter Tryz.func71, Tryz.ntmps71
  go_wp2
  go_loopw [8] (fun u wr => ∃ (i : Nat) (ys : List Int), u = .int .i64 i ∧ a + 1 ≤ i ∧ (i ≤ b ∨ (i = a + 1 ∧ ys = xs)) ∧ RowI wr g t ys ∧ Tr a i xs ys ∧ Srt key a i ys ∧ Touch [g] w wr) (fun u _ => b - (intOf u).toNat)
  case atStart => exact ⟨a + 1, xs, by go_num, Nat.le_refl _, .inr ⟨rfl, rfl⟩, HR.out, Tr.refl _ _ _, Srt.nil (Nat.le_refl _), Touch.refl _ _⟩
  case round =>
    obtain ⟨i, ys, rfl, hi, hib, hR, hX, hS, hT⟩ := hrel
    have HRr := Lib.hid hR
    have HX := Lib.hid hX
    have HS := Lib.hid hS
    have HT := Lib.hid hT
    clear hR hX hS hT HR
    by_cases hlt : i < b
    · have hcut : Cut a i (i + 1) ys := fun p q h1 h2 h3 h4 => by
        have : q = i := by omega
        subst this
        obtain ⟨p', h5, h6, h7⟩ := HX.out.ins p h1 h2
        rw [h7, HX.out.out q (.inr (Nat.le_refl _))]
        exact HU.out p' q h5 h6 hlt
      have HI0 := Lib.hid (InsI.start HS.out hcut); clear hcut
      have hltz : (i : Int) < (b : Int) := by omega
      obtain ⟨wo, hwo⟩ : ∃ wo, wo = wr := ⟨_, rfl⟩
      rw [← hwo] at HRr HT ⊢
      clear hwo
      go_wp2
      go_loopw [9] (fun u wr => ∃ (j : Nat) (yj : List Int), u = .int .i64 j ∧ a ≤ j ∧ j ≤ i ∧ RowI wr g t yj ∧ Tr a (i + 1) ys yj ∧ InsI key a i j (gi ys i) yj ∧ Touch [g] w wr) (fun u _ => (intOf u).toNat)
      case atStart => exact ⟨i, ys, rfl, by omega, Nat.le_refl _, HRr.out, Tr.refl _ _ _, HI0.out, HT.out⟩
      case round =>
        obtain ⟨j, yj, rfl, haj, hji, hRj, hXj, hIj, hTj⟩ := hrel
        have hyl : yj.length = n := hXj.len.trans (HX.out.len.trans HN.out)
        have hal := HA.out.perm (hXj.perm.trans HX.out.perm)
        have HXj := Lib.hid hXj
        have HIj := Lib.hid hIj
        have HTj := Lib.hid hTj
        have HRj := Lib.hid hRj
        clear hXj hIj hTj hRj HRr HT HI0
        by_cases hja : a < j
        · have hjaz : (a : Int) < (j : Int) := by omega
          obtain ⟨jp, rfl⟩ : ∃ jp, j = jp + 1 := ⟨j - 1, by omega⟩
          have hwp : IntKind.i64.wrap (jp : Int) = (jp : Int) := by rw [IntKind.wrap_i64]; omega
          have jz : (jp : Int) + 1 < (n : Int) := by omega
          have jz1 : (jp : Int) < (n : Int) := by omega
          have hjaz' : (a : Int) < (jp : Int) + 1 := by omega
          have p0 : (0 : Int) ≤ (jp : Int) + 1 := by omega
          have e0 : ((jp : Int) + 1).toNat = jp + 1 := by omega
          have cj := HRj.out.cell (i := jp + 1) (by omega)
          have cp := HRj.out.cell (i := jp) (by omega)
          have fj := HRj.out.frozen (jp + 1)
          have fp := HRj.out.frozen jp
          have hk := fun m => HC.out.at_ (HW.out.trans HTj.out) (hal.gi (i := jp + 1) (by omega)) (hal.gi (i := jp) (by omega)) m
          have HY := Lib.hid hyl
          clear hyl hal
          obtain ⟨x, hx⟩ : ∃ x, x = gi yj (jp + 1) := ⟨_, rfl⟩
          obtain ⟨y, hy⟩ : ∃ y, y = gi yj jp := ⟨_, rfl⟩
          rw [← hx] at cj hk
          rw [← hy] at cp hk
          have HXV := Lib.hid hx
          have HYV := Lib.hid hy
          clear hx hy
          by_cases hlv : key x - key y < 0
          · go_wp2_with fail
            go_quiet (first | (go_at_call 27; refine Calls.quiet_of (hk _)))
            go_wp2_with fail
            obtain ⟨j1, hj1⟩ : ∃ j1, j1 = jp + 1 := ⟨_, rfl⟩
            have hR2 := HRj.out.drewN nq
            have T2 := Lib.hid (HTj.out.drewN nq)
            have c2 := hR2.cell2 (i := jp + 1) (j := jp) (by have := HY.out; omega) (by have := HY.out; omega) y
            have cj2 : (wr.drewN nq).cell? ⟨g, jp + 1, none⟩ = some (.int .i64 x) := cj
            have cp2 : (wr.drewN nq).cell? ⟨g, jp, none⟩ = some (.int .i64 y) := cp
            have fj2 : (wr.drewN nq).frozen? ⟨g, jp + 1, none⟩ = false := fj
            have fp2 : (wr.drewN nq).frozen? ⟨g, jp, none⟩ = false := fp
            have HR2 := Lib.hid hR2
            have J1 := Lib.hid hj1
            clear cj cp fj fp hk hR2
            generalize wr.drewN nq = wq at c2 cj2 cp2 fj2 fp2 HR2 T2 ⊢
            obtain ⟨u2, c2⟩ := c2
            rw [← hj1] at cj2 fj2 e0 c2
            clear hj1
            go_big_region
            all_goals go_wp2
            go_roundw
            case rel =>
              refine ⟨jp, swp yj (jp + 1) jp, by first | rfl | go_num | (congr 1; omega), by omega, by omega, ?_, ?_, ?_, ?_⟩
              · rw [J1.out, HXV.out, HYV.out]
                exact (HR2.out.swp (by have := HY.out; omega) (by have := HY.out; omega)).drewN 1
              · exact HXj.out.trans (Tr.swp (by have := HY.out; omega) (by have := HY.out; omega) (by omega) (by omega) (by omega) (by omega))
              · exact HIj.out.step (by omega) hji (by have := HY.out; omega) (by have h1 := HIj.out.at_; rw [← h1, ← HXV.out, ← HYV.out]; omega)
              · exact (T2.out.swp _ _).drewN 1
            case measure => simp [intOf] <;> omega
          · go_wp2_with fail
            go_quiet (first | (go_at_call 27; refine Calls.quiet_of (hk _)))
            go_wp2
            go_roundw
            case rel => exact ⟨i + 1, yj, by go_num, by omega, .inl (by omega), HRj.out.drewN nq, (HX.out.mono (Nat.le_refl _) (by omega)).trans HXj.out, HIj.out.done (.inr ⟨hja, hji, by have h1 := HIj.out.at_; rw [← h1, ← HXV.out, Nat.add_sub_cancel, ← HYV.out]; omega⟩), HTj.out.drewN nq⟩
            case measure => simp [intOf] <;> omega
        · have hjaz : decide ((j : Int) > (a : Int)) = false := decide_eq_false (by omega)
          have hjaz' : ¬ (a : Int) < (j : Int) := by omega
          have HJ := Lib.hid (show j = a by omega)
          go_wp2_with fail
          go_big_region
          all_goals go_wp2
          go_roundw
          case rel => exact ⟨i + 1, yj, by go_num, by omega, .inl (by omega), HRj.out.drewN 1, (HX.out.mono (Nat.le_refl _) (by omega)).trans HXj.out, HIj.out.done (.inl HJ.out), HTj.out.drewN 1⟩
          case measure => simp [intOf]; omega
    · have hltz : ¬ (i : Int) < (b : Int) := by omega
      go_wp2
      go_end0
      refine ⟨rfl, ys, HRr.out, ?_, ?_, HT.out⟩
      · rcases hib with h1 | h1
        · exact HX.out.mono (Nat.le_refl _) (by omega)
        · rw [h1.2]; exact Tr.refl _ _ _
      · exact HS.out.mono (Nat.le_refl _) (by omega)
end Go.Proofs.YtpmgmekbnbligaaGreat
