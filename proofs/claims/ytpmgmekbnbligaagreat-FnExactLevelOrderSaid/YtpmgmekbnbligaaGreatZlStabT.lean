/- slices.SortStableFunc on a row of numbers. -/
import Derived.Test.YtpmgmekbnbligaaGreatZlStabH
import Derived.Test.YtpmgmekbnbligaaGreatZlStabP
set_option linter.all false
set_option linter.unusedSimpArgs false
set_option linter.unusedVariables false
namespace Go.Proofs.YtpmgmekbnbligaaGreat
open Go.ChangeShapes Go.WideShapes Go.ChangeAt Go.RowKit Go.Deep

set_option maxRecDepth 100000 in
set_option maxHeartbeats 16000000 in
theorem stable_c {w W0 : World} {g t n c N : Nat} {cv : Value} {key : Int → Int} {xs : List Int} (h : RowI w g t xs) (hn : xs.length = n) (hl : n ≤ 1000000) (hup : Up 0 n xs) (hall : AllIn N xs) (hw : Touch [g] W0 w) (hc : CmpI Tryz.prog 27 cv key W0 g N) :
    Calls Tryz.prog 45 #[.slice (some ⟨g, 0, none⟩) n c, .int .i64 n, .func (.func 27) #[] #[cv]] w fun e w' => e = .returned (.tuple #[]) ∧ ∃ ys, RowI w' g t ys ∧ ys.Perm xs ∧ Srt key 0 n ys ∧ Touch [g] w w' := by
  have HR := Lib.hid h
  have HN := Lib.hid hn
  have HU := Lib.hid hup
  have HA := Lib.hid hall
  have HW := Lib.hid hw
  have HC := Lib.hid hc
  clear h hn hup hall hw hc
  go_enter Tryz.func45, Tryz.ntmps45
  go_wp2
  go_loopw [7, 8] (fun u v wr => ∃ (a : Nat) (ys : List Int), u = .int .i64 a ∧ v = .int .i64 ((a + 20 : Nat) : Int) ∧ a ≤ n ∧ Hid (Blk1 key 20 n a ys) ∧ Hid (RowI wr g t ys ∧ ys.Perm xs ∧ Touch [g] w wr)) (fun u _ _ => n - (intOf u).toNat)
  case atStart => exact ⟨0, xs, rfl, rfl, Nat.zero_le _, Lib.hid (Blk1.start HU.out), Lib.hid ⟨HR.out, .refl _, Touch.refl _ _⟩⟩
  case round =>
    obtain ⟨a, ys, rfl, rfl, han, HB, HT⟩ := hrel
    obtain ⟨b, hb⟩ : ∃ b, b = a + 20 := ⟨_, rfl⟩
    rw [← hb]
    have HYL := Lib.hid (show ys.length = n from HT.out.2.1.length_eq.trans HN.out)
    by_cases hlt : a + 20 ≤ n
    · have hltz : (b : Int) ≤ (n : Int) := by omega
      obtain ⟨b2, hb2⟩ : ∃ b2, b2 = b + 20 := ⟨_, rfl⟩
      have e1 : (b : Int) + 20 = (b2 : Int) := by omega
      have HBB := Lib.hid hb
      have HB2 := Lib.hid hb2
      clear hb hb2
      go_wp2_with fail
      refine (insertion_c HT.out.1 HYL.out (by have := HBB.out; omega) (by omega) hl (fun i j h1 h2 h3 => HB.out.up i j h1 h2 (by omega)) (HA.out.perm HT.out.2.1) (HW.out.trans HT.out.2.2) HC.out).mono ?_
      rintro e w3 ⟨rfl, ys3, h3, x3, s3, t3⟩
      have H3 := Lib.hid (And.intro h3 (And.intro x3 (And.intro s3 t3))); clear h3 x3 s3 t3
      go_wp2
      go_roundw
      case rel =>
        have hb := HBB.out
        exact ⟨b, ys3, rfl, by rw [HB2.out], by omega, Lib.hid (hb ▸ HB.out.step (by omega) hlt (hb ▸ H3.out.2.1) (hb ▸ H3.out.2.2.1)), Lib.hid ⟨H3.out.1, H3.out.2.1.perm.trans HT.out.2.1, HT.out.2.2.trans H3.out.2.2.2⟩⟩
      case measure => simp [intOf]; have := HBB.out; omega
    · have hltz : ¬ (b : Int) ≤ (n : Int) := by omega
      clear hb
      go_wp2_with fail
      refine (insertion_c HT.out.1 HYL.out han (Nat.le_refl _) hl HB.out.up (HA.out.perm HT.out.2.1) (HW.out.trans HT.out.2.2) HC.out).mono ?_
      rintro e w3 ⟨rfl, ys3, h3, x3, s3, t3⟩
      have H3 := Lib.hid (And.intro h3 (And.intro (x3.perm.trans HT.out.2.1) (HT.out.2.2.trans t3)))
      have B3 := Lib.hid (HB.out.done (by omega) (by omega) x3 s3)
      clear h3 x3 s3 t3 HT HB HYL HR
      go_wp2
      go_loopw [6] (fun u wr => ∃ (s : Nat) (ys : List Int), u = .int .i64 s ∧ 0 < s ∧ s ≤ 4000000 ∧ Hid (Blk key s n ys) ∧ Hid (RowI wr g t ys ∧ ys.Perm xs ∧ Touch [g] w wr)) (fun u _ => n - (intOf u).toNat)
      case atStart => exact ⟨20, ys3, rfl, by omega, by omega, B3, H3⟩
      case round =>
        obtain ⟨s, ys, rfl, hs0, hs, HB, HT⟩ := hrel
        clear B3 H3
        by_cases hlt : s < n
        · have hltz : (s : Int) < (n : Int) := by omega
          obtain ⟨s2, hs2⟩ : ∃ s2, s2 = 2 * s := ⟨_, rfl⟩
          have e2 : 2 * (s : Int) = (s2 : Int) := by omega
          have e3 : (s : Int) * 2 = (s2 : Int) := by omega
          have hs3 : s2 ≤ 2000000 := by omega
          have HS2 := Lib.hid hs2
          clear hs2
          obtain ⟨wo, hwo⟩ : ∃ wo, wo = wr := ⟨_, rfl⟩
          rw [← hwo] at HT ⊢
          clear hwo
          go_wp2
          go_loopw [7, 8] (fun u v wr => ∃ (a b : Nat) (ys : List Int), u = .int .i64 a ∧ v = .int .i64 b ∧ b = a + s2 ∧ a ≤ n ∧ Hid (Blk2 key s n a ys) ∧ Hid (RowI wr g t ys ∧ ys.Perm xs ∧ Touch [g] w wr)) (fun u _ _ => n - (intOf u).toNat)
          case atStart => exact ⟨0, s2, ys, rfl, rfl, by omega, Nat.zero_le _, Lib.hid (Blk2.start HB.out), HT⟩
          case round =>
            obtain ⟨a, b, yj, rfl, rfl, hb, han, HBj, HTj⟩ := hrel
            clear HT HB
            have HYL := Lib.hid (show yj.length = n from HTj.out.2.1.length_eq.trans HN.out)
            obtain ⟨m, hm⟩ : ∃ m, m = a + s := ⟨_, rfl⟩
            have em : (a : Int) + (s : Int) = (m : Int) := by omega
            have HM := Lib.hid hm
            have HBB := Lib.hid hb
            clear hm hb
            by_cases hbn : b ≤ n
            · have hbz : (b : Int) ≤ (n : Int) := by omega
              obtain ⟨b2, hb2⟩ : ∃ b2, b2 = b + s2 := ⟨_, rfl⟩
              have eb : (b : Int) + (s2 : Int) = (b2 : Int) := by omega
              have HB2 := Lib.hid hb2
              clear hb2
              have H2 := Lib.hid (HBj.out.two (b := b) hs0 (by have := HBB.out; have := HS2.out; omega) (by have := HBB.out; have := HS2.out; omega))
              go_wp2_with fail
              refine (symMerge_c hl HC.out (b - a) _ a m b yj (Nat.le_refl _) HTj.out.1 HYL.out (by have := HM.out; omega) (by have := HM.out; have := HBB.out; have := HS2.out; omega) hbn (HM.out ▸ H2.out.1) (HM.out ▸ H2.out.2.1) (HM.out ▸ H2.out.2.2) (HA.out.perm HTj.out.2.1) (HW.out.trans HTj.out.2.2)).mono ?_
              rintro e w4 ⟨rfl, ys4, h4, x4, s4, t4⟩
              have H4 := Lib.hid (And.intro h4 (And.intro x4 (And.intro s4 t4))); clear h4 x4 s4 t4
              go_wp2
              go_roundw
              case rel =>
                have hb : b = a + 2 * s := by have := HBB.out; have := HS2.out; omega
                exact ⟨b, b2, ys4, rfl, rfl, HB2.out, hbn, Lib.hid (hb ▸ HBj.out.step hs0 (by omega) (hb ▸ H4.out.2.1) (hb ▸ H4.out.2.2.1)), Lib.hid ⟨H4.out.1, H4.out.2.1.perm.trans HTj.out.2.1, HTj.out.2.2.trans H4.out.2.2.2⟩⟩
              case measure => simp [intOf]; have := HBB.out; have := HS2.out; omega
            · have hbz : ¬ (b : Int) ≤ (n : Int) := by omega
              by_cases hmn : m < n
              · have hmz : (m : Int) < (n : Int) := by omega
                have H2 := Lib.hid (HBj.out.two (b := n) hs0 (by have := HM.out; omega) (by have := HBB.out; have := HS2.out; omega))
                go_wp2_with fail
                refine (symMerge_c hl HC.out (n - a) _ a m n yj (Nat.le_refl _) HTj.out.1 HYL.out (by have := HM.out; omega) hmn (Nat.le_refl _) (HM.out ▸ H2.out.1) (HM.out ▸ H2.out.2.1) (HM.out ▸ H2.out.2.2) (HA.out.perm HTj.out.2.1) (HW.out.trans HTj.out.2.2)).mono ?_
                rintro e w4 ⟨rfl, ys4, h4, x4, s4, t4⟩
                have H4 := Lib.hid (And.intro h4 (And.intro x4 (And.intro s4 t4))); clear h4 x4 s4 t4
                go_wp2
                go_roundw
                case rel => exact ⟨s2, ys4, rfl, by have := HS2.out; omega, by omega, Lib.hid (HS2.out ▸ HBj.out.done hs0 (by have := HBB.out; have := HS2.out; omega) H4.out.2.1 H4.out.2.2.1), Lib.hid ⟨H4.out.1, H4.out.2.1.perm.trans HTj.out.2.1, HTj.out.2.2.trans H4.out.2.2.2⟩⟩
                case measure => simp [intOf]; have := HS2.out; omega
              · have hmz : ¬ (m : Int) < (n : Int) := by omega
                go_wp2
                go_roundw
                case rel => exact ⟨s2, yj, rfl, by have := HS2.out; omega, by omega, Lib.hid (HS2.out ▸ HBj.out.done hs0 (by have := HBB.out; have := HS2.out; omega) (Tr.refl _ _ _) (HBj.out.one (by have := HM.out; omega))), HTj⟩
                case measure => simp [intOf]; have := HS2.out; omega
        · have hltz : ¬ (s : Int) < (n : Int) := by omega
          go_wp2
          go_end0
          exact ⟨rfl, ys, HT.out.1, HT.out.2.1, HB.out.all (by omega), HT.out.2.2⟩
set_option maxRecDepth 100000 in
theorem sortStable_c {w W0 : World} {g t n c N : Nat} {cv : Value} {key : Int → Int} {xs : List Int} (h : RowI w g t xs) (hn : xs.length = n) (hl : n ≤ 1000000) (hup : Up 0 n xs) (hall : AllIn N xs) (hw : Touch [g] W0 w) (hc : CmpI Tryz.prog 27 cv key W0 g N) :
    Calls Tryz.prog 26 #[.slice (some ⟨g, 0, none⟩) n c, .func (.func 27) #[] #[cv]] w fun e w' => e = .returned (.tuple #[]) ∧ ∃ ys, RowI w' g t ys ∧ ys.Perm xs ∧ Srt key 0 n ys ∧ Touch [g] w w' := by
  have H := Lib.hid (stable_c (c := c) h hn hl hup hall hw hc)
  clear h hn hup hall hw hc
  go_enter Tryz.func26, Tryz.ntmps26
  go_wp2_with fail
  refine H.out.mono ?_
  rintro e w3 ⟨rfl, ys3, h3, x3, s3, t3⟩
  have H3 := Lib.hid (And.intro h3 (And.intro x3 (And.intro s3 t3))); clear h3 x3 s3 t3
  go_wp2
  go_end0
  exact ⟨rfl, ys3, H3.out⟩
end Go.Proofs.YtpmgmekbnbligaaGreat
