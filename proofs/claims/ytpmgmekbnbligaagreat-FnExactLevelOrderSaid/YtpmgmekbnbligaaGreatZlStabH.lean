/- The steps of slices.SortStableFunc on a row of numbers: two sorted stretches merged, of whatever length. -/
import Derived.Test.YtpmgmekbnbligaaGreatZlStabG
set_option linter.all false
set_option linter.unusedSimpArgs false
set_option linter.unusedVariables false
namespace Go.Proofs.YtpmgmekbnbligaaGreat
open Go.ChangeShapes Go.WideShapes Go.ChangeAt Go.RowKit Go.Deep

set_option maxRecDepth 100000 in
set_option maxHeartbeats 32000000 in
theorem symMerge_c {W0 : World} {g t n c N : Nat} {cv : Value} {key : Int → Int} (hl : n ≤ 1000000) (hc : CmpI Tryz.prog 27 cv key W0 g N) : ∀ d, SymC W0 g t n c N cv key d := by
  intro d
  induction d with
  | zero => intro w a m b xs hd _ _ ha hm; omega
  | succ d ih =>
  intro w a m b xs hd hR hn ha hm hb hs1 hs2 hcut hall hw
  by_cases hA : m = a + 1
  · subst hA; exact symA hl hc hR hn hm hb hs2 hcut hall hw
  by_cases hB : b = m + 1
  · subst hB; exact symB hl hc hR hn (by omega) hb hs1 hcut hall hw
  have IH := Lib.hid ih
  have HR := Lib.hid hR
  have HN := Lib.hid hn
  have HA := Lib.hid hall
  have HW := Lib.hid hw
  have HC := Lib.hid hc
  have H1 := Lib.hid hs1
  have H2 := Lib.hid hs2
  have HX := Lib.hid hcut
  clear hR hn hall hw hs1 hs2 hcut hc ih
  have ema : (m : Int) - (a : Int) = ((m - a : Nat) : Int) := by omega
  have q1 : (((m - a : Nat) : Int) == 1) = false := ieq_f (by omega)
  have emb : (b : Int) - (m : Int) = ((b - m : Nat) : Int) := by omega
  have q2 : (((b - m : Nat) : Int) == 1) = false := ieq_f (by omega)
  obtain ⟨mid, hmid⟩ : ∃ mid, mid = (a + b) / 2 := ⟨_, rfl⟩
  have emid : ((a : Int) + (b : Int)) / 2 = (mid : Int) := by omega
  obtain ⟨s, hs⟩ : ∃ s, s = mid + m := ⟨_, rfl⟩
  have es : (mid : Int) + (m : Int) = (s : Int) := by omega
  obtain ⟨st0, r0, h0, h00⟩ := bd_make (show a + 2 ≤ m by omega) (show m + 2 ≤ b by omega) hmid hs
  have HH0 := Lib.hid h0
  have B0 := Lib.hid h00
  clear h00
  have HS := Lib.hid hs
  have HM := Lib.hid hmid
  clear h0 hs hmid hA hB
  go_enter Tryz.func72, Tryz.ntmps72
  go_upto_if 140 with (fail)
  go_cut [20, 21] (fun u v wc => u = .int .i64 st0 ∧ v = .int .i64 r0 ∧ wc = w)
  case first =>
    rcases HH0.out with ⟨h1, h2, h3⟩ | ⟨h1, h2, h3⟩
    · have hz : (mid : Int) < (m : Int) := by omega
      have e1 : (s : Int) - (b : Int) = (st0 : Int) := by omega
      subst h3
      go_wp2
      go_meet
      case rel => exact ⟨rfl, rfl, rfl⟩
    · have hz : ¬ (mid : Int) < (m : Int) := by omega
      subst h2
      subst h3
      go_wp2
      go_meet
      case rel => exact ⟨rfl, rfl, rfl⟩
  case rest =>
  obtain ⟨rfl, rfl, rfl⟩ := hcut
  rename World => w
  obtain ⟨pp, hpp⟩ : ∃ pp, pp + 1 = s := ⟨s - 1, by have := B0.out.ms; omega⟩
  have epp : (s : Int) - 1 = (pp : Int) := by omega
  have HP := Lib.hid hpp
  have hppn : pp < 2000000 := by have := B0.out.mm; have := B0.out.mb; omega
  clear hpp ema emb q1 q2 emid es
  go_wp2
  go_loopw [20, 21] (fun u v wr => ∃ st r : Nat, u = .int .i64 st ∧ v = .int .i64 r ∧ Hid (st0 ≤ st ∧ st ≤ r ∧ r ≤ r0) ∧ Hid (Fnd key s st0 r0 st r xs) ∧ Hid (RowI wr g t xs ∧ Touch [g] w wr)) (fun u v _ => (intOf v).toNat - (intOf u).toNat)
  case atStart => exact ⟨st0, r0, rfl, rfl, Lib.hid ⟨Nat.le_refl _, B0.out.st, Nat.le_refl _⟩, Lib.hid ⟨.inl rfl, .inl rfl⟩, Lib.hid ⟨HR.out, Touch.refl _ _⟩⟩
  case round =>
    obtain ⟨st, r, rfl, rfl, HB, HF, HT⟩ := hrel
    by_cases hlt : st < r
    · have hltz : (st : Int) < (r : Int) := by omega
      obtain ⟨c1, hc1⟩ : ∃ c1, c1 = (st + r) / 2 := ⟨_, rfl⟩
      have ec : ((st : Int) + (r : Int)) / 2 = (c1 : Int) := by omega
      have k1 : st ≤ c1 ∧ c1 < r := by omega
      have k2 := HB.out
      have k3 := B0.out.rm
      have k4 := B0.out.rmid
      have k5 := B0.out.mm
      have k6 := B0.out.sb
      have k7 := HP.out
      have k8 := HN.out
      obtain ⟨pc, hpc⟩ : ∃ pc, pc + c1 = pp := ⟨pp - c1, by omega⟩
      have epc : (pp : Int) - (c1 : Int) = (pc : Int) := by omega
      have hwp : IntKind.i64.wrap (pc : Int) = (pc : Int) := by rw [IntKind.wrap_i64]; omega
      have z1 : (c1 : Int) < (n : Int) := by omega
      have z2 : (pc : Int) < (n : Int) := by omega
      have cc := HT.out.1.cell (i := c1) (by omega)
      have cp := HT.out.1.cell (i := pc) (by omega)
      have hk := fun q => HC.out.at_ (HW.out.trans HT.out.2) (HA.out.gi (i := pc) (by omega)) (HA.out.gi (i := c1) (by omega)) q
      have KV := Lib.hid (show gi xs c1 < gi xs pc from HX.out c1 pc (by have := B0.out.a0; omega) (by omega) (by omega) (by omega))
      have KC := Lib.hid hpc
      have K1 := Lib.hid k1
      clear hpc k1 k2 k3 k4 k5 k6 k7 k8
      obtain ⟨x, hx⟩ : ∃ x, x = gi xs pc := ⟨_, rfl⟩
      obtain ⟨y, hy⟩ : ∃ y, y = gi xs c1 := ⟨_, rfl⟩
      rw [← hx] at cp hk
      rw [← hy] at cc hk
      have HXV := Lib.hid hx
      have HYV := Lib.hid hy
      have HCC := Lib.hid hc1
      clear hx hy hc1
      by_cases hlv : key x - key y < 0
      · go_wp2_with fail
        go_quiet (first | (go_at_call 27; refine Calls.quiet_of (hk _)))
        go_wp2
        go_roundw
        case rel =>
          have k1 := K1.out
          have k2 := HB.out
          refine ⟨st, c1, rfl, rfl, Lib.hid ⟨k2.1, k1.1, by omega⟩, Lib.hid ⟨HF.out.lo, .inr ⟨by omega, ?_⟩⟩, Lib.hid ⟨HT.out.1.drewN nq, HT.out.2.drewN nq⟩⟩
          rw [show s - 1 - c1 = pc by have := HP.out; have := KC.out; omega]
          exact .inl (by rw [← HXV.out, ← HYV.out]; omega)
        case measure => simp [intOf]; have := K1.out; omega
      · have hlw : (!decide (key x - key y < 0)) = true := by rw [decide_eq_false hlv]; rfl
        go_wp2_with fail
        go_quiet (first | (go_at_call 27; refine Calls.quiet_of (hk _)))
        go_wp2
        go_roundw
        case rel =>
          have k1 := K1.out
          have k2 := HB.out
          refine ⟨c1 + 1, r, by go_num, rfl, Lib.hid ⟨by omega, by omega, k2.2.2⟩, Lib.hid ⟨.inr ⟨by omega, ?_⟩, HF.out.hi⟩, Lib.hid ⟨HT.out.1.drewN nq, HT.out.2.drewN nq⟩⟩
          rw [show s - (c1 + 1) = pc by have := HP.out; have := KC.out; omega, Nat.add_sub_cancel]
          exact ltK.of_le (by rw [← HXV.out, ← HYV.out]; omega) KV.out
        case measure => simp [intOf]; have := K1.out; omega
    · obtain rfl : r = st := by have := HB.out; omega
      have hnl : ¬ (r : Int) < (r : Int) := by omega
      obtain ⟨en, hen⟩ : ∃ en, en + r = s := ⟨s - r, by have := B0.out.ms; have := HB.out; have := B0.out.rm; omega⟩
      have een : (s : Int) - (r : Int) = (en : Int) := by omega
      have HF2 := Lib.hid (fun (ys : List Int) (h : Rot r m en xs ys) => half_of H1.out H2.out HX.out B0.out HB.out.1 HB.out.2.2 HF.out hen h)
      have q0 : a ≤ r := Nat.le_trans B0.out.a0 HB.out.1
      have q1 : r ≤ m := Nat.le_trans HB.out.2.2 B0.out.rm
      have q2 : r ≤ mid := Nat.le_trans HB.out.2.2 B0.out.rmid
      have q3 : m + mid = r + en := by have := B0.out.mm; omega
      have q4 : en ≤ b := by have := B0.out.sb; have := HB.out.1; omega
      have q5 := B0.out.am
      have q6 := B0.out.mb
      obtain ⟨wo, hwo⟩ : ∃ wo, wo = wr := ⟨_, rfl⟩
      rw [← hwo] at HT ⊢
      clear hwo HF HB hen HH0 HS HM HP B0
      by_cases c1 : r < m
      · by_cases c2 : m < en
        · by_cases c3 : a < r
          · by_cases c4 : en < b
            · skip
              have z1 : (r : Int) < (m : Int) := by omega
              have z2 : (m : Int) < (en : Int) := by omega
              have z4 : (r : Int) < (mid : Int) := by omega
              have z5 : (mid : Int) < (en : Int) := by omega
              have z3 : (a : Int) < (r : Int) := by omega
              have z6 : (en : Int) < (b : Int) := by omega
              go_wp2_with fail
              refine (rotate_c HT.out.1 HN.out (by omega) (by omega) (by omega) hl).mono ?_
              rintro e w3 ⟨rfl, ys3, h3, x3, t3⟩
              have HL := Lib.hid (HF2.out ys3 x3)
              have HY := Lib.hid (And.intro h3 (And.intro (x3.tr.mono q0 q4) (HT.out.2.trans t3)))
              clear h3 x3 t3
              clear HF2
              go_wp2_with fail
              refine (IH.out _ a r mid _ (by omega) HY.out.1 (HY.out.2.1.len.trans HN.out) (by omega) (by omega) (by omega) HL.out.s1 HL.out.s2 HL.out.c1 (HA.out.perm HY.out.2.1.perm) (HW.out.trans HY.out.2.2)).mono ?_
              rintro e w4 ⟨rfl, ys4, h4, x4, s4, t4⟩
              have HZ := Lib.hid (And.intro h4 (And.intro x4 (And.intro s4 (HY.out.2.2.trans t4))))
              clear h4 x4 s4 t4
              have HQ := Lib.hid (HL.out.left HZ.out.2.1)
              go_wp2_with fail
              refine (IH.out _ mid en b _ (by omega) HZ.out.1 (HZ.out.2.1.len.trans (HY.out.2.1.len.trans HN.out)) (by omega) (by omega) (by omega) (HQ.out.resolve_right (by omega)).1 (HQ.out.resolve_right (by omega)).2.1 (HQ.out.resolve_right (by omega)).2.2 (HA.out.perm (HZ.out.2.1.perm.trans HY.out.2.1.perm)) (HW.out.trans HZ.out.2.2.2)).mono ?_
              rintro e w5 ⟨rfl, ys5, h5, x5, s5, t5⟩
              go_wp2
              go_end0
              exact ⟨rfl, ys5, h5, (HY.out.2.1.trans (HZ.out.2.1.mono (Nat.le_refl _) (by omega))).trans (x5.mono (by omega) (Nat.le_refl _)), HL.out.done (by omega) (by omega) HZ.out.2.1 HZ.out.2.2.1 x5 s5, HZ.out.2.2.2.trans t5⟩
            · skip
              have z1 : (r : Int) < (m : Int) := by omega
              have z2 : (m : Int) < (en : Int) := by omega
              have z4 : (r : Int) < (mid : Int) := by omega
              have z5 : (mid : Int) < (en : Int) := by omega
              have z3 : (a : Int) < (r : Int) := by omega
              have z6 : ¬ (en : Int) < (b : Int) := by omega
              go_wp2_with fail
              refine (rotate_c HT.out.1 HN.out (by omega) (by omega) (by omega) hl).mono ?_
              rintro e w3 ⟨rfl, ys3, h3, x3, t3⟩
              have HL := Lib.hid (HF2.out ys3 x3)
              have HY := Lib.hid (And.intro h3 (And.intro (x3.tr.mono q0 q4) (HT.out.2.trans t3)))
              clear h3 x3 t3
              clear HF2
              go_wp2_with fail
              refine (IH.out _ a r mid _ (by omega) HY.out.1 (HY.out.2.1.len.trans HN.out) (by omega) (by omega) (by omega) HL.out.s1 HL.out.s2 HL.out.c1 (HA.out.perm HY.out.2.1.perm) (HW.out.trans HY.out.2.2)).mono ?_
              rintro e w4 ⟨rfl, ys4, h4, x4, s4, t4⟩
              have HZ := Lib.hid (And.intro h4 (And.intro x4 (And.intro s4 (HY.out.2.2.trans t4))))
              clear h4 x4 s4 t4
              have HQ := Lib.hid (HL.out.left HZ.out.2.1)
              go_wp2
              go_end0
              exact ⟨rfl, ys4, HZ.out.1, HY.out.2.1.trans (HZ.out.2.1.mono (Nat.le_refl _) (by omega)), HL.out.done (by omega) (by omega) HZ.out.2.1 HZ.out.2.2.1 (Tr.refl mid b ys4) (show Srt key mid b ys4 from by have h9 : en = b := (by omega); exact h9 ▸ (HQ.out.resolve_right (by omega)).1), HZ.out.2.2.2⟩
          · by_cases c4 : en < b
            · skip
              have z1 : (r : Int) < (m : Int) := by omega
              have z2 : (m : Int) < (en : Int) := by omega
              have z4 : (r : Int) < (mid : Int) := by omega
              have z5 : (mid : Int) < (en : Int) := by omega
              have z3 : ¬ (a : Int) < (r : Int) := by omega
              have z6 : (en : Int) < (b : Int) := by omega
              go_wp2_with fail
              refine (rotate_c HT.out.1 HN.out (by omega) (by omega) (by omega) hl).mono ?_
              rintro e w3 ⟨rfl, ys3, h3, x3, t3⟩
              have HL := Lib.hid (HF2.out ys3 x3)
              have HY := Lib.hid (And.intro h3 (And.intro (x3.tr.mono q0 q4) (HT.out.2.trans t3)))
              clear h3 x3 t3
              clear HF2
              have HZ := Lib.hid (And.intro HY.out.1 (And.intro (Tr.refl a mid ys3) (And.intro (show Srt key a mid ys3 from by have h9 : r = a := (by omega); exact h9 ▸ HL.out.s2) HY.out.2.2)))
              have HQ := Lib.hid (HL.out.left HZ.out.2.1)
              go_wp2_with fail
              refine (IH.out _ mid en b _ (by omega) HZ.out.1 (HZ.out.2.1.len.trans (HY.out.2.1.len.trans HN.out)) (by omega) (by omega) (by omega) (HQ.out.resolve_right (by omega)).1 (HQ.out.resolve_right (by omega)).2.1 (HQ.out.resolve_right (by omega)).2.2 (HA.out.perm (HZ.out.2.1.perm.trans HY.out.2.1.perm)) (HW.out.trans HZ.out.2.2.2)).mono ?_
              rintro e w5 ⟨rfl, ys5, h5, x5, s5, t5⟩
              go_wp2
              go_end0
              exact ⟨rfl, ys5, h5, (HY.out.2.1.trans (HZ.out.2.1.mono (Nat.le_refl _) (by omega))).trans (x5.mono (by omega) (Nat.le_refl _)), HL.out.done (by omega) (by omega) HZ.out.2.1 HZ.out.2.2.1 x5 s5, HZ.out.2.2.2.trans t5⟩
            · skip
              have z1 : (r : Int) < (m : Int) := by omega
              have z2 : (m : Int) < (en : Int) := by omega
              have z4 : (r : Int) < (mid : Int) := by omega
              have z5 : (mid : Int) < (en : Int) := by omega
              have z3 : ¬ (a : Int) < (r : Int) := by omega
              have z6 : ¬ (en : Int) < (b : Int) := by omega
              go_wp2_with fail
              refine (rotate_c HT.out.1 HN.out (by omega) (by omega) (by omega) hl).mono ?_
              rintro e w3 ⟨rfl, ys3, h3, x3, t3⟩
              have HL := Lib.hid (HF2.out ys3 x3)
              have HY := Lib.hid (And.intro h3 (And.intro (x3.tr.mono q0 q4) (HT.out.2.trans t3)))
              clear h3 x3 t3
              clear HF2
              have HZ := Lib.hid (And.intro HY.out.1 (And.intro (Tr.refl a mid ys3) (And.intro (show Srt key a mid ys3 from by have h9 : r = a := (by omega); exact h9 ▸ HL.out.s2) HY.out.2.2)))
              have HQ := Lib.hid (HL.out.left HZ.out.2.1)
              go_wp2
              go_end0
              exact ⟨rfl, ys3, HZ.out.1, HY.out.2.1.trans (HZ.out.2.1.mono (Nat.le_refl _) (by omega)), HL.out.done (by omega) (by omega) HZ.out.2.1 HZ.out.2.2.1 (Tr.refl mid b ys3) (show Srt key mid b ys3 from by have h9 : en = b := (by omega); exact h9 ▸ (HQ.out.resolve_right (by omega)).1), HZ.out.2.2.2⟩
        · skip
          have z1 : (r : Int) < (m : Int) := by omega
          have z2 : ¬ (m : Int) < (en : Int) := by omega
          have z3 : (a : Int) < (r : Int) := by omega
          have z4 : ¬ (r : Int) < (mid : Int) := by omega
          have z5 : (mid : Int) < (en : Int) := by omega
          have z6 : (en : Int) < (b : Int) := by omega
          have HL := Lib.hid (HF2.out xs (Rot.left (by omega)))
          have HY := Lib.hid (And.intro HT.out.1 (And.intro (Tr.refl a b xs) HT.out.2))
          clear HF2
          have HZ := Lib.hid (And.intro HY.out.1 (And.intro (Tr.refl a mid xs) (And.intro (show Srt key a mid xs from by have h9 : r = mid := (by omega); exact h9 ▸ HL.out.s1) HY.out.2.2)))
          have HQ := Lib.hid (HL.out.left HZ.out.2.1)
          go_wp2_with fail
          refine (IH.out _ mid en b _ (by omega) HZ.out.1 (HZ.out.2.1.len.trans (HY.out.2.1.len.trans HN.out)) (by omega) (by omega) (by omega) (HQ.out.resolve_right (by omega)).1 (HQ.out.resolve_right (by omega)).2.1 (HQ.out.resolve_right (by omega)).2.2 (HA.out.perm (HZ.out.2.1.perm.trans HY.out.2.1.perm)) (HW.out.trans HZ.out.2.2.2)).mono ?_
          rintro e w5 ⟨rfl, ys5, h5, x5, s5, t5⟩
          go_wp2
          go_end0
          exact ⟨rfl, ys5, h5, (HY.out.2.1.trans (HZ.out.2.1.mono (Nat.le_refl _) (by omega))).trans (x5.mono (by omega) (Nat.le_refl _)), HL.out.done (by omega) (by omega) HZ.out.2.1 HZ.out.2.2.1 x5 s5, HZ.out.2.2.2.trans t5⟩
      · by_cases c3 : r < mid
        · skip
          have z1 : ¬ (r : Int) < (m : Int) := by omega
          have z3 : (a : Int) < (r : Int) := by omega
          have z4 : (r : Int) < (mid : Int) := by omega
          have z5 : ¬ (mid : Int) < (en : Int) := by omega
          have HL := Lib.hid (HF2.out xs (Rot.right (by omega)))
          have HY := Lib.hid (And.intro HT.out.1 (And.intro (Tr.refl a b xs) HT.out.2))
          clear HF2
          go_wp2_with fail
          refine (IH.out _ a r mid _ (by omega) HY.out.1 (HY.out.2.1.len.trans HN.out) (by omega) (by omega) (by omega) HL.out.s1 HL.out.s2 HL.out.c1 (HA.out.perm HY.out.2.1.perm) (HW.out.trans HY.out.2.2)).mono ?_
          rintro e w4 ⟨rfl, ys4, h4, x4, s4, t4⟩
          have HZ := Lib.hid (And.intro h4 (And.intro x4 (And.intro s4 (HY.out.2.2.trans t4))))
          clear h4 x4 s4 t4
          have HQ := Lib.hid (HL.out.left HZ.out.2.1)
          go_wp2
          go_end0
          exact ⟨rfl, ys4, HZ.out.1, HY.out.2.1.trans (HZ.out.2.1.mono (Nat.le_refl _) (by omega)), HL.out.done (by omega) (by omega) HZ.out.2.1 HZ.out.2.2.1 (Tr.refl mid b ys4) (show Srt key mid b ys4 from by have h9 : en = mid := (by omega); exact h9 ▸ (HQ.out.resolve_right (by omega)).2.1), HZ.out.2.2.2⟩
        · skip
          have z1 : ¬ (r : Int) < (m : Int) := by omega
          have z3 : (a : Int) < (r : Int) := by omega
          have z4 : ¬ (r : Int) < (mid : Int) := by omega
          have z5 : ¬ (mid : Int) < (en : Int) := by omega
          have HL := Lib.hid (HF2.out xs (Rot.right (by omega)))
          have HY := Lib.hid (And.intro HT.out.1 (And.intro (Tr.refl a b xs) HT.out.2))
          clear HF2
          have HZ := Lib.hid (And.intro HY.out.1 (And.intro (Tr.refl a mid xs) (And.intro (show Srt key a mid xs from by have h9 : r = mid := (by omega); exact h9 ▸ HL.out.s1) HY.out.2.2)))
          have HQ := Lib.hid (HL.out.left HZ.out.2.1)
          go_wp2
          go_end0
          exact ⟨rfl, xs, HZ.out.1, HY.out.2.1.trans (HZ.out.2.1.mono (Nat.le_refl _) (by omega)), HL.out.done (by omega) (by omega) HZ.out.2.1 HZ.out.2.2.1 (Tr.refl mid b xs) (show Srt key mid b xs from by have h9 : en = mid := (by omega); exact h9 ▸ (HQ.out.resolve_right (by omega)).2.1), HZ.out.2.2.2⟩
end Go.Proofs.YtpmgmekbnbligaaGreat
