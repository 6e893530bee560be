/- The steps of slices.SortStableFunc on a row of numbers: two sorted stretches merged. -/
import Derived.Test.YtpmgmekbnbligaaGreatZlStabI
set_option linter.all false
set_option linter.unusedSimpArgs false
set_option linter.unusedVariables false
namespace Go.Proofs.YtpmgmekbnbligaaGreat
open Go.ChangeShapes Go.WideShapes Go.ChangeAt Go.RowKit Go.Deep

/-- the search's outcome -/
structure Fnd (key : Int → Int) (s st0 r0 st r : Nat) (xs : List Int) : Prop where
  lo : st = st0 ∨ (st0 < st ∧ ltK key (gi xs (st - 1)) (gi xs (s - st)))
  hi : r = r0 ∨ (r < r0 ∧ ltK key (gi xs (s - 1 - r)) (gi xs r))
/-- the search's bounds -/
structure Bd (a m b mid s st0 r0 : Nat) : Prop where
  a0 : a ≤ st0
  st : st0 ≤ r0
  rmid : r0 ≤ mid
  rm : r0 ≤ m
  sb : s ≤ st0 + b
  ms : m < s
  mm : m + mid = s
  am : a < mid
  mb : mid < b
  lo : st0 = a ∨ st0 + b = s
  hi : r0 = mid ∨ r0 = m
theorem bd_make {a m b mid s : Nat} (ha : a + 2 ≤ m) (hb : m + 2 ≤ b) (hmid : mid = (a + b) / 2) (hs : s = mid + m) : ∃ st0 r0 : Nat, ((mid < m ∧ st0 + b = s ∧ r0 = mid) ∨ (m ≤ mid ∧ st0 = a ∧ r0 = m)) ∧ Bd a m b mid s st0 r0 := by
  have k1 : 2 * mid ≤ a + b := by omega
  have k2 : a + b ≤ 2 * mid + 1 := by omega
  clear hmid
  by_cases h : mid < m
  · exact ⟨s - b, mid, .inl ⟨h, by omega, rfl⟩, by omega, by omega, by omega, by omega, by omega, by omega, by omega, by omega, by omega, .inr (by omega), .inl rfl⟩
  · exact ⟨a, m, .inr ⟨by omega, rfl, rfl⟩, by omega, by omega, by omega, by omega, by omega, by omega, by omega, by omega, by omega, .inl rfl, .inr rfl⟩
theorem half_of {key : Int → Int} {a m b mid s st0 r0 st en : Nat} {xs ys : List Int} (h1 : Srt key a m xs) (h2 : Srt key m b xs) (hc : Cut a m b xs) (B : Bd a m b mid s st0 r0) (hlo : st0 ≤ st) (hhi : st ≤ r0) (F : Fnd key s st0 r0 st st xs) (hen : en + st = s) (h : Rot st m en xs ys) : Half key a st mid en b ys := by
  obtain ⟨b1, b2, b3, b4, b5, b6, b7, b8, b9, b10, b11⟩ := B
  obtain ⟨f1, f2⟩ := F
  have he : m ≤ en := by omega
  have hm : st + (en - m) = mid := by omega
  refine hm ▸ half h1 h2 hc (by omega) (by omega) he (by omega) (fun k1 k2 => ?_) (fun k1 k2 => ?_) h
  · rcases f1 with f1 | ⟨_, f1⟩
    · rcases b10 with b10 | b10 <;> omega
    · rwa [show s - st = en by omega] at f1
  · rcases f2 with f2 | ⟨_, f2⟩
    · rcases b11 with b11 | b11 <;> omega
    · rwa [show s - 1 - st = en - 1 by omega] at f2
/-- what the merge of stretches of d numbers is to do -/
def SymC (W0 : World) (g t n c N : Nat) (cv : Value) (key : Int → Int) (d : Nat) : Prop := ∀ (w : World) (a m b : Nat) (xs : List Int), b - a ≤ d → RowI w g t xs → xs.length = n → a < m → m < b → b ≤ n → Srt key a m xs → Srt key m b xs → Cut a m b xs → AllIn N xs → Touch [g] W0 w →
    Calls Tryz.prog 72 #[.slice (some ⟨g, 0, none⟩) n c, .int .i64 a, .int .i64 m, .int .i64 b, .func (.func 27) #[] #[cv]] w fun e w' => e = .returned (.tuple #[]) ∧ ∃ ys, RowI w' g t ys ∧ Tr a b xs ys ∧ Srt key a b ys ∧ Touch [g] w w'
set_option maxRecDepth 100000 in
set_option maxHeartbeats 16000000 in
theorem symA {W0 : World} {g t n c N : Nat} {cv : Value} {key : Int → Int} (hl : n ≤ 1000000) (hc : CmpI Tryz.prog 27 cv key W0 g N) {w : World} {a b : Nat} {xs : List Int} (hR : RowI w g t xs) (hn : xs.length = n) (hm : a + 1 < b) (hb : b ≤ n) (hs2 : Srt key (a + 1) b xs) (hcut : Cut a (a + 1) b xs) (hall : AllIn N xs) (hw : Touch [g] W0 w) :
    Calls Tryz.prog 72 #[.slice (some ⟨g, 0, none⟩) n c, .int .i64 a, .int .i64 ((a + 1 : Nat) : Int), .int .i64 b, .func (.func 27) #[] #[cv]] w fun e w' => e = .returned (.tuple #[]) ∧ ∃ ys, RowI w' g t ys ∧ Tr a b xs ys ∧ Srt key a b ys ∧ Touch [g] w w' := by
  have HR := Lib.hid hR
  have HN := Lib.hid hn
  have HA := Lib.hid hall
  have HW := Lib.hid hw
  have HC := Lib.hid hc
  have H2 := Lib.hid hs2
  have HX := Lib.hid hcut
  clear hR hn hall hw hs2 hcut hc
  obtain ⟨m, hm1⟩ : ∃ m, m = a + 1 := ⟨_, rfl⟩
  rw [← hm1]
  have HM := Lib.hid hm1
  have ema : (m : Int) - (a : Int) = 1 := by omega
  clear hm1
  have haz : (a : Int) < (n : Int) := by omega
  go_enter Tryz.func72, Tryz.ntmps72
  go_wp2
  go_loopw [10, 11] (fun u v wr => ∃ i j : Nat, u = .int .i64 i ∧ v = .int .i64 j ∧ a + 1 ≤ i ∧ i ≤ j ∧ j ≤ b ∧ Hid ((∀ p, a + 1 ≤ p → p < i → ltK key (gi xs p) (gi xs a)) ∧ (∀ p, j ≤ p → p < b → ltK key (gi xs a) (gi xs p))) ∧ Hid (RowI wr g t xs ∧ Touch [g] w wr)) (fun u v _ => (intOf v).toNat - (intOf u).toNat)
  case atStart => exact ⟨m, b, rfl, rfl, by have := HM.out; omega, by have := HM.out; omega, Nat.le_refl _, Lib.hid ⟨fun p h1 h2 => by have := HM.out; omega, fun p h1 h2 => by omega⟩, Lib.hid ⟨HR.out, Touch.refl _ _⟩⟩
  case round =>
    obtain ⟨i, j, rfl, rfl, hi, hij, hj, HI, HT⟩ := hrel
    by_cases hlt : i < j
    · have hltz : (i : Int) < (j : Int) := by omega
      have cm := HT.out.1.cell (i := (i + j) / 2) (by have := HN.out; omega)
      have ca := HT.out.1.cell (i := a) (by have := HN.out; omega)
      have hk := fun q => HC.out.at_ (HW.out.trans HT.out.2) (HA.out.gi (i := (i + j) / 2) (by have := HN.out; omega)) (HA.out.gi (i := a) (by have := HN.out; omega)) q
      obtain ⟨x, hx⟩ : ∃ x, x = gi xs ((i + j) / 2) := ⟨_, rfl⟩
      obtain ⟨y, hy⟩ : ∃ y, y = gi xs a := ⟨_, rfl⟩
      rw [← hx] at cm hk
      rw [← hy] at ca hk
      have HXV := Lib.hid hx
      have HYV := Lib.hid hy
      clear hx hy
      obtain ⟨h, hh⟩ : ∃ h, h = (i + j) / 2 := ⟨_, rfl⟩
      have eh : ((i : Int) + (j : Int)) / 2 = (h : Int) := by omega
      have hhn : (h : Int) < (n : Int) := by omega
      rw [← hh] at cm HXV
      have HH := Lib.hid hh; clear hh
      by_cases hlv : key x - key y < 0
      · go_wp2_with fail
        go_quiet (first | (go_at_call 27; refine Calls.quiet_of (hk _)))
        go_wp2
        go_roundw
        case rel =>
          refine ⟨h + 1, j, by go_num, rfl, by have := HH.out; omega, by have := HH.out; omega, hj, Lib.hid ⟨fun p h1 h2 => ?_, HI.out.2⟩, Lib.hid ⟨HT.out.1.drewN nq, HT.out.2.drewN nq⟩⟩
          have k0 : ltK key (gi xs h) (gi xs a) := .inl (by rw [← HXV.out, ← HYV.out]; omega)
          by_cases e : p = h
          · rw [e]; exact k0
          · exact (H2.out p h h1 (by omega) (by have := HH.out; omega)).trans k0
        case measure => simp [intOf]; have := HH.out; omega
      · go_wp2_with fail
        go_quiet (first | (go_at_call 27; refine Calls.quiet_of (hk _)))
        go_wp2
        go_roundw
        case rel =>
          refine ⟨i, h, rfl, rfl, hi, by have := HH.out; omega, by have := HH.out; omega, Lib.hid ⟨HI.out.1, fun p h1 h2 => ?_⟩, Lib.hid ⟨HT.out.1.drewN nq, HT.out.2.drewN nq⟩⟩
          have k0 : ltK key (gi xs a) (gi xs h) := ltK.of_le (by rw [← HXV.out, ← HYV.out]; omega) (HX.out a h (Nat.le_refl _) (by omega) (by have := HH.out; omega) (by have := HH.out; omega))
          by_cases e : p = h
          · rw [e]; exact k0
          · exact k0.trans (H2.out h p (by have := HH.out; omega) (by omega) h2)
        case measure => simp [intOf]; have := HH.out; omega
    · obtain rfl : j = i := by omega
      have hltz : ¬ (j : Int) < (j : Int) := by omega
      have ei : (j : Int) - 1 = ((j - 1 : Nat) : Int) := by omega
      obtain ⟨wo, hwo⟩ : ∃ wo, wo = wr := ⟨_, rfl⟩
      rw [← hwo] at HT ⊢
      clear hwo hltz hlt hij
      go_wp2
      go_loopw [13] (fun u wr => ∃ (k : Nat) (ys : List Int), u = .int .i64 k ∧ a ≤ k ∧ k + 1 ≤ j ∧ Hid (RowI wr g t ys ∧ Rot a (a + 1) (k + 1) xs ys ∧ Touch [g] w wr)) (fun u _ => j - (intOf u).toNat)
      case atStart => exact ⟨a, xs, rfl, Nat.le_refl _, hi, Lib.hid ⟨HT.out.1, Rot.left (Nat.le_refl _), HT.out.2⟩⟩
      case round =>
        obtain ⟨k, ys, rfl, hak, hkj, HK⟩ := hrel
        by_cases hlt : k < j - 1
        · have hltz : (k : Int) < ((j - 1 : Nat) : Int) := by omega
          have hyl : ys.length = n := HK.out.2.1.tr.len.trans HN.out
          obtain ⟨k1, hk1⟩ : ∃ k1, k1 = k + 1 := ⟨_, rfl⟩
          have ek : (k : Int) + 1 = (k1 : Int) := by omega
          have z1 : (k : Int) < (n : Int) := by omega
          have z2 : (k1 : Int) < (n : Int) := by omega
          have c1 := HK.out.1.cell (i := k) (by omega)
          have c2 := HK.out.1.cell (i := k1) (by omega)
          have f1 := HK.out.1.frozen k
          have f2 := HK.out.1.frozen k1
          obtain ⟨u2, d2⟩ := HK.out.1.cell2 (i := k) (j := k1) (by omega) (by omega) (gi ys k1)
          have h2 := Lib.hid (HK.out.1.swp (i := k) (j := k1) (by omega) (by omega))
          have R2 := Lib.hid (hk1 ▸ HK.out.2.1.up hak (by have := HN.out; omega) : Rot a (a + 1) (k + 2) xs (swp ys k k1))
          have K1 := Lib.hid hk1
          clear hk1 hyl
          go_wp2_with fail
          go_big_region
          all_goals go_wp2
          go_roundw
          case rel => exact ⟨k + 1, swp ys k k1, by first | rfl | (rw [← K1.out]) | go_num, by omega, by omega, Lib.hid ⟨h2.out.drewN 1, R2.out, (HK.out.2.2.swp _ _).drewN 1⟩⟩
          case measure => simp [intOf]; have := K1.out; omega
        · have hltz : ¬ (k : Int) < ((j - 1 : Nat) : Int) := by omega
          have hkk : k + 1 = j := by omega
          go_wp2
          ((try simp only [Exit.inBlock, Exit.then]); refine bodyPost_ret (results_none rfl _ _ _) rfl ?_)
          refine ⟨rfl, ys, HK.out.1, HK.out.2.1.tr.mono (Nat.le_refl _) (by omega), ?_, HK.out.2.2⟩
          exact one_left H2.out hi hj HI.out.1 HI.out.2 (hkk ▸ HK.out.2.1)
set_option maxRecDepth 100000 in
set_option maxHeartbeats 16000000 in
theorem symB {W0 : World} {g t n c N : Nat} {cv : Value} {key : Int → Int} (hl : n ≤ 1000000) (hc : CmpI Tryz.prog 27 cv key W0 g N) {w : World} {a m : Nat} {xs : List Int} (hR : RowI w g t xs) (hn : xs.length = n) (ha : a + 1 < m) (hb : m + 1 ≤ n) (hs1 : Srt key a m xs) (hcut : Cut a m (m + 1) xs) (hall : AllIn N xs) (hw : Touch [g] W0 w) :
    Calls Tryz.prog 72 #[.slice (some ⟨g, 0, none⟩) n c, .int .i64 a, .int .i64 m, .int .i64 ((m + 1 : Nat) : Int), .func (.func 27) #[] #[cv]] w fun e w' => e = .returned (.tuple #[]) ∧ ∃ ys, RowI w' g t ys ∧ Tr a (m + 1) xs ys ∧ Srt key a (m + 1) ys ∧ Touch [g] w w' := by
  have HR := Lib.hid hR
  have HN := Lib.hid hn
  have HA := Lib.hid hall
  have HW := Lib.hid hw
  have HC := Lib.hid hc
  have H1 := Lib.hid hs1
  have HX := Lib.hid hcut
  clear hR hn hall hw hs1 hcut hc
  obtain ⟨b, hb1⟩ : ∃ b, b = m + 1 := ⟨_, rfl⟩
  rw [← hb1]
  have HM := Lib.hid hb1
  have ema : (m : Int) - (a : Int) = ((m - a : Nat) : Int) := by omega
  have q1 : (((m - a : Nat) : Int) == 1) = false := ieq_f (by omega)
  have emb : (b : Int) - (m : Int) = 1 := by omega
  clear hb1
  have hmz : (m : Int) < (n : Int) := by omega
  go_enter Tryz.func72, Tryz.ntmps72
  go_wp2
  go_loopw [14, 15] (fun u v wr => ∃ i j : Nat, u = .int .i64 i ∧ v = .int .i64 j ∧ a ≤ i ∧ i ≤ j ∧ j ≤ m ∧ Hid ((∀ p, a ≤ p → p < i → ltK key (gi xs p) (gi xs m)) ∧ (∀ p, j ≤ p → p < m → ltK key (gi xs m) (gi xs p))) ∧ Hid (RowI wr g t xs ∧ Touch [g] w wr)) (fun u v _ => (intOf v).toNat - (intOf u).toNat)
  case atStart => exact ⟨a, m, rfl, rfl, Nat.le_refl _, by omega, Nat.le_refl _, Lib.hid ⟨fun p h1 h2 => by omega, fun p h1 h2 => by omega⟩, Lib.hid ⟨HR.out, Touch.refl _ _⟩⟩
  case round =>
    obtain ⟨i, j, rfl, rfl, hi, hij, hj, HI, HT⟩ := hrel
    by_cases hlt : i < j
    · have hltz : (i : Int) < (j : Int) := by omega
      have cm := HT.out.1.cell (i := (i + j) / 2) (by have := HN.out; omega)
      have ca := HT.out.1.cell (i := m) (by have := HN.out; omega)
      have hk := fun q => HC.out.at_ (HW.out.trans HT.out.2) (HA.out.gi (i := m) (by have := HN.out; omega)) (HA.out.gi (i := (i + j) / 2) (by have := HN.out; omega)) q
      obtain ⟨x, hx⟩ : ∃ x, x = gi xs m := ⟨_, rfl⟩
      obtain ⟨y, hy⟩ : ∃ y, y = gi xs ((i + j) / 2) := ⟨_, rfl⟩
      rw [← hx] at ca hk
      rw [← hy] at cm hk
      have HXV := Lib.hid hx
      have HYV := Lib.hid hy
      clear hx hy
      obtain ⟨h, hh⟩ : ∃ h, h = (i + j) / 2 := ⟨_, rfl⟩
      have eh : ((i : Int) + (j : Int)) / 2 = (h : Int) := by omega
      have hhn : (h : Int) < (n : Int) := by omega
      rw [← hh] at cm HYV
      have HH := Lib.hid hh; clear hh
      by_cases hlv : key x - key y < 0
      · go_wp2_with fail
        go_quiet (first | (go_at_call 27; refine Calls.quiet_of (hk _)))
        go_wp2
        go_roundw
        case rel =>
          refine ⟨i, h, rfl, rfl, hi, by have := HH.out; omega, by have := HH.out; omega, Lib.hid ⟨HI.out.1, fun p h1 h2 => ?_⟩, Lib.hid ⟨HT.out.1.drewN nq, HT.out.2.drewN nq⟩⟩
          have k0 : ltK key (gi xs m) (gi xs h) := .inl (by rw [← HXV.out, ← HYV.out]; omega)
          by_cases e : p = h
          · rw [e]; exact k0
          · exact k0.trans (H1.out h p (by have := HH.out; omega) (by omega) h2)
        case measure => simp [intOf]; have := HH.out; omega
      · have hlw : (!decide (key x - key y < 0)) = true := by rw [decide_eq_false hlv]; rfl
        go_wp2_with fail
        go_quiet (first | (go_at_call 27; refine Calls.quiet_of (hk _)))
        go_wp2
        go_roundw
        case rel =>
          refine ⟨h + 1, j, by go_num, rfl, by have := HH.out; omega, by have := HH.out; omega, hj, Lib.hid ⟨fun p h1 h2 => ?_, HI.out.2⟩, Lib.hid ⟨HT.out.1.drewN nq, HT.out.2.drewN nq⟩⟩
          have k0 : ltK key (gi xs h) (gi xs m) := ltK.of_le (by rw [← HXV.out, ← HYV.out]; omega) (HX.out h m (by have := HH.out; omega) (by have := HH.out; omega) (Nat.le_refl _) (Nat.lt_succ_self _))
          by_cases e : p = h
          · rw [e]; exact k0
          · exact (H1.out p h h1 (by omega) (by have := HH.out; omega)).trans k0
        case measure => simp [intOf]; have := HH.out; omega
    · obtain rfl : j = i := by omega
      have hltz : ¬ (j : Int) < (j : Int) := by omega
      obtain ⟨wo, hwo⟩ : ∃ wo, wo = wr := ⟨_, rfl⟩
      rw [← hwo] at HT ⊢
      clear hwo hltz hlt hij
      go_wp2
      go_loopw [17] (fun u wr => ∃ (k : Nat) (ys : List Int), u = .int .i64 k ∧ j ≤ k ∧ k ≤ m ∧ Hid (RowI wr g t ys ∧ Rot k m (m + 1) xs ys ∧ Touch [g] w wr)) (fun u _ => (intOf u).toNat)
      case atStart => exact ⟨m, xs, rfl, hj, Nat.le_refl _, Lib.hid ⟨HT.out.1, Rot.right rfl, HT.out.2⟩⟩
      case round =>
        obtain ⟨k, ys, rfl, hak, hkj, HK⟩ := hrel
        by_cases hlt : j < k
        · obtain ⟨kp, rfl⟩ : ∃ kp, k = kp + 1 := ⟨k - 1, by omega⟩
          have hltz : (j : Int) < (kp : Int) + 1 := by omega
          have hyl : ys.length = n := HK.out.2.1.tr.len.trans HN.out
          obtain ⟨k1, hk1⟩ : ∃ k1, k1 = kp + 1 := ⟨_, rfl⟩
          have hwp : IntKind.i64.wrap (kp : Int) = (kp : Int) := by rw [IntKind.wrap_i64]; omega
          have z1 : (kp : Int) < (n : Int) := by omega
          have z2 : (kp : Int) + 1 < (n : Int) := by omega
          have p0 : (0 : Int) ≤ (kp : Int) + 1 := by omega
          have e0 : ((kp : Int) + 1).toNat = k1 := by omega
          have c1 := HK.out.1.cell (i := kp) (by omega)
          have c2 := HK.out.1.cell (i := k1) (by omega)
          have f1 := HK.out.1.frozen kp
          have f2 := HK.out.1.frozen k1
          obtain ⟨u2, d2⟩ := HK.out.1.cell2 (i := k1) (j := kp) (by omega) (by omega) (gi ys kp)
          have h2 := Lib.hid (HK.out.1.swp (i := k1) (j := kp) (by omega) (by omega))
          have R2 := Lib.hid (hk1 ▸ HK.out.2.1.down hkj (by have := HN.out; omega) : Rot kp m (m + 1) xs (swp ys k1 kp))
          have K1 := Lib.hid hk1
          clear hk1 hyl
          go_wp2_with fail
          go_big_region
          all_goals go_wp2
          go_roundw
          case rel => exact ⟨kp, swp ys k1 kp, by first | rfl | (rw [← K1.out]) | go_num, by omega, by omega, Lib.hid ⟨h2.out.drewN 1, R2.out, (HK.out.2.2.swp _ _).drewN 1⟩⟩
          case measure => simp [intOf] <;> omega
        · have hltz : ¬ (j : Int) < (k : Int) := by omega
          have hkk : k = j := by omega
          subst hkk
          go_wp2
          ((try simp only [Exit.inBlock, Exit.then]); refine bodyPost_ret (results_none rfl _ _ _) rfl ?_)
          rw [HM.out]
          exact ⟨rfl, ys, HK.out.1, HK.out.2.1.tr.mono hi (Nat.le_refl _), one_right H1.out hi hj HI.out.1 HI.out.2 HK.out.2.1, HK.out.2.2⟩
end Go.Proofs.YtpmgmekbnbligaaGreat
