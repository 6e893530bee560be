/- Equality of nests: l2SideSame, NestSame of the reference; NestSame of the program. -/
import Derived.Test.YtlllidhmohdgiaaSqAffine
import Derived.Test.YtlllidhmohdgiaaSqLoop
import Derived.Test.YtlllidhmohdgiaaSame
import Derived.Test.YtlllidhmohdgiaaRegion
set_option linter.all false
set_option linter.unusedSimpArgs false
set_option linter.unusedVariables false
namespace Go.Proofs.Ytlllidhmohdgiaa
open Go.ChangeShapes Go.WideShapes Go.ChangeAt Go.RowKit Go.Deep

def sideSame (a b : List Aff) : Bool := allEq affSame a b
def lpSame (a b : Lp) : Bool := sideSame a.lo b.lo && sideSame a.hi b.hi
def NestSameF (a b : List Lp) : Bool := allEq lpSame a b

section
variable {w : World} {A B : Option Addr} {n m c d : Nat} {bs bs' : List Nat}

theorem specAffineSame_d {x y : Aff} {cs cs' : List Value} (h : Rep w x.d cs bs) (h' : Rep w y.d cs' bs') :
    Calls Try.prog 130 #[.agg cs.toArray, .agg cs'.toArray] w fun e w' => e = .returned (.bool (affSame x y)) ∧ Below w.heap.size w w' := by
  obtain ⟨A, n, c, rfl, _⟩ := Rep.aff_iff.1 h
  obtain ⟨A', n', c', rfl, _⟩ := Rep.aff_iff.1 h'
  exact specAffineSame_c h h'
theorem implAffineSame_d {x y : Aff} {cs cs' : List Value} (h : Rep w x.d cs bs) (h' : Rep w y.d cs' bs') :
    Calls Try.prog 72 #[.agg cs.toArray, .agg cs'.toArray] w fun e w' => e = .returned (.bool (affSame x y)) ∧ Below w.heap.size w w' := by
  obtain ⟨A, n, c, rfl, _⟩ := Rep.aff_iff.1 h
  obtain ⟨A', n', c', rfl, _⟩ := Rep.aff_iff.1 h'
  exact implAffineSame_c h h'
theorem implAffineSame_k {x y : Aff} {cs cs' : List Value} (h : Rep w x.d cs bs) (h' : Rep w y.d cs' bs') :
    Calls Try.prog 72 (#[.agg cs.toArray, .agg cs'.toArray] ++ #[]) w fun e w' => e = .returned (.bool (affSame x y)) ∧ Below w.heap.size w w' := implAffineSame_d h h'
theorem implAffineSame_e : Enters Try.prog 72 := fun args W => by go_simp

set_option maxHeartbeats 1000000 in
theorem l2SideSame_c {xs ys : List Aff} (h : Rep w (sls Aff.d xs) [.slice A n c] bs) (h' : Rep w (sls Aff.d ys) [.slice B m d] bs') :
    Calls Try.prog 67 #[.slice A n c, .slice B m d] w fun e w' => e = .returned (.bool (sideSame xs ys)) ∧ Below w.heap.size w w' := by
  unfold sideSame
  obtain ⟨rfl, h1, h2⟩ := h.sls_len
  obtain ⟨rfl, h3, h4⟩ := h'.sls_len
  have hn : xs.length ≤ 9223372036854775807 := Nat.le_trans h1 h2
  have hm : ys.length ≤ 9223372036854775807 := Nat.le_trans h3 h4
  clear h1 h2 h3 h4
  have H := Lib.hid h; clear h
  have H' := Lib.hid h'; clear h'
  by_cases hl : xs.length = ys.length
  · have hl1 : ((xs.length : Int) != (ys.length : Int)) = false := by simp [hl]
    have HL := Lib.hid hl; clear hl
    go_enter Try.func67, Try.ntmps67
    go_wp2
    go_loopw [5] (fun i wr => ∃ j : Nat, j ≤ xs.length ∧ i = .int .i64 j ∧ allEq affSame xs ys = allEq affSame (xs.drop j) (ys.drop j) ∧ Below w.heap.size w wr) (fun i _ => xs.length - (intOf i).toNat)
    case atStart => exact ⟨0, Nat.zero_le _, rfl, by simp, Below.refl _ _⟩
    case round =>
      obtain ⟨j, hj, rfl, hi, hb⟩ := hrel
      have HI := Lib.hid hi; clear hi
      by_cases hlt : j < xs.length
      · have hlt2 : j < ys.length := by rw [← HL.out]; exact hlt
        have hd := Lib.hid (allEq_drop affSame xs ys j hlt hlt2)
        obtain ⟨b, o, cs, l, rfl, hbl, hr, _, _, hc⟩ := (H.out.below hb).sls_at Aff.d_size (k := j) hlt
        have G := Lib.hid hr
        obtain ⟨A1, c1, d1, rfl, rfl, g1, g2⟩ := Rep.aff_iff2.1 hr
        have k0 := (hc 0 _ rfl).1; rw [Nat.add_zero] at k0
        have k1 := (hc 1 _ rfl).1
        have Q1 := Lib.hid g1
        have Q2 := Lib.hid g2
        clear hc hr g1 g2
        obtain ⟨b', o', cs', l', rfl, hbl', hr', _, _, hc'⟩ := (H'.out.below hb).sls_at Aff.d_size (k := j) hlt2
        have G' := Lib.hid hr'
        obtain ⟨A1', c1', d1', rfl, rfl, g1', g2'⟩ := Rep.aff_iff2.1 hr'
        have k0' := (hc' 0 _ rfl).1; rw [Nat.add_zero] at k0'
        have k1' := (hc' 1 _ rfl).1
        have Q1' := Lib.hid g1'
        have Q2' := Lib.hid g2'
        clear hc' hr' g1' g2'
        have hja : (j : Int) < (ys.length : Int) := by omega
        go_wp2_with fail
        go_region_held3 (fun w' => (w'.cell? ⟨b, o + j * 2, none⟩ = some (.slice A1 xs[j].coefs.length c1) ∧ w'.cell? ⟨b, o + j * 2 + 1, none⟩ = some (.int .i64 xs[j].const)) ∧ (w'.cell? ⟨b', o' + j * 2, none⟩ = some (.slice A1' ys[j].coefs.length c1') ∧ w'.cell? ⟨b', o' + j * 2 + 1, none⟩ = some (.int .i64 ys[j].const))) (first | exact ⟨⟨k0, k1⟩, ⟨k0', k1'⟩⟩ | (refine ⟨⟨?_, ?_⟩, ⟨?_, ?_⟩⟩ <;> (first | (rw [b1.cell hbl]; assumption) | (rw [b1.cell hbl']; assumption))) | skip)
          (first | (go_at_call 130; refine (specAffineSame_d (G.out.drewN 1) (G'.out.drewN 1)).mono ?_; rintro e w1 ⟨rfl, b1⟩; replace b1 := of_drew b1))
        have S1 := below_tr hb b1
        clear b1
        cases hp : affSame xs[j] ys[j] with
        | false =>
          have HX := Lib.hid (hd.out.trans (by rw [hp, Bool.false_and])); clear hp
          go_wp2
          go_ret
          exact ⟨ret_bool (by rw [HI.out, HX.out]), S1⟩
        | true =>
          have HX := Lib.hid (hd.out.trans (by rw [hp, Bool.true_and])); clear hp
          go_wp2
          go_roundw
          case rel => exact ⟨j + 1, by omega, by go_num, by rw [HI.out, HX.out], S1⟩
          case measure => simp [intOf]; omega
      · have hjj : j = xs.length := by omega
        subst hjj
        go_wp2
        go_ret
        exact ⟨ret_bool (by rw [HI.out, List.drop_length, HL.out, List.drop_length]; rfl), hb⟩
  · have hl1 : ((xs.length : Int) != (ys.length : Int)) = true := by simp; omega
    have HR := Lib.hid (allEq_ne affSame xs ys hl); clear hl
    go_enter Try.func67, Try.ntmps67
    go_wp2
    go_ret
    exact ⟨ret_bool HR.out.symm, (by repeat (first | with_reducible exact Below.refl _ _ | refine Below.setCell ?_ (by simp; try omega) _ | refine below_al ?_ _ | refine Below.alloc ?_ (by simp [World.setCell]; try omega) _ | refine below_drewN ?_ _ | refine Below.drew ?_ | refine below_tr ?_ ‹Below _ _ _›))⟩

set_option maxHeartbeats 2000000 in
theorem specNestSame_c {xs ys : List Lp} (h : Rep w (sls Lp.d xs) [.slice A n c] bs) (h' : Rep w (sls Lp.d ys) [.slice B m d] bs') :
    Calls Try.prog 22 #[.slice A n c, .slice B m d] w fun e w' => e = .returned (.bool (NestSameF xs ys)) ∧ Below w.heap.size w w' := by
  unfold NestSameF
  obtain ⟨rfl, h1, h2⟩ := h.sls_len
  obtain ⟨rfl, h3, h4⟩ := h'.sls_len
  have hn : xs.length ≤ 9223372036854775807 := Nat.le_trans h1 h2
  have hm : ys.length ≤ 9223372036854775807 := Nat.le_trans h3 h4
  clear h1 h2 h3 h4
  have H := Lib.hid h; clear h
  have H' := Lib.hid h'; clear h'
  by_cases hl : xs.length = ys.length
  · have hl1 : ((xs.length : Int) != (ys.length : Int)) = false := by simp [hl]
    have HL := Lib.hid hl; clear hl
    go_enter Try.func22, Try.ntmps22
    go_wp2
    go_loopw [5] (fun i wr => ∃ j : Nat, j ≤ xs.length ∧ i = .int .i64 j ∧ allEq lpSame xs ys = allEq lpSame (xs.drop j) (ys.drop j) ∧ Below w.heap.size w wr) (fun i _ => xs.length - (intOf i).toNat)
    case atStart => exact ⟨0, Nat.zero_le _, rfl, by simp, Below.refl _ _⟩
    case round =>
      obtain ⟨j, hj, rfl, hi, hb⟩ := hrel
      have HI := Lib.hid hi; clear hi
      by_cases hlt : j < xs.length
      · have hlt2 : j < ys.length := by rw [← HL.out]; exact hlt
        have hd := Lib.hid (allEq_drop lpSame xs ys j hlt hlt2)
        obtain ⟨b, o, cs, l, rfl, hbl, hr, _, _, hc⟩ := (H.out.below hb).sls_at Lp.d_size (k := j) hlt
        have G := Lib.hid hr
        obtain ⟨A1, c1, A2, c2, d1, d2, rfl, rfl, g1, g2⟩ := Rep.lp_iff.1 hr
        have k0 := (hc 0 _ rfl).1; rw [Nat.add_zero] at k0
        have k1 := (hc 1 _ rfl).1
        have Q1 := Lib.hid g1
        have Q2 := Lib.hid g2
        clear hc hr g1 g2
        obtain ⟨b', o', cs', l', rfl, hbl', hr', _, _, hc'⟩ := (H'.out.below hb).sls_at Lp.d_size (k := j) hlt2
        have G' := Lib.hid hr'
        obtain ⟨A1', c1', A2', c2', d1', d2', rfl, rfl, g1', g2'⟩ := Rep.lp_iff.1 hr'
        have k0' := (hc' 0 _ rfl).1; rw [Nat.add_zero] at k0'
        have k1' := (hc' 1 _ rfl).1
        have Q1' := Lib.hid g1'
        have Q2' := Lib.hid g2'
        clear hc' hr' g1' g2'
        have hja : (j : Int) < (ys.length : Int) := by omega
        cases h1 : sideSame xs[j].lo ys[j].lo with
        | false =>
          have HX := Lib.hid (show allEq lpSame (xs.drop j) (ys.drop j) = false from hd.out.trans (by simp only [lpSame, h1, Bool.false_and]))
          have H1 := Lib.hid h1; clear h1
          go_wp2_with fail
          refine wp_region_noPanic ?_
          refine wp_region_held_drew (S := fun w' => (w'.cell? ⟨b, o + j * 2, none⟩ = some (.slice A1 xs[j].lo.length c1) ∧ w'.cell? ⟨b, o + j * 2 + 1, none⟩ = some (.slice A2 xs[j].hi.length c2)) ∧ (w'.cell? ⟨b', o' + j * 2, none⟩ = some (.slice A1' ys[j].lo.length c1') ∧ w'.cell? ⟨b', o' + j * 2 + 1, none⟩ = some (.slice A2' ys[j].hi.length c2'))) (by kernel_rfl) (⟨⟨k0, k1⟩, ⟨k0', k1'⟩⟩) (fun hHeld => ?_)
          refine takeR (i := 0) (v := ?_) rfl rfl (by kernel_rfl) (by kernel_rfl) (by kernel_rfl) (fun _ _ _ h => h) ?_ hHeld ?_
          rotate_left 1
          · intro w hSw; (try dsimp only at hSw); go_simp
            try with_reducible rfl
          simp only [Act.put, List.setIfInBounds_toArray, List.set_cons_zero, List.set_cons_succ]
          refine takeR (i := 1) (v := ?_) rfl rfl (by kernel_rfl) (by kernel_rfl) (by kernel_rfl) (fun _ _ _ h => h) ?_ hHeld ?_
          rotate_left 1
          · intro w hSw; (try dsimp only at hSw); go_simp
            try with_reducible rfl
          simp only [Act.put, List.setIfInBounds_toArray, List.set_cons_zero, List.set_cons_succ]
          refine takeR (i := 2) (v := ?_) rfl rfl (by kernel_rfl) (by kernel_rfl) (by kernel_rfl) (fun _ _ _ h => h) ?_ hHeld ?_
          rotate_left 1
          · intro w hSw; (try dsimp only at hSw); go_simp
            try with_reducible rfl
          simp only [Act.put, List.setIfInBounds_toArray, List.set_cons_zero, List.set_cons_succ]
          refine takeR (i := 3) (v := ?_) rfl rfl (by kernel_rfl) (by kernel_rfl) (by kernel_rfl) (fun _ _ _ h => h) ?_ hHeld ?_
          rotate_left 1
          · intro w hSw; (try dsimp only at hSw); go_simp
            try with_reducible rfl
          simp only [Act.put, List.setIfInBounds_toArray, List.set_cons_zero, List.set_cons_succ]
          refine takeR (i := 4) (v := ?_) rfl rfl (by kernel_rfl) (by kernel_rfl) (by kernel_rfl) (fun _ _ _ h => h) ?_ hHeld ?_
          rotate_left 1
          · intro w hSw; (try dsimp only at hSw); go_simp
            try with_reducible rfl
          simp only [Act.put, List.setIfInBounds_toArray, List.set_cons_zero, List.set_cons_succ]
          refine takeR (i := 5) (v := ?_) rfl rfl (by kernel_rfl) (by kernel_rfl) (by kernel_rfl) (fun _ _ _ h => h) ?_ hHeld ?_
          rotate_left 1
          · intro w hSw; (try dsimp only at hSw); go_simp
            try with_reducible rfl
          simp only [Act.put, List.setIfInBounds_toArray, List.set_cons_zero, List.set_cons_succ]
          refine takeR (i := 6) (v := ?_) rfl rfl (by kernel_rfl) (by kernel_rfl) (by kernel_rfl) (fun _ _ _ h => h) ?_ hHeld ?_
          rotate_left 1
          · intro w hSw; (try dsimp only at hSw); go_simp
            try with_reducible rfl
          simp only [Act.put, List.setIfInBounds_toArray, List.set_cons_zero, List.set_cons_succ]
          refine takeR (i := 7) (v := ?_) rfl rfl (by kernel_rfl) (by kernel_rfl) (by kernel_rfl) (fun _ _ _ h => h) ?_ hHeld ?_
          rotate_left 1
          · intro w hSw; (try dsimp only at hSw); go_simp
            try with_reducible rfl
          simp only [Act.put, List.setIfInBounds_toArray, List.set_cons_zero, List.set_cons_succ]
          refine takeR (i := 8) (v := ?_) rfl rfl (by kernel_rfl) (by kernel_rfl) (by kernel_rfl) (fun _ _ _ h => h) ?_ hHeld ?_
          rotate_left 1
          · intro w hSw; (try dsimp only at hSw); go_simp
            try with_reducible rfl
          simp only [Act.put, List.setIfInBounds_toArray, List.set_cons_zero, List.set_cons_succ]
          refine takeR (i := 9) (v := ?_) rfl rfl (by kernel_rfl) (by kernel_rfl) (by kernel_rfl) (fun _ _ _ h => h) ?_ hHeld ?_
          rotate_left 1
          · intro w hSw; (try dsimp only at hSw); go_simp
            try with_reducible rfl
          simp only [Act.put, List.setIfInBounds_toArray, List.set_cons_zero, List.set_cons_succ]
          refine stepR (i := 10) rfl (by kernel_rfl) (wanted_none rfl) (fun K hK => ?_)
          go_simp
          (refine (l2SideSame_c (Q1.out.drewN 1) (Q1'.out.drewN 1)).mono ?_; rintro e w1 ⟨he, b1⟩; rw [H1.out] at he; subst he; replace b1 := of_drew b1)
          go_wp2_with fail
          refine hK.out _ _ (by refine ⟨⟨?_, ?_⟩, ⟨?_, ?_⟩⟩ <;> (first | (rw [b1.cell hbl]; assumption) | (rw [b1.cell hbl']; assumption))) (fun hHeld => ?_)
          clear hK K
          try simp only [Act.put, List.setIfInBounds_toArray, List.set_cons_zero, List.set_cons_succ]
          refine takeR (i := 11) (v := ?_) rfl rfl (by kernel_rfl) (by kernel_rfl) (by kernel_rfl) (fun _ _ _ h => h) ?_ hHeld ?_
          rotate_left 1
          · intro w hSw; (try dsimp only at hSw); go_simp
            try with_reducible rfl
          simp only [Act.put, List.setIfInBounds_toArray, List.set_cons_zero, List.set_cons_succ]
          refine takeR (i := 12) (v := ?_) rfl rfl (by kernel_rfl) (by kernel_rfl) (by kernel_rfl) (fun _ _ _ h => h) ?_ hHeld ?_
          rotate_left 1
          · intro w hSw; (try dsimp only at hSw); go_simp
            try with_reducible rfl
          simp only [Act.put, List.setIfInBounds_toArray, List.set_cons_zero, List.set_cons_succ]
          refine takeS (i := 13) rfl (by kernel_rfl) (by kernel_rfl) (by kernel_rfl) (by kernel_rfl) (fun _ _ _ h => h) hHeld ?_
          simp only [Act.put, List.setIfInBounds_toArray, List.set_cons_zero, List.set_cons_succ]
          refine takeS (i := 14) rfl (by kernel_rfl) (by kernel_rfl) (by kernel_rfl) (by kernel_rfl) (fun _ _ _ h => h) hHeld ?_
          simp only [Act.put, List.setIfInBounds_toArray, List.set_cons_zero, List.set_cons_succ]
          refine takeS (i := 15) rfl (by kernel_rfl) (by kernel_rfl) (by kernel_rfl) (by kernel_rfl) (fun _ _ _ h => h) hHeld ?_
          simp only [Act.put, List.setIfInBounds_toArray, List.set_cons_zero, List.set_cons_succ]
          refine takeS (i := 16) rfl (by kernel_rfl) (by kernel_rfl) (by kernel_rfl) (by kernel_rfl) (fun _ _ _ h => h) hHeld ?_
          simp only [Act.put, List.setIfInBounds_toArray, List.set_cons_zero, List.set_cons_succ]
          refine takeS (i := 17) rfl (by kernel_rfl) (by kernel_rfl) (by kernel_rfl) (by kernel_rfl) (fun _ _ _ h => h) hHeld ?_
          simp only [Act.put, List.setIfInBounds_toArray, List.set_cons_zero, List.set_cons_succ]
          refine takeS (i := 18) rfl (by kernel_rfl) (by kernel_rfl) (by kernel_rfl) (by kernel_rfl) (fun _ _ _ h => h) hHeld ?_
          simp only [Act.put, List.setIfInBounds_toArray, List.set_cons_zero, List.set_cons_succ]
          refine takeS (i := 19) rfl (by kernel_rfl) (by kernel_rfl) (by kernel_rfl) (by kernel_rfl) (fun _ _ _ h => h) hHeld ?_
          simp only [Act.put, List.setIfInBounds_toArray, List.set_cons_zero, List.set_cons_succ]
          refine takeS (i := 20) rfl (by kernel_rfl) (by kernel_rfl) (by kernel_rfl) (by kernel_rfl) (fun _ _ _ h => h) hHeld ?_
          simp only [Act.put, List.setIfInBounds_toArray, List.set_cons_zero, List.set_cons_succ]
          refine takeS (i := 21) rfl (by kernel_rfl) (by kernel_rfl) (by kernel_rfl) (by kernel_rfl) (fun _ _ _ h => h) hHeld ?_
          simp only [Act.put, List.setIfInBounds_toArray, List.set_cons_zero, List.set_cons_succ]
          refine takeS (i := 22) rfl (by kernel_rfl) (by kernel_rfl) (by kernel_rfl) (by kernel_rfl) (fun _ _ _ h => h) hHeld ?_
          simp only [Act.put, List.setIfInBounds_toArray, List.set_cons_zero, List.set_cons_succ]
          refine takeS (i := 23) rfl (by kernel_rfl) (by kernel_rfl) (by kernel_rfl) (by kernel_rfl) (fun _ _ _ h => h) hHeld ?_
          simp only [Act.put, List.setIfInBounds_toArray, List.set_cons_zero, List.set_cons_succ]
          refine takeS (i := 24) rfl (by kernel_rfl) (by kernel_rfl) (by kernel_rfl) (by kernel_rfl) (fun _ _ _ h => h) hHeld ?_
          simp only [Act.put, List.setIfInBounds_toArray, List.set_cons_zero, List.set_cons_succ]
          refine takeR (i := 25) (v := ?_) rfl rfl (by kernel_rfl) (by kernel_rfl) (by kernel_rfl) (fun _ _ _ h => h) ?_ hHeld ?_
          rotate_left 1
          · intro w hSw; (try dsimp only at hSw); go_simp
            try with_reducible rfl
          simp only [Act.put, List.setIfInBounds_toArray, List.set_cons_zero, List.set_cons_succ]
          refine wpAnyH_done (by kernel_rfl) ?_ _
          refine NoPanic.normal ?_
          have S1 := below_tr hb b1
          go_wp2
          go_ret
          exact ⟨ret_bool (by rw [HI.out, HX.out]), S1⟩
        | true =>
          have HX := Lib.hid (show allEq lpSame (xs.drop j) (ys.drop j) = (sideSame xs[j].hi ys[j].hi && allEq lpSame (xs.drop (j + 1)) (ys.drop (j + 1))) from hd.out.trans (by simp only [lpSame, h1, Bool.true_and]))
          have H1 := Lib.hid h1; clear h1
          go_wp2_with fail
          refine wp_region_noPanic ?_
          refine wp_region_held_drew (S := fun w' => (w'.cell? ⟨b, o + j * 2, none⟩ = some (.slice A1 xs[j].lo.length c1) ∧ w'.cell? ⟨b, o + j * 2 + 1, none⟩ = some (.slice A2 xs[j].hi.length c2)) ∧ (w'.cell? ⟨b', o' + j * 2, none⟩ = some (.slice A1' ys[j].lo.length c1') ∧ w'.cell? ⟨b', o' + j * 2 + 1, none⟩ = some (.slice A2' ys[j].hi.length c2'))) (by kernel_rfl) (⟨⟨k0, k1⟩, ⟨k0', k1'⟩⟩) (fun hHeld => ?_)
          refine takeR (i := 0) (v := ?_) rfl rfl (by kernel_rfl) (by kernel_rfl) (by kernel_rfl) (fun _ _ _ h => h) ?_ hHeld ?_
          rotate_left 1
          · intro w hSw; (try dsimp only at hSw); go_simp
            try with_reducible rfl
          simp only [Act.put, List.setIfInBounds_toArray, List.set_cons_zero, List.set_cons_succ]
          refine takeR (i := 1) (v := ?_) rfl rfl (by kernel_rfl) (by kernel_rfl) (by kernel_rfl) (fun _ _ _ h => h) ?_ hHeld ?_
          rotate_left 1
          · intro w hSw; (try dsimp only at hSw); go_simp
            try with_reducible rfl
          simp only [Act.put, List.setIfInBounds_toArray, List.set_cons_zero, List.set_cons_succ]
          refine takeR (i := 2) (v := ?_) rfl rfl (by kernel_rfl) (by kernel_rfl) (by kernel_rfl) (fun _ _ _ h => h) ?_ hHeld ?_
          rotate_left 1
          · intro w hSw; (try dsimp only at hSw); go_simp
            try with_reducible rfl
          simp only [Act.put, List.setIfInBounds_toArray, List.set_cons_zero, List.set_cons_succ]
          refine takeR (i := 3) (v := ?_) rfl rfl (by kernel_rfl) (by kernel_rfl) (by kernel_rfl) (fun _ _ _ h => h) ?_ hHeld ?_
          rotate_left 1
          · intro w hSw; (try dsimp only at hSw); go_simp
            try with_reducible rfl
          simp only [Act.put, List.setIfInBounds_toArray, List.set_cons_zero, List.set_cons_succ]
          refine takeR (i := 4) (v := ?_) rfl rfl (by kernel_rfl) (by kernel_rfl) (by kernel_rfl) (fun _ _ _ h => h) ?_ hHeld ?_
          rotate_left 1
          · intro w hSw; (try dsimp only at hSw); go_simp
            try with_reducible rfl
          simp only [Act.put, List.setIfInBounds_toArray, List.set_cons_zero, List.set_cons_succ]
          refine takeR (i := 5) (v := ?_) rfl rfl (by kernel_rfl) (by kernel_rfl) (by kernel_rfl) (fun _ _ _ h => h) ?_ hHeld ?_
          rotate_left 1
          · intro w hSw; (try dsimp only at hSw); go_simp
            try with_reducible rfl
          simp only [Act.put, List.setIfInBounds_toArray, List.set_cons_zero, List.set_cons_succ]
          refine takeR (i := 6) (v := ?_) rfl rfl (by kernel_rfl) (by kernel_rfl) (by kernel_rfl) (fun _ _ _ h => h) ?_ hHeld ?_
          rotate_left 1
          · intro w hSw; (try dsimp only at hSw); go_simp
            try with_reducible rfl
          simp only [Act.put, List.setIfInBounds_toArray, List.set_cons_zero, List.set_cons_succ]
          refine takeR (i := 7) (v := ?_) rfl rfl (by kernel_rfl) (by kernel_rfl) (by kernel_rfl) (fun _ _ _ h => h) ?_ hHeld ?_
          rotate_left 1
          · intro w hSw; (try dsimp only at hSw); go_simp
            try with_reducible rfl
          simp only [Act.put, List.setIfInBounds_toArray, List.set_cons_zero, List.set_cons_succ]
          refine takeR (i := 8) (v := ?_) rfl rfl (by kernel_rfl) (by kernel_rfl) (by kernel_rfl) (fun _ _ _ h => h) ?_ hHeld ?_
          rotate_left 1
          · intro w hSw; (try dsimp only at hSw); go_simp
            try with_reducible rfl
          simp only [Act.put, List.setIfInBounds_toArray, List.set_cons_zero, List.set_cons_succ]
          refine takeR (i := 9) (v := ?_) rfl rfl (by kernel_rfl) (by kernel_rfl) (by kernel_rfl) (fun _ _ _ h => h) ?_ hHeld ?_
          rotate_left 1
          · intro w hSw; (try dsimp only at hSw); go_simp
            try with_reducible rfl
          simp only [Act.put, List.setIfInBounds_toArray, List.set_cons_zero, List.set_cons_succ]
          refine stepR (i := 10) rfl (by kernel_rfl) (wanted_none rfl) (fun K hK => ?_)
          go_simp
          (refine (l2SideSame_c (Q1.out.drewN 1) (Q1'.out.drewN 1)).mono ?_; rintro e w1 ⟨he, b1⟩; rw [H1.out] at he; subst he; replace b1 := of_drew b1)
          go_wp2_with fail
          refine hK.out _ _ (by refine ⟨⟨?_, ?_⟩, ⟨?_, ?_⟩⟩ <;> (first | (rw [b1.cell hbl]; assumption) | (rw [b1.cell hbl']; assumption))) (fun hHeld => ?_)
          clear hK K
          try simp only [Act.put, List.setIfInBounds_toArray, List.set_cons_zero, List.set_cons_succ]
          refine takeR (i := 11) (v := ?_) rfl rfl (by kernel_rfl) (by kernel_rfl) (by kernel_rfl) (fun _ _ _ h => h) ?_ hHeld ?_
          rotate_left 1
          · intro w hSw; (try dsimp only at hSw); go_simp
            try with_reducible rfl
          simp only [Act.put, List.setIfInBounds_toArray, List.set_cons_zero, List.set_cons_succ]
          refine takeR (i := 12) (v := ?_) rfl rfl (by kernel_rfl) (by kernel_rfl) (by kernel_rfl) (fun _ _ _ h => h) ?_ hHeld ?_
          rotate_left 1
          · intro w hSw; (try dsimp only at hSw); go_simp
            try with_reducible rfl
          simp only [Act.put, List.setIfInBounds_toArray, List.set_cons_zero, List.set_cons_succ]
          refine takeG (i := 13) (v := ?_) rfl (by kernel_rfl) (by kernel_rfl) (by kernel_rfl) (by kernel_rfl) (fun _ _ _ h => h) ?_ hHeld ?_
          rotate_left 1
          · intro w hSw; (try dsimp only at hSw); go_simp
            try with_reducible rfl
          simp only [Act.put, List.setIfInBounds_toArray, List.set_cons_zero, List.set_cons_succ]
          refine takeG (i := 14) (v := ?_) rfl (by kernel_rfl) (by kernel_rfl) (by kernel_rfl) (by kernel_rfl) (fun _ _ _ h => h) ?_ hHeld ?_
          rotate_left 1
          · intro w hSw; (try dsimp only at hSw); go_simp
            try with_reducible rfl
          simp only [Act.put, List.setIfInBounds_toArray, List.set_cons_zero, List.set_cons_succ]
          refine takeG (i := 15) (v := ?_) rfl (by kernel_rfl) (by kernel_rfl) (by kernel_rfl) (by kernel_rfl) (fun _ _ _ h => h) ?_ hHeld ?_
          rotate_left 1
          · intro w hSw; (try dsimp only at hSw); go_simp
            try with_reducible rfl
          simp only [Act.put, List.setIfInBounds_toArray, List.set_cons_zero, List.set_cons_succ]
          refine takeG (i := 16) (v := ?_) rfl (by kernel_rfl) (by kernel_rfl) (by kernel_rfl) (by kernel_rfl) (fun _ _ _ h => h) ?_ hHeld ?_
          rotate_left 1
          · intro w hSw; (try dsimp only at hSw); go_simp
            try with_reducible rfl
          simp only [Act.put, List.setIfInBounds_toArray, List.set_cons_zero, List.set_cons_succ]
          refine takeG (i := 17) (v := ?_) rfl (by kernel_rfl) (by kernel_rfl) (by kernel_rfl) (by kernel_rfl) (fun _ _ _ h => h) ?_ hHeld ?_
          rotate_left 1
          · intro w hSw; (try dsimp only at hSw); go_simp
            try with_reducible rfl
          simp only [Act.put, List.setIfInBounds_toArray, List.set_cons_zero, List.set_cons_succ]
          refine takeG (i := 18) (v := ?_) rfl (by kernel_rfl) (by kernel_rfl) (by kernel_rfl) (by kernel_rfl) (fun _ _ _ h => h) ?_ hHeld ?_
          rotate_left 1
          · intro w hSw; (try dsimp only at hSw); go_simp
            try with_reducible rfl
          simp only [Act.put, List.setIfInBounds_toArray, List.set_cons_zero, List.set_cons_succ]
          refine takeG (i := 19) (v := ?_) rfl (by kernel_rfl) (by kernel_rfl) (by kernel_rfl) (by kernel_rfl) (fun _ _ _ h => h) ?_ hHeld ?_
          rotate_left 1
          · intro w hSw; (try dsimp only at hSw); go_simp
            try with_reducible rfl
          simp only [Act.put, List.setIfInBounds_toArray, List.set_cons_zero, List.set_cons_succ]
          refine takeG (i := 20) (v := ?_) rfl (by kernel_rfl) (by kernel_rfl) (by kernel_rfl) (by kernel_rfl) (fun _ _ _ h => h) ?_ hHeld ?_
          rotate_left 1
          · intro w hSw; (try dsimp only at hSw); go_simp
            try with_reducible rfl
          simp only [Act.put, List.setIfInBounds_toArray, List.set_cons_zero, List.set_cons_succ]
          refine takeG (i := 21) (v := ?_) rfl (by kernel_rfl) (by kernel_rfl) (by kernel_rfl) (by kernel_rfl) (fun _ _ _ h => h) ?_ hHeld ?_
          rotate_left 1
          · intro w hSw; (try dsimp only at hSw); go_simp
            try with_reducible rfl
          simp only [Act.put, List.setIfInBounds_toArray, List.set_cons_zero, List.set_cons_succ]
          refine takeG (i := 22) (v := ?_) rfl (by kernel_rfl) (by kernel_rfl) (by kernel_rfl) (by kernel_rfl) (fun _ _ _ h => h) ?_ hHeld ?_
          rotate_left 1
          · intro w hSw; (try dsimp only at hSw); go_simp
            try with_reducible rfl
          simp only [Act.put, List.setIfInBounds_toArray, List.set_cons_zero, List.set_cons_succ]
          refine stepR (i := 23) rfl (by kernel_rfl) (by kernel_rfl) (fun K hK => ?_)
          go_simp
          (refine (l2SideSame_c (Q2.out.below b1) (Q2'.out.below b1)).mono ?_; rintro e w2 ⟨rfl, b2⟩)
          go_wp2_with fail
          refine hK.out _ _ (by refine ⟨⟨?_, ?_⟩, ⟨?_, ?_⟩⟩ <;> (first | (rw [b2.cell (Nat.lt_of_lt_of_le hbl b1.size), b1.cell hbl]; assumption) | (rw [b2.cell (Nat.lt_of_lt_of_le hbl' b1.size), b1.cell hbl']; assumption))) (fun hHeld => ?_)
          clear hK K
          try simp only [Act.put, List.setIfInBounds_toArray, List.set_cons_zero, List.set_cons_succ]
          refine takeG (i := 24) (v := ?_) rfl (by kernel_rfl) (by kernel_rfl) (by kernel_rfl) (by kernel_rfl) (fun _ _ _ h => h) ?_ hHeld ?_
          rotate_left 1
          · intro w hSw; (try dsimp only at hSw); go_simp
            try with_reducible rfl
          simp only [Act.put, List.setIfInBounds_toArray, List.set_cons_zero, List.set_cons_succ]
          refine takeR (i := 25) (v := ?_) rfl rfl (by kernel_rfl) (by kernel_rfl) (by kernel_rfl) (fun _ _ _ h => h) ?_ hHeld ?_
          rotate_left 1
          · intro w hSw; (try dsimp only at hSw); go_simp
            try with_reducible rfl
          simp only [Act.put, List.setIfInBounds_toArray, List.set_cons_zero, List.set_cons_succ]
          refine wpAnyH_done (by kernel_rfl) ?_ _
          refine NoPanic.normal ?_
          have S1 := below_tr (below_tr hb b1) b2
          clear b1 b2
          cases h2 : sideSame xs[j].hi ys[j].hi with
          | false =>
            have HY := Lib.hid (HX.out.trans (by rw [h2, Bool.false_and])); clear h2
            go_wp2
            go_ret
            exact ⟨ret_bool (by rw [HI.out, HY.out]), S1⟩
          | true =>
            have HY := Lib.hid (HX.out.trans (by rw [h2, Bool.true_and])); clear h2
            go_wp2
            go_roundw
            case rel => exact ⟨j + 1, by omega, by go_num, by rw [HI.out, HY.out], S1⟩
            case measure => simp [intOf]; omega
      · have hjj : j = xs.length := by omega
        subst hjj
        go_wp2
        go_ret
        exact ⟨ret_bool (by rw [HI.out, List.drop_length, HL.out, List.drop_length]; rfl), hb⟩
  · have hl1 : ((xs.length : Int) != (ys.length : Int)) = true := by simp; omega
    have HR := Lib.hid (allEq_ne lpSame xs ys hl); clear hl
    go_enter Try.func22, Try.ntmps22
    go_wp2
    go_ret
    exact ⟨ret_bool HR.out.symm, (by repeat (first | with_reducible exact Below.refl _ _ | refine Below.setCell ?_ (by simp; try omega) _ | refine below_al ?_ _ | refine Below.alloc ?_ (by simp [World.setCell]; try omega) _ | refine below_drewN ?_ _ | refine Below.drew ?_ | refine below_tr ?_ ‹Below _ _ _›))⟩

set_option maxHeartbeats 1000000 in
theorem NestSame1_c {x y : Lp} {cs cs' : List Value} (h : Rep w x.d cs bs) (h' : Rep w y.d cs' bs') :
    Calls Try.prog 70 (#[.agg cs.toArray, .agg cs'.toArray] ++ #[]) w fun e w' => e = .returned (.bool (lpSame x y)) ∧ Below w.heap.size w w' := by
  show Calls Try.prog 70 #[.agg cs.toArray, .agg cs'.toArray] w _
  obtain ⟨A1, c1, A2, c2, d1, d2, rfl, rfl, g1, g2⟩ := Rep.lp_iff.1 h
  obtain ⟨A1', c1', A2', c2', d1', d2', rfl, rfl, g1', g2'⟩ := Rep.lp_iff.1 h'
  have Q1 := Lib.hid g1; have Q2 := Lib.hid g2; have Q1' := Lib.hid g1'; have Q2' := Lib.hid g2'
  clear h h' g1 g2 g1' g2'
  cases h1 : sideSame x.lo y.lo with
  | false =>
    have HX := Lib.hid (show lpSame x y = false by simp [lpSame, h1])
    have H1 := Lib.hid h1; clear h1
    go_enter Try.func70, Try.ntmps70
    go_wp2_with fail
    refine (EqualFunc_Affine_c (p := affSame) (Q1.out.below (by repeat (first | with_reducible exact Below.refl _ _ | refine Below.setCell ?_ (by simp; try omega) _ | refine below_al ?_ _ | refine Below.alloc ?_ (by simp [World.setCell]; try omega) _ | refine below_drewN ?_ _ | refine Below.drew ?_ | refine below_tr ?_ ‹Below _ _ _›))) (Q1'.out.below (by repeat (first | with_reducible exact Below.refl _ _ | refine Below.setCell ?_ (by simp; try omega) _ | refine below_al ?_ _ | refine Below.alloc ?_ (by simp [World.setCell]; try omega) _ | refine below_drewN ?_ _ | refine Below.drew ?_ | refine below_tr ?_ ‹Below _ _ _›))) implAffineSame_e fun x y cs bs cs' bs' W _ _ _ r r' => implAffineSame_k r r').mono ?_
    rintro e w1 ⟨he, b1⟩
    rw [show allEq affSame x.lo y.lo = false from H1.out] at he
    subst he
    go_wp2
    go_ret
    exact ⟨ret_bool HX.out.symm, (by repeat (first | with_reducible exact Below.refl _ _ | refine Below.setCell ?_ (by simp; try omega) _ | refine below_al ?_ _ | refine Below.alloc ?_ (by simp [World.setCell]; try omega) _ | refine below_drewN ?_ _ | refine Below.drew ?_ | refine below_tr ?_ ‹Below _ _ _›))⟩
  | true =>
    have HX := Lib.hid (show lpSame x y = sideSame x.hi y.hi by simp [lpSame, h1])
    have H1 := Lib.hid h1; clear h1
    go_enter Try.func70, Try.ntmps70
    go_wp2_with fail
    refine (EqualFunc_Affine_c (p := affSame) (Q1.out.below (by repeat (first | with_reducible exact Below.refl _ _ | refine Below.setCell ?_ (by simp; try omega) _ | refine below_al ?_ _ | refine Below.alloc ?_ (by simp [World.setCell]; try omega) _ | refine below_drewN ?_ _ | refine Below.drew ?_ | refine below_tr ?_ ‹Below _ _ _›))) (Q1'.out.below (by repeat (first | with_reducible exact Below.refl _ _ | refine Below.setCell ?_ (by simp; try omega) _ | refine below_al ?_ _ | refine Below.alloc ?_ (by simp [World.setCell]; try omega) _ | refine below_drewN ?_ _ | refine Below.drew ?_ | refine below_tr ?_ ‹Below _ _ _›))) implAffineSame_e fun x y cs bs cs' bs' W _ _ _ r r' => implAffineSame_k r r').mono ?_
    rintro e w1 ⟨he, b1⟩
    rw [show allEq affSame x.lo y.lo = true from H1.out] at he
    subst he
    have P1 : Box2 w1 w.heap.size (.slice A1 x.lo.length c1) (.slice A2 x.hi.length c2) := by
      refine ⟨?_, ?_⟩ <;> (rw [b1.cell (by simp; try omega)]; go_simp)
    have P2 : Box2 w1 (w.heap.size + 1) (.slice A1' y.lo.length c1') (.slice A2' y.hi.length c2') := by
      refine ⟨?_, ?_⟩ <;> (rw [b1.cell (by simp; try omega)]; go_simp)
    have S1 : Below w.heap.size w w1 := (by repeat (first | with_reducible exact Below.refl _ _ | refine Below.setCell ?_ (by simp; try omega) _ | refine below_al ?_ _ | refine Below.alloc ?_ (by simp [World.setCell]; try omega) _ | refine below_drewN ?_ _ | refine Below.drew ?_ | refine below_tr ?_ ‹Below _ _ _›))
    clear b1
    go_wp2_with fail
    refine (EqualFunc_Affine_c (p := affSame) (Q2.out.below S1) (Q2'.out.below S1) implAffineSame_e fun x y cs bs cs' bs' W _ _ _ r r' => implAffineSame_k r r').mono ?_
    rintro e w2 ⟨rfl, b2⟩
    go_wp2
    go_ret
    exact ⟨ret_bool HX.out.symm, (by repeat (first | with_reducible exact Below.refl _ _ | refine Below.setCell ?_ (by simp; try omega) _ | refine below_al ?_ _ | refine Below.alloc ?_ (by simp [World.setCell]; try omega) _ | refine below_drewN ?_ _ | refine Below.drew ?_ | refine below_tr ?_ ‹Below _ _ _›))⟩
theorem NestSame1_e : Enters Try.prog 70 := fun args W => by go_simp

theorem implNestSame_c {xs ys : List Lp} (h : Rep w (sls Lp.d xs) [.slice A n c] bs) (h' : Rep w (sls Lp.d ys) [.slice B m d] bs') :
    Calls Try.prog 24 #[.slice A n c, .slice B m d] w fun e w' => e = .returned (.bool (NestSameF xs ys)) ∧ Below w.heap.size w w' := by
  have H := Lib.hid h; clear h
  have H' := Lib.hid h'; clear h'
  go_enter Try.func24, Try.ntmps24
  go_wp2_with fail
  refine (EqualFunc_Loop_c (p := lpSame) H.out H'.out NestSame1_e fun x y cs bs cs' bs' W _ _ _ r r' => NestSame1_c r r').mono ?_
  rintro e w1 ⟨rfl, b1⟩
  go_wp2
  go_ret
  exact ⟨rfl, b1⟩
end
end Go.Proofs.Ytlllidhmohdgiaa
