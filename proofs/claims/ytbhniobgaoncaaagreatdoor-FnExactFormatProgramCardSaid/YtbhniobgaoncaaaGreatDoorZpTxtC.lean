/- The program's text of an affine expression: the closure that writes a sign. -/
import Derived.Test.YtbhniobgaoncaaaGreatDoorZpTxtB
import Derived.Test.YtbhniobgaoncaaaGreatDoorZpShNum
set_option linter.all false
set_option linter.unusedSimpArgs false
set_option linter.unusedVariables false
namespace Go.Proofs.YtbhniobgaoncaaaGreatDoor
open Go.ChangeShapes Go.WideShapes Go.ChangeAt Go.RowKit Go.Deep

/-- the cell g holds the text O and may be written -/
def Cel (w : World) (g : Nat) (O : List UInt8) : Prop := w.cell? ⟨g, 0, none⟩ = some (.string (strOf O)) ∧ w.frozen? ⟨g, 0, none⟩ = false
theorem Touch.then {bs : List Nat} {a b c : World} (h : Touch bs a b) (k : Below a.heap.size b c) : Touch bs a c :=
  ⟨k.os.trans h.os, k.tape.trans h.tape, k.output.trans h.output, Nat.le_trans h.size k.size, fun x hx hn => (k.block x hx).trans (h.block x hx hn)⟩
/-- a call that leaves the text O in the cell g and turns nothing else -/
def Wrote (g : Nat) (O : List UInt8) (w w' : World) : Prop := Cel w' g O ∧ Touch [g] w w'
theorem Cel.put {w : World} {g : Nat} {O : List UInt8} (h : Cel w g O) (Q : List UInt8) : Cel (w.setCell ⟨g, 0, none⟩ (.string (strOf Q))) g Q :=
  ⟨by obtain ⟨h1, h2⟩ := h; go_simp, by rw [World.frozen?_setCell]; exact h.2⟩
set_option maxRecDepth 100000 in
set_option maxHeartbeats 1000000 in
theorem sign_c {w : World} {g : Nat} {O : List UInt8} {c : Int} (h : Cel w g O) (hl : O.length ≤ 100) :
    Calls Tryz.prog 193 #[.int .i64 c, .pointer (some ⟨g, 0, none⟩)] w fun e w' => e = .returned (.tuple #[]) ∧ Wrote g (sgI O c) w w' := by
  have H := Lib.hid h
  obtain ⟨hc, hf⟩ := h
  have hs : (strOf O).size ≤ 100 := by rw [strOf_size]; exact hl
  have fin : ∀ (x : UInt8), strOf O ++ (⟨#[x]⟩ : ByteArray) = strOf (O ++ [x]) := fun x => by rw [← strOf_app]; rfl
  have FIN := Lib.hid fin; clear fin hl
  by_cases hlt : c < 0
  · have HS := Lib.hid (show sgI O c = O ++ [45] by rw [sgI, if_pos hlt])
    go_enter Tryz.func193, Tryz.ntmps193
    go_wp2
    go_end0
    exact ⟨rfl, by rw [HS.out, FIN.out]; exact ⟨H.out.put _, Touch.setCell (Touch.refl _ _) (by simp) _⟩⟩
  · by_cases he : O = []
    · subst he
      have h1 : (!(strOf []).toList.isEmpty) = false := by rw [Lib.toList_data, strOf_data]; rfl
      have HS := Lib.hid (show sgI [] c = [] by rw [sgI, if_neg hlt, if_pos rfl])
      go_enter Tryz.func193, Tryz.ntmps193
      go_wp2
      go_end0
      exact ⟨rfl, by rw [HS.out]; exact ⟨H.out, Touch.refl _ _⟩⟩
    · have h1 : (!(strOf O).toList.isEmpty) = true := by
        rw [Lib.toList_data, strOf_data]
        rcases O with _ | ⟨x, t⟩
        · exact absurd rfl he
        · rfl
      have HS := Lib.hid (show sgI O c = O ++ [43] by rw [sgI, if_neg hlt, if_neg he])
      clear he
      go_enter Tryz.func193, Tryz.ntmps193
      go_wp2
      go_end0
      exact ⟨rfl, by rw [HS.out, FIN.out]; exact ⟨H.out.put _, Touch.setCell (Touch.refl _ _) (by simp) _⟩⟩
theorem itoa_c {w : World} {n : Nat} (h : n < 100) : Calls Tryz.prog 79 #[.int .i64 (n : Int)] w fun e w' => e = .returned (.string (strOf (decL n))) ∧ w' = w :=
  (sh_strconv_Itoa_small n h w).mono fun e w' ⟨h1, h2⟩ => ⟨by rw [h1, ← decDigits_lt h]; rfl, h2⟩
set_option maxRecDepth 100000 in
set_option maxHeartbeats 1000000 in
theorem affineText_c {w : World} {a : Aff} {A : Option Addr} {n c : Nat} {k : Int} {bs : List Nat} (h : Rep w a.d [.slice A n c, .int .i64 k] bs) (h4 : a.coefs.length ≤ 4) (hc9 : ∀ v, (gi a.coefs v).natAbs < 100) (hk : a.const.natAbs < 100) :
    Calls Tryz.prog 147 #[.agg #[.slice A n c, .int .i64 k]] w fun e w' => e = .returned (.string (strOf (affI a))) ∧ Below w.heap.size w w' := by
  obtain ⟨rfl, h1, _⟩ := h.aff
  obtain ⟨rfl, h2, h3⟩ := h1.ints_len
  clear h2 h3 h
  go_enter Tryz.func147, Tryz.ntmps147
  go_wp2
  have P0 : Box2 ((w.alloc (.cells #[.slice A a.coefs.length c, .int .i64 a.const] 46)).alloc (.cells #[.string ⟨#[]⟩] 9)) w.heap.size (.slice A a.coefs.length c) (.int .i64 a.const) := ⟨by go_simp, by go_simp⟩
  have C0 : Cel ((w.alloc (.cells #[.slice A a.coefs.length c, .int .i64 a.const] 46)).alloc (.cells #[.string ⟨#[]⟩] 9)) (w.heap.size + 1) [] := ⟨by go_simp; rfl, by go_simp⟩
  have H0 : Below w.heap.size w ((w.alloc (.cells #[.slice A a.coefs.length c, .int .i64 a.const] 46)).alloc (.cells #[.string ⟨#[]⟩] 9)) := bel
  obtain ⟨W, hW⟩ : ∃ W, W = ((w.alloc (.cells #[.slice A a.coefs.length c, .int .i64 a.const] 46)).alloc (.cells #[.string ⟨#[]⟩] 9)) := ⟨_, rfl⟩
  have hWs : w.heap.size + 2 ≤ W.heap.size := by rw [hW]; simp
  rw [← hW] at P0 C0 H0 ⊢
  clear hW
  have HC0 := Lib.hid C0; clear C0
  go_loopw [12] (fun i wr => ∃ j : Nat, j ≤ a.coefs.length ∧ i = .int .i64 j ∧ Cel wr (w.heap.size + 1) (foI a.coefs j) ∧ Touch [w.heap.size + 1] W wr) (fun i _ => a.coefs.length - (intOf i).toNat)
  case atStart => exact ⟨0, Nat.zero_le _, rfl, HC0.out, Touch.refl _ _⟩
  case round =>
    obtain ⟨j, hj, rfl, hcl, ht⟩ := hrel
    have PR := ht.box2 P0 (by simp)
    have SR := H0.trans (ht.below (show w.heap.size ≤ W.heap.size by omega) (by simp))
    have lg := lt_of_cell hcl.1
    have lb := lt_of_cell PR.1
    by_cases hlt : j < a.coefs.length
    · obtain ⟨b, o, rfl, _, hbl, hc, _⟩ := h1.ints_at hlt
      have hcr : wr.cell? ⟨b, o + j, none⟩ = some (.int .i64 (gi a.coefs j)) := (SR.cell hbl).trans hc
      have HCL := Lib.hid hcl; clear hcl
      have hfl := foI_len a.coefs j
      by_cases hz : gi a.coefs j = 0
      · have HD := Lib.hid (show foI a.coefs (j + 1) = foI a.coefs j from by rw [foI, stI, if_pos hz])
        have hz1 : (gi a.coefs j == 0) = true := by simp [hz]
        have HZ := Lib.hid hz; clear hz
        go_wp2
        go_roundw
        case rel => exact ⟨j + 1, by omega, by go_num, by rw [HD.out]; exact HCL.out, ht⟩
        case measure => simp [intOf]; omega
      · have HD := Lib.hid (show foI a.coefs (j + 1) = sgI (foI a.coefs j) (gi a.coefs j) ++ bodyL (gi a.coefs j) [(105 + j).toUInt8] from by rw [foI, stI, if_neg hz]; rfl)
        have hz1 : (gi a.coefs j == 0) = false := by simp [hz]
        have hj4 : j < 4 := by omega
        have h9 := hc9 j
        have hsl : (⟨#[105, 106, 107, 108]⟩ : ByteArray).extract j (j + 1) = ⟨#[(105 + j).toUInt8]⟩ := by
          have : ∀ j : Fin 4, (⟨#[105, 106, 107, 108]⟩ : ByteArray).extract j.val (j.val + 1) = ⟨#[(105 + j.val).toUInt8]⟩ := by decide
          exact this ⟨j, hj4⟩
        obtain ⟨dd, hdd⟩ : ∃ dd : UInt8, dd = (105 + j).toUInt8 := ⟨_, rfl⟩
        rw [← hdd] at hsl HD
        clear hdd
        obtain ⟨O, hO⟩ : ∃ O, O = sgI (foI a.coefs j) (gi a.coefs j) := ⟨_, rfl⟩
        have hol : O.length ≤ 21 := by rw [hO]; have := sgI_len (foI a.coefs j) (gi a.coefs j); omega
        have hsg := sign_c (c := gi a.coefs j) HCL.out (by omega)
        rw [← hO] at hsg HD
        have HSG := Lib.hid hsg; clear hsg hO hfl
        obtain ⟨m, hm⟩ : ∃ m : Nat, m = (gi a.coefs j).natAbs := ⟨_, rfl⟩
        have HM := Lib.hid hm
        have hmx : max (gi a.coefs j) (-gi a.coefs j) = (m : Int) := by omega
        have hw1 : IntKind.i64.wrap (-gi a.coefs j) = -gi a.coefs j := by rw [IntKind.wrap_i64]; omega
        rw [← hm] at h9
        clear hz hm
        by_cases hm1 : 1 < m
        · go_wp2_with fail
          refine HSG.out.mono ?_
          rintro e w2 ⟨rfl, q1, t1⟩
          have hcr2 := (t1.cell (o := o + j) (show b < wr.heap.size by have := SR.size; omega) (by simp; omega)).trans hcr
          have HQ := Lib.hid q1
          obtain ⟨q2, q3⟩ := q1
          have hdl := decL_len m
          have hs0 : (strOf O).size ≤ 21 := by rw [strOf_size]; exact hol
          have hs1 : (strOf (decL m)).size ≤ 2 := by rw [strOf_size]; exact hdl
          have hap : strOf O ++ (strOf (decL m) ++ (⟨#[42]⟩ : ByteArray)) = strOf (O ++ (decL m ++ [42])) := by rw [← strOf_app, ← strOf_app]; rfl
          have g1 : (9223372036854775807 < (strOf (decL m)).size + 1) = False := eq_false (by omega)
          have g2 : (9223372036854775807 < (strOf O).size + ((strOf (decL m)).size + 1)) = False := eq_false (by omega)
          go_wp2
          refine wp_region_noPanic ?_
          refine wp_regionT (S := fun w' => w'.cell? ⟨w.heap.size + 1, 0, none⟩ = some (.string (strOf O)) ∧ w'.frozen? ⟨w.heap.size + 1, 0, none⟩ = false ∧ Touch [w.heap.size + 1] wr w') 5 (by kernel_rfl) (⟨by go_simp, by go_simp, t1.then (Below.refl _ _).drew⟩) (fun hHeld => ?_)
          refine takeT (i := 0) (v := ?_) rfl rfl (by kernel_rfl) (by kernel_rfl) (by kernel_rfl) (by kernel_rfl) (by kernel_rfl) (fun _ _ _ h => h) ?_ hHeld ?_
          rotate_left 1
          · intro w hSw; (try dsimp only at hSw); go_simp
            try simp only [g1, g2, if_false, hap]
            try with_reducible rfl
          simp only [Act.put, aq0, aq1, aq2]
          refine takeU (i := 1) (v := ?_) rfl rfl (by kernel_rfl) (by kernel_rfl) (by kernel_rfl) (by kernel_rfl) (fun _ _ _ h => h) ?_ (fun _ => hHeld) ?_
          rotate_left 1
          · intro w; go_simp
            try simp only [g1, g2, if_false, hap]
            try with_reducible rfl
          simp only [Act.put, aq0, aq1, aq2]
          refine readyT (rs := [2]) (by kernel_rfl) (by simp) (all1 ?_)
          refine opT (i := 2) rfl (wanted_none rfl) (fun K hK => ?_)
          go_simp
          (refine (itoa_c h9).mono ?_; rintro e w4 ⟨rfl, rfl⟩)
          go_wp2_with fail
          refine hK.out _ _ (hHeld) (fun hHeld => ?_)
          clear hK K
          try simp only [Act.put, aq0, aq1, aq2]
          refine takeU (i := 3) (v := ?_) rfl rfl (by kernel_rfl) (by kernel_rfl) (by kernel_rfl) (by kernel_rfl) (fun _ _ _ h => h) ?_ (fun _ => hHeld) ?_
          rotate_left 1
          · intro w; go_simp
            try simp only [g1, g2, if_false, hap]
            try with_reducible rfl
          simp only [Act.put, aq0, aq1, aq2]
          refine takeU (i := 4) (v := ?_) rfl rfl (by kernel_rfl) (by kernel_rfl) (by kernel_rfl) (by kernel_rfl) (fun _ _ _ h => h) ?_ (fun _ => hHeld) ?_
          rotate_left 1
          · intro w; go_simp
            try simp only [g1, g2, if_false, hap]
            try with_reducible rfl
          simp only [Act.put, aq0, aq1, aq2]
          refine readyT (rs := [5]) (by kernel_rfl) (by simp) (all1 ?_)
          refine opTT (i := 5) rfl (wanted_none rfl) (by kernel_rfl) (fun K hK => ?_)
          (unfold Oper.wp; go_simp)
          refine hK.out _ _ ?_
          clear hK K
          try simp only [Act.put, aq0, aq1, aq2]
          refine wpAnyT_done (by kernel_rfl) ?_ _
          refine NoPanic.normal ?_
          (skip)
          have HB := Lib.hid (show O ++ bodyL (gi a.coefs j) [dd] = (O ++ (decL m ++ [42])) ++ [dd] by rw [bodyL, ← HM.out, if_pos hm1]; simp)
          have TW := Lib.hid ((t1.setCell (p := ⟨w.heap.size + 1, 0, none⟩) (by simp) (.string (strOf (O ++ (decL m ++ [42]))))).then (Below.refl _ _).drew)
          have CW := Lib.hid (show Cel (w2.setCell ⟨w.heap.size + 1, 0, none⟩ (.string (strOf (O ++ (decL m ++ [42]))))).drew (w.heap.size + 1) (O ++ (decL m ++ [42])) from HQ.out.put _)
          obtain ⟨w5, hw5⟩ : ∃ w5, w5 = (w2.setCell ⟨w.heap.size + 1, 0, none⟩ (.string (strOf (O ++ (decL m ++ [42]))))).drew := ⟨_, rfl⟩
          rw [← hw5] at TW CW ⊢
          clear hw5 q2 q3 hcr2
          have HQ5 := Lib.hid CW.out
          obtain ⟨q5, q6⟩ := HQ5.out
          have hp5 : (strOf (O ++ (decL m ++ [42]))).size ≤ 24 := by rw [strOf_size]; simp; omega
          have HAP := Lib.hid (show strOf (O ++ (decL m ++ [42])) ++ (⟨#[dd]⟩ : ByteArray) = strOf ((O ++ (decL m ++ [42])) ++ [dd]) by rw [← strOf_app]; rfl)
          have HPUT := Lib.hid (show Cel (w5.setCell ⟨w.heap.size + 1, 0, none⟩ (.string (strOf ((O ++ (decL m ++ [42])) ++ [dd])))).drew (w.heap.size + 1) ((O ++ (decL m ++ [42])) ++ [dd]) from HQ5.out.put _)
          have HT5 := Lib.hid (show ∀ v, Touch [w.heap.size + 1] W (w5.setCell ⟨w.heap.size + 1, 0, none⟩ v).drew from fun v => ht.trans ((TW.out.setCell (p := ⟨w.heap.size + 1, 0, none⟩) (by simp) v).then (Below.refl _ _).drew))
          have lg5 := lt_of_cell q5
          have g6 : (9223372036854775807 < (strOf (O ++ (decL m ++ [42]))).size + 1) = False := eq_false (by omega)
          have w1_ : IntKind.i64.wrap ((j : Int) + 1) = (j : Int) + 1 := by rw [IntKind.wrap_i64]; omega
          have g7 : (0 ≤ (j : Int) + 1) = True := eq_true (by omega)
          have g8 : ((j : Int) + 1 ≤ 4) = True := eq_true (by omega)
          have g9 : ((j : Int) ≤ (j : Int) + 1) = True := eq_true (by omega)
          have g10 : ((j : Int) + 1).toNat = j + 1 := by omega
          go_wp2
          refine wp_region_noPanic ?_
          refine wp_regionT (S := fun w' => w'.cell? ⟨w.heap.size + 1, 0, none⟩ = some (.string (strOf (O ++ (decL m ++ [42])))) ∧ w'.frozen? ⟨w.heap.size + 1, 0, none⟩ = false) 6 (by kernel_rfl) (⟨by go_simp, by go_simp⟩) (fun hHeld => ?_)
          refine takeT (i := 0) (v := ?_) rfl rfl (by kernel_rfl) (by kernel_rfl) (by kernel_rfl) (by kernel_rfl) (by kernel_rfl) (fun _ _ _ h => h) ?_ hHeld ?_
          rotate_left 1
          · intro w hSw; (try dsimp only at hSw); go_simp
            try simp only [w1_, g6, g7, g8, g9, g10, if_false, if_true, and_self, hsl]
            try with_reducible rfl
          simp only [Act.put, aq0, aq1, aq2]
          refine takeU (i := 1) (v := ?_) rfl rfl (by kernel_rfl) (by kernel_rfl) (by kernel_rfl) (by kernel_rfl) (fun _ _ _ h => h) ?_ (fun _ => hHeld) ?_
          rotate_left 1
          · intro w; go_simp
            try simp only [w1_, g6, g7, g8, g9, g10, if_false, if_true, and_self, hsl]
            try with_reducible rfl
          simp only [Act.put, aq0, aq1, aq2]
          refine takeU (i := 2) (v := ?_) rfl rfl (by kernel_rfl) (by kernel_rfl) (by kernel_rfl) (by kernel_rfl) (fun _ _ _ h => h) ?_ (fun _ => hHeld) ?_
          rotate_left 1
          · intro w; go_simp
            try simp only [w1_, g6, g7, g8, g9, g10, if_false, if_true, and_self, hsl]
            try with_reducible rfl
          simp only [Act.put, aq0, aq1, aq2]
          refine takeU (i := 3) (v := ?_) rfl rfl (by kernel_rfl) (by kernel_rfl) (by kernel_rfl) (by kernel_rfl) (fun _ _ _ h => h) ?_ (fun _ => hHeld) ?_
          rotate_left 1
          · intro w; go_simp
            try simp only [w1_, g6, g7, g8, g9, g10, if_false, if_true, and_self, hsl]
            try with_reducible rfl
          simp only [Act.put, aq0, aq1, aq2]
          refine takeU (i := 4) (v := ?_) rfl rfl (by kernel_rfl) (by kernel_rfl) (by kernel_rfl) (by kernel_rfl) (fun _ _ _ h => h) ?_ (fun _ => hHeld) ?_
          rotate_left 1
          · intro w; go_simp
            try simp only [w1_, g6, g7, g8, g9, g10, if_false, if_true, and_self, hsl]
            try with_reducible rfl
          simp only [Act.put, aq0, aq1, aq2]
          refine takeU (i := 5) (v := ?_) rfl rfl (by kernel_rfl) (by kernel_rfl) (by kernel_rfl) (by kernel_rfl) (fun _ _ _ h => h) ?_ (fun _ => hHeld) ?_
          rotate_left 1
          · intro w; go_simp
            try simp only [w1_, g6, g7, g8, g9, g10, if_false, if_true, and_self, hsl]
            try with_reducible rfl
          simp only [Act.put, aq0, aq1, aq2]
          refine readyT (rs := [6]) (by kernel_rfl) (by simp) (all1 ?_)
          refine opTT (i := 6) rfl (wanted_none rfl) (by kernel_rfl) (fun K hK => ?_)
          (unfold Oper.wp; go_simp)
          refine hK.out _ _ ?_
          clear hK K
          try simp only [Act.put, aq0, aq1, aq2]
          refine wpAnyT_done (by kernel_rfl) ?_ _
          refine NoPanic.normal ?_
          (skip)
          go_wp2
          go_roundw
          case rel => exact ⟨j + 1, by omega, by go_num, by rw [HD.out, HB.out, HAP.out]; exact HPUT.out, HT5.out _⟩
          case measure => simp [intOf]; omega
        · have HB := Lib.hid (show O ++ bodyL (gi a.coefs j) [dd] = O ++ [dd] by rw [bodyL, ← HM.out, if_neg hm1]; simp)
          go_wp2_with fail
          refine HSG.out.mono ?_
          rintro e w2 ⟨rfl, q1, t1⟩
          have hcr2 := (t1.cell (o := o + j) (show b < wr.heap.size by have := SR.size; omega) (by simp; omega)).trans hcr
          have HQ1 := Lib.hid q1; have HT1 := Lib.hid t1; clear q1 t1
          have HQ5 := Lib.hid HQ1.out
          obtain ⟨q5, q6⟩ := HQ5.out
          have hp5 : (strOf (O)).size ≤ 24 := by rw [strOf_size]; omega
          have HAP := Lib.hid (show strOf (O) ++ (⟨#[dd]⟩ : ByteArray) = strOf ((O) ++ [dd]) by rw [← strOf_app]; rfl)
          have HPUT := Lib.hid (show Cel (w2.setCell ⟨w.heap.size + 1, 0, none⟩ (.string (strOf ((O) ++ [dd])))).drew (w.heap.size + 1) ((O) ++ [dd]) from HQ5.out.put _)
          have HT5 := Lib.hid (show ∀ v, Touch [w.heap.size + 1] W (w2.setCell ⟨w.heap.size + 1, 0, none⟩ v).drew from fun v => ht.trans ((HT1.out.setCell (p := ⟨w.heap.size + 1, 0, none⟩) (by simp) v).then (Below.refl _ _).drew))
          have lg5 := lt_of_cell q5
          have g6 : (9223372036854775807 < (strOf (O)).size + 1) = False := eq_false (by omega)
          have w1_ : IntKind.i64.wrap ((j : Int) + 1) = (j : Int) + 1 := by rw [IntKind.wrap_i64]; omega
          have g7 : (0 ≤ (j : Int) + 1) = True := eq_true (by omega)
          have g8 : ((j : Int) + 1 ≤ 4) = True := eq_true (by omega)
          have g9 : ((j : Int) ≤ (j : Int) + 1) = True := eq_true (by omega)
          have g10 : ((j : Int) + 1).toNat = j + 1 := by omega
          go_wp2
          refine wp_region_noPanic ?_
          refine wp_regionT (S := fun w' => w'.cell? ⟨w.heap.size + 1, 0, none⟩ = some (.string (strOf (O))) ∧ w'.frozen? ⟨w.heap.size + 1, 0, none⟩ = false) 6 (by kernel_rfl) (⟨by go_simp, by go_simp⟩) (fun hHeld => ?_)
          refine takeT (i := 0) (v := ?_) rfl rfl (by kernel_rfl) (by kernel_rfl) (by kernel_rfl) (by kernel_rfl) (by kernel_rfl) (fun _ _ _ h => h) ?_ hHeld ?_
          rotate_left 1
          · intro w hSw; (try dsimp only at hSw); go_simp
            try simp only [w1_, g6, g7, g8, g9, g10, if_false, if_true, and_self, hsl]
            try with_reducible rfl
          simp only [Act.put, aq0, aq1, aq2]
          refine takeU (i := 1) (v := ?_) rfl rfl (by kernel_rfl) (by kernel_rfl) (by kernel_rfl) (by kernel_rfl) (fun _ _ _ h => h) ?_ (fun _ => hHeld) ?_
          rotate_left 1
          · intro w; go_simp
            try simp only [w1_, g6, g7, g8, g9, g10, if_false, if_true, and_self, hsl]
            try with_reducible rfl
          simp only [Act.put, aq0, aq1, aq2]
          refine takeU (i := 2) (v := ?_) rfl rfl (by kernel_rfl) (by kernel_rfl) (by kernel_rfl) (by kernel_rfl) (fun _ _ _ h => h) ?_ (fun _ => hHeld) ?_
          rotate_left 1
          · intro w; go_simp
            try simp only [w1_, g6, g7, g8, g9, g10, if_false, if_true, and_self, hsl]
            try with_reducible rfl
          simp only [Act.put, aq0, aq1, aq2]
          refine takeU (i := 3) (v := ?_) rfl rfl (by kernel_rfl) (by kernel_rfl) (by kernel_rfl) (by kernel_rfl) (fun _ _ _ h => h) ?_ (fun _ => hHeld) ?_
          rotate_left 1
          · intro w; go_simp
            try simp only [w1_, g6, g7, g8, g9, g10, if_false, if_true, and_self, hsl]
            try with_reducible rfl
          simp only [Act.put, aq0, aq1, aq2]
          refine takeU (i := 4) (v := ?_) rfl rfl (by kernel_rfl) (by kernel_rfl) (by kernel_rfl) (by kernel_rfl) (fun _ _ _ h => h) ?_ (fun _ => hHeld) ?_
          rotate_left 1
          · intro w; go_simp
            try simp only [w1_, g6, g7, g8, g9, g10, if_false, if_true, and_self, hsl]
            try with_reducible rfl
          simp only [Act.put, aq0, aq1, aq2]
          refine takeU (i := 5) (v := ?_) rfl rfl (by kernel_rfl) (by kernel_rfl) (by kernel_rfl) (by kernel_rfl) (fun _ _ _ h => h) ?_ (fun _ => hHeld) ?_
          rotate_left 1
          · intro w; go_simp
            try simp only [w1_, g6, g7, g8, g9, g10, if_false, if_true, and_self, hsl]
            try with_reducible rfl
          simp only [Act.put, aq0, aq1, aq2]
          refine readyT (rs := [6]) (by kernel_rfl) (by simp) (all1 ?_)
          refine opTT (i := 6) rfl (wanted_none rfl) (by kernel_rfl) (fun K hK => ?_)
          (unfold Oper.wp; go_simp)
          refine hK.out _ _ ?_
          clear hK K
          try simp only [Act.put, aq0, aq1, aq2]
          refine wpAnyT_done (by kernel_rfl) ?_ _
          refine NoPanic.normal ?_
          (skip)
          go_wp2
          go_roundw
          case rel => exact ⟨j + 1, by omega, by go_num, by rw [HD.out, HB.out, HAP.out]; exact HPUT.out, HT5.out _⟩
          case measure => simp [intOf]; omega
    · have hjj : j = a.coefs.length := by omega
      subst hjj
      have hfl := foI_len a.coefs a.coefs.length
      have HF : Hid (rawI a = cnI (foI a.coefs a.coefs.length) a.const) := Lib.hid rfl
      obtain ⟨F, hF⟩ : ∃ F, F = foI a.coefs a.coefs.length := ⟨_, rfl⟩
      rw [← hF] at HF hfl hcl
      clear hF
      have HCL := Lib.hid hcl; clear hcl
      by_cases hk0 : a.const = 0
      · have HR := Lib.hid (show rawI a = F by rw [HF.out, cnI, if_pos hk0])
        have hk1 : (a.const != 0) = false := by simp [hk0]
        have HK := Lib.hid hk0; clear hk0
        obtain ⟨q5, q6⟩ := HCL.out
        rcases F with _ | ⟨x, t⟩
        · have HA := Lib.hid (show affI a = [48] by rw [affI, if_pos HR.out])
          have he : (strOf []).toList.isEmpty = true := by rw [Lib.toList_data, strOf_data]; rfl
          go_wp2
          go_ret
          exact ⟨by rw [HA.out]; rfl, SR⟩
        · have HA := Lib.hid (show affI a = x :: t by rw [affI, if_neg (by rw [HR.out]; simp), HR.out])
          have he : (strOf (x :: t)).toList.isEmpty = false := by rw [Lib.toList_data, strOf_data]; rfl
          go_wp2
          go_ret
          exact ⟨by rw [HA.out]; rfl, SR⟩
      · have hk1 : (a.const != 0) = true := by simp [hk0]
        obtain ⟨O, hO⟩ : ∃ O, O = sgI F a.const := ⟨_, rfl⟩
        have hol : O.length ≤ 21 := by rw [hO]; have := sgI_len F a.const; omega
        have hsg := sign_c (c := a.const) HCL.out (by omega)
        rw [← hO] at hsg
        have HSG := Lib.hid hsg; clear hsg
        obtain ⟨m, hm⟩ : ∃ m : Nat, m = a.const.natAbs := ⟨_, rfl⟩
        have HR := Lib.hid (show rawI a = O ++ decL m by rw [HF.out, cnI, if_neg hk0, hO, hm])
        have HA := Lib.hid (show affI a = O ++ decL m by rw [affI, if_neg (by rw [HR.out]; simp [decL_ne]), HR.out])
        have hmx : max a.const (-a.const) = (m : Int) := by omega
        have hw1 : IntKind.i64.wrap (-a.const) = -a.const := by rw [IntKind.wrap_i64]; omega
        have h9 : m < 100 := by omega
        clear hm hk0 hO hfl
        go_wp2_with fail
        refine HSG.out.mono ?_
        rintro e w2 ⟨rfl, q1, t1⟩
        have HQ1 := Lib.hid q1; have HT1 := Lib.hid t1
        have P2 := t1.box2 PR (by simp)
        obtain ⟨q2, q3⟩ := q1
        clear t1
        have hdl := decL_len m
        have hs0 : (strOf O).size ≤ 21 := by rw [strOf_size]; exact hol
        have hs1 : (strOf (decL m)).size ≤ 2 := by rw [strOf_size]; exact hdl
        have HAP := Lib.hid (show strOf O ++ strOf (decL m) = strOf (O ++ decL m) by rw [← strOf_app])
        have g2 : (9223372036854775807 < (strOf O).size + (strOf (decL m)).size) = False := eq_false (by omega)
        go_wp2
        refine wp_region_noPanic ?_
        refine wp_regionT (S := fun w' => w'.cell? ⟨w.heap.size + 1, 0, none⟩ = some (.string (strOf O)) ∧ w'.frozen? ⟨w.heap.size + 1, 0, none⟩ = false ∧ w'.cell? ⟨w.heap.size, 1, none⟩ = some (.int .i64 a.const)) 9 (by kernel_rfl) (⟨by go_simp, by go_simp, by go_simp⟩) (fun hHeld => ?_)
        refine takeT (i := 0) (v := ?_) rfl rfl (by kernel_rfl) (by kernel_rfl) (by kernel_rfl) (by kernel_rfl) (by kernel_rfl) (fun _ _ _ h => h) ?_ hHeld ?_
        rotate_left 1
        · intro w hSw; (try dsimp only at hSw); go_simp
          try simp only [hw1, hmx, g2, if_false]
          try with_reducible rfl
        simp only [Act.put, aq0, aq1, aq2]
        refine takeU (i := 1) (v := ?_) rfl rfl (by kernel_rfl) (by kernel_rfl) (by kernel_rfl) (by kernel_rfl) (fun _ _ _ h => h) ?_ (fun _ => hHeld) ?_
        rotate_left 1
        · intro w; go_simp
          try simp only [hw1, hmx, g2, if_false]
          try with_reducible rfl
        simp only [Act.put, aq0, aq1, aq2]
        refine takeT (i := 2) (v := ?_) rfl rfl (by kernel_rfl) (by kernel_rfl) (by kernel_rfl) (by kernel_rfl) (by kernel_rfl) (fun _ _ _ h => h) ?_ hHeld ?_
        rotate_left 1
        · intro w hSw; (try dsimp only at hSw); go_simp
          try simp only [hw1, hmx, g2, if_false]
          try with_reducible rfl
        simp only [Act.put, aq0, aq1, aq2]
        refine takeU (i := 3) (v := ?_) rfl rfl (by kernel_rfl) (by kernel_rfl) (by kernel_rfl) (by kernel_rfl) (fun _ _ _ h => h) ?_ (fun _ => hHeld) ?_
        rotate_left 1
        · intro w; go_simp
          try simp only [hw1, hmx, g2, if_false]
          try with_reducible rfl
        simp only [Act.put, aq0, aq1, aq2]
        refine takeT (i := 4) (v := ?_) rfl rfl (by kernel_rfl) (by kernel_rfl) (by kernel_rfl) (by kernel_rfl) (by kernel_rfl) (fun _ _ _ h => h) ?_ hHeld ?_
        rotate_left 1
        · intro w hSw; (try dsimp only at hSw); go_simp
          try simp only [hw1, hmx, g2, if_false]
          try with_reducible rfl
        simp only [Act.put, aq0, aq1, aq2]
        refine takeU (i := 5) (v := ?_) rfl rfl (by kernel_rfl) (by kernel_rfl) (by kernel_rfl) (by kernel_rfl) (fun _ _ _ h => h) ?_ (fun _ => hHeld) ?_
        rotate_left 1
        · intro w; go_simp
          try simp only [hw1, hmx, g2, if_false]
          try with_reducible rfl
        simp only [Act.put, aq0, aq1, aq2]
        refine readyT (rs := [6]) (by kernel_rfl) (by simp) (all1 ?_)
        refine opT (i := 6) rfl (wanted_none rfl) (fun K hK => ?_)
        (unfold Oper.wp; go_simp)
        refine hK.out _ _ (hHeld) (fun hHeld => ?_)
        clear hK K
        try simp only [Act.put, aq0, aq1, aq2]
        refine readyT (rs := [7]) (by kernel_rfl) (by simp) (all1 ?_)
        refine opT (i := 7) rfl (wanted_none rfl) (fun K hK => ?_)
        go_simp
        (refine (itoa_c h9).mono ?_; rintro e w4 ⟨rfl, rfl⟩)
        go_wp2_with fail
        refine hK.out _ _ (hHeld) (fun hHeld => ?_)
        clear hK K
        try simp only [Act.put, aq0, aq1, aq2]
        refine takeU (i := 8) (v := ?_) rfl rfl (by kernel_rfl) (by kernel_rfl) (by kernel_rfl) (by kernel_rfl) (fun _ _ _ h => h) ?_ (fun _ => hHeld) ?_
        rotate_left 1
        · intro w; go_simp
          try simp only [hw1, hmx, g2, if_false]
          try with_reducible rfl
        simp only [Act.put, aq0, aq1, aq2]
        refine readyT (rs := [9]) (by kernel_rfl) (by simp) (all1 ?_)
        refine opTT (i := 9) rfl (wanted_none rfl) (by kernel_rfl) (fun K hK => ?_)
        (unfold Oper.wp; go_simp)
        refine hK.out _ _ ?_
        clear hK K
        try simp only [Act.put, aq0, aq1, aq2]
        refine wpAnyT_done (by kernel_rfl) ?_ _
        refine NoPanic.normal ?_
        (skip)
        rw [HAP.out]
        have CW := Lib.hid (show Cel (w2.setCell ⟨w.heap.size + 1, 0, none⟩ (.string (strOf (O ++ decL m)))).drew (w.heap.size + 1) (O ++ decL m) from HQ1.out.put _)
        have TW := Lib.hid (SR.trans (((HT1.out.setCell (p := ⟨w.heap.size + 1, 0, none⟩) (by simp) (.string (strOf (O ++ decL m)))).then (Below.refl _ _).drew).below SR.size (by simp)))
        obtain ⟨w5, hw5⟩ : ∃ w5, w5 = (w2.setCell ⟨w.heap.size + 1, 0, none⟩ (.string (strOf (O ++ decL m)))).drew := ⟨_, rfl⟩
        rw [← hw5] at TW CW ⊢
        clear hw5 q2 q3
        obtain ⟨x, t, hxt⟩ : ∃ x t, O ++ decL m = x :: t := by
          rcases hh : O ++ decL m with _ | ⟨x, t⟩
          · exact absurd (List.append_eq_nil_iff.1 hh).2 (decL_ne _)
          · exact ⟨x, t, rfl⟩
        rw [hxt] at CW HA
        clear hxt
        obtain ⟨q5, q6⟩ := CW.out
        have he : (strOf (x :: t)).toList.isEmpty = false := by rw [Lib.toList_data, strOf_data]; rfl
        go_wp2
        go_ret
        exact ⟨by rw [HA.out]; rfl, TW.out⟩
end Go.Proofs.YtbhniobgaoncaaaGreatDoor
