/- Texts of programs, of both. -/
import Derived.Test.YtbhniobgaoncaaaGreatDoorZpPrsR
import Derived.Test.YtbhniobgaoncaaaGreatDoorZpTyProgram
set_option linter.all false
set_option linter.unusedSimpArgs false
set_option linter.unusedVariables false
namespace Go.Proofs.YtbhniobgaoncaaaGreatDoor
open Go.ChangeShapes Go.WideShapes Go.ChangeAt Go.RowKit Go.Deep

/-- the head of an array's line; one of its numbers; its end -/
def arH (a : Ar) : List UInt8 := [97, 114, 114, 97, 121, 32] ++ a.name.data.toList
def dmT (d : Int) : List UInt8 := 32 :: decL d.toNat
def arT (a : Ar) : List UInt8 := arH a ++ (a.dims.flatMap dmT ++ [10])
def stT (s : Stm) : List UInt8 := stmL s ++ [10]
def prH (x : Prt) : List UInt8 := [112, 97, 114, 116, 10] ++ nestL x.nest
def prT (x : Prt) : List UInt8 := prH x ++ x.body.flatMap stT
def pg0 : List UInt8 := [112, 114, 111, 103, 114, 97, 109, 10]
theorem endL_app (a b : List (List UInt8)) : endL (a ++ b) = endL a ++ endL b := by unfold endL; rw [List.flatMap_append]
theorem endL_nest (xs : List Lp) : endL (xs.map bodyN) = nestL xs := by
  unfold endL nestL
  rw [List.flatMap_map]
  congr 1; funext x; rw [loopL_eq]
theorem progL_eq (p : Pgm) : progL p = pg0 ++ (p.arrays.flatMap arT ++ p.parts.flatMap prT) := by
  have h1 : endL (p.arrays.map arB) = p.arrays.flatMap arT := by
    unfold endL; rw [List.flatMap_map]; congr 1; funext a; unfold arB arT arH dmT arrB; simp
  have h2 : endL (p.parts.flatMap prLn) = p.parts.flatMap prT := by
    induction p.parts with
    | nil => rfl
    | cons x l ih =>
      rw [List.flatMap_cons, List.flatMap_cons, endL_app, ih]
      congr 1
      unfold prLn prT prH
      rw [show (prtB :: (x.nest.map bodyN ++ x.body.map stmL)) = [prtB] ++ (x.nest.map bodyN ++ x.body.map stmL) from rfl, endL_app, endL_app, endL_nest]
      have : endL (x.body.map stmL) = x.body.flatMap stT := by unfold endL; rw [List.flatMap_map]; rfl
      rw [this]; simp [endL, prtB]
  unfold progL linesP
  rw [show (prgB :: (p.arrays.map arB ++ p.parts.flatMap prLn)) = [prgB] ++ (p.arrays.map arB ++ p.parts.flatMap prLn) from rfl, endL_app, endL_app, h1, h2]
  rfl
theorem flt_snoc {α : Type} (f : α → List UInt8) {l : List α} {j : Nat} (h : j < l.length) : (l.take (j + 1)).flatMap f = (l.take j).flatMap f ++ f l[j] := by
  rw [List.take_succ_eq_append_getElem h, List.flatMap_append]; simp
theorem flt_len {α : Type} (f : α → List UInt8) {N : Nat} : ∀ l : List α, (∀ x ∈ l, (f x).length ≤ N) → (l.flatMap f).length ≤ N * l.length
  | [], _ => by simp
  | x :: l, h => by
    have h1 := h x (by simp)
    have h2 := flt_len f l fun y hy => h y (List.mem_cons_of_mem _ hy)
    rw [List.flatMap_cons, List.length_append, List.length_cons, Nat.mul_add]; omega
theorem flt_take {α : Type} (f : α → List UInt8) {N M : Nat} {l : List α} (h : ∀ x ∈ l, (f x).length ≤ N) (hl : l.length ≤ M) (j : Nat) : ((l.take j).flatMap f).length ≤ N * M := by
  have h1 := flt_len f (l.take j) fun y hy => h y (List.mem_of_mem_take hy)
  have h2 : (l.take j).length ≤ M := by rw [List.length_take]; omega
  exact Nat.le_trans h1 (Nat.mul_le_mul_left _ h2)
theorem arN_size {a : Ar} (h : ArW a) : a.name.size ≤ 1 := by
  obtain ⟨c, hc, _⟩ := h.name
  rw [hc, strOf_size]; simp
theorem dmT_len (d : Int) : (dmT d).length ≤ 3 := by unfold dmT; have := decL_len d.toNat; simp; omega
theorem arT_len {a : Ar} (h : ArW a) : (arT a).length ≤ 20 := by
  have h1 := arN_size h
  have h2 := flt_len dmT a.dims (N := 3) fun d _ => dmT_len d
  have h3 := h.d2
  unfold arT arH
  have : a.name.data.toList.length = a.name.size := Array.length_toList
  simp only [List.length_append, List.length_cons, List.length_nil]; omega
theorem stT_len {s : Stm} {d : Int} (h : StmtValidF s d = true) : (stT s).length ≤ 1861 := by
  have h1 := stm_tx h
  have h2 := accL_bd h1.1.1 h1.1.2
  have h3 := exL_le h1.2 (Nat.le_refl _)
  unfold stT stmL
  simp only [List.length_append, List.length_cons, List.length_nil]; omega
theorem lp_sd {x : Lp} (h : LpW x) : SdOk x.lo ∧ SdOk x.hi := ⟨⟨by have := h.lo2; omega, h.lo⟩, ⟨by have := h.hi2; omega, h.hi⟩⟩
theorem nest_ln {x : Prt} (h : PrW x) : (nestL x.nest).length ≤ 792 := by
  have h1 := nestL_len (xs := x.nest) (fun l hl => lp_sd (h.nest l hl)) x.nest.length (Nat.le_refl _)
  rw [List.take_length] at h1
  have := h.n4
  omega
theorem prT_len {x : Prt} (h : PrW x) : (prT x).length ≤ 9000 := by
  have h1 := nest_ln h
  have h2 := flt_len stT x.body (N := 1861) fun s hs => stT_len (h.body s hs)
  have h3 := h.b4
  unfold prT prH
  simp only [List.length_append, List.length_cons, List.length_nil]; omega
/-- the text so far: j arrays; then k parts -/
def tx1 (p : Pgm) (j : Nat) : List UInt8 := pg0 ++ (p.arrays.take j).flatMap arT
def tx2 (p : Pgm) (k : Nat) : List UInt8 := (pg0 ++ p.arrays.flatMap arT) ++ (p.parts.take k).flatMap prT
theorem tx1_len {p : Pgm} (h : PgW p) (j : Nat) : (tx1 p j).length ≤ 100 := by
  have := flt_take arT (N := 20) (M := 4) (l := p.arrays) (fun a ha => arT_len (h.ar a ha)) h.a4 j
  unfold tx1 pg0; simp only [List.length_append, List.length_cons, List.length_nil]; omega
theorem tx2_len {p : Pgm} (h : PgW p) (k : Nat) : (tx2 p k).length ≤ 50000 := by
  have h1 := flt_take arT (N := 20) (M := 4) (l := p.arrays) (fun a ha => arT_len (h.ar a ha)) h.a4 p.arrays.length
  rw [List.take_length] at h1
  have := flt_take prT (N := 9000) (M := 4) (l := p.parts) (fun a ha => prT_len (h.pr a ha)) h.p4 k
  unfold tx2 pg0; simp only [List.length_append, List.length_cons, List.length_nil]; omega
theorem tx1_end (p : Pgm) : tx1 p p.arrays.length = tx2 p 0 := by unfold tx1 tx2; rw [List.take_length]; simp
theorem tx2_end (p : Pgm) : tx2 p p.parts.length = progL p := by unfold tx2; rw [List.take_length, progL_eq, List.append_assoc]
theorem tx1_snoc {p : Pgm} {j : Nat} (h : j < p.arrays.length) : tx1 p (j + 1) = tx1 p j ++ arT p.arrays[j] := by unfold tx1; rw [flt_snoc arT h, List.append_assoc]
theorem tx2_snoc {p : Pgm} {j : Nat} (h : j < p.parts.length) : tx2 p (j + 1) = tx2 p j ++ prT p.parts[j] := by unfold tx2; rw [flt_snoc prT h]; simp only [List.append_assoc]
set_option maxRecDepth 100000 in
set_option maxHeartbeats 8000000 in
theorem programText_c {w : World} {p : Pgm} {cs : List Value} {bs : List Nat} (h : Rep w p.d cs bs) (hp : PgW p) :
    Calls Tryz.prog 36 #[.agg cs.toArray] w fun e w' => e = .returned (.string (strOf (progL p))) ∧ Below w.heap.size w w' := by
  have HP := Lib.hid hp
  have hn1 := hp.a4; have hn2 := hp.p4
  clear hp
  obtain ⟨A1, c1, A2, c2, d1, d2, rfl, rfl, g1, g2⟩ := Rep.pgm_iff.1 h
  have Garrays := Lib.hid g1
  have Gparts := Lib.hid g2
  clear h g1 g2
  have H0 : Below w.heap.size w (w.alloc (.cells #[.slice A1 p.arrays.length c1, .slice A2 p.parts.length c2] 31)) := bel
  have P0 : Box2 (w.alloc (.cells #[.slice A1 p.arrays.length c1, .slice A2 p.parts.length c2] 31)) w.heap.size (.slice A1 p.arrays.length c1) (.slice A2 p.parts.length c2) := Box2.new w _ _ _
  obtain ⟨W, hW⟩ : ∃ W, W = w.alloc (.cells #[.slice A1 p.arrays.length c1, .slice A2 p.parts.length c2] 31) := ⟨_, rfl⟩
  rw [← hW] at H0 P0
  have HW := Lib.hid hW; clear hW
  have ht0 : (⟨#[112, 114, 111, 103, 114, 97, 109, 10]⟩ : ByteArray) = strOf (tx1 p 0) := rfl
  have HT0 := Lib.hid ht0; clear ht0
  go_enter Tryz.func36, Tryz.ntmps36
  go_wp2
  rw [← HW.out, HT0.out]
  go_loopw [3, 15] (fun u i wr => ∃ j : Nat, j ≤ p.arrays.length ∧ i = .int .i64 j ∧ u = .string (strOf (tx1 p j)) ∧ Below W.heap.size W wr) (fun _ i _ => p.arrays.length - (intOf i).toNat)
  case atStart => exact ⟨0, Nat.zero_le _, rfl, rfl, Below.refl _ _⟩
  case round =>
    obtain ⟨j, hj, rfl, rfl, hb⟩ := hrel
    have hbw := below_tr H0 hb
    have PR := P0.to hb
    by_cases hlt : j < p.arrays.length
    · have HX := Lib.hid (HP.out.ar _ (List.getElem_mem hlt))
      have hst := tx1_snoc hlt
      have htl := tx1_len HP.out j
      obtain ⟨be, oe, cse, le, rfl, hble, hre, _, _, hce⟩ := (Garrays.out.below hbw).sls_at Ar.d_size (k := j) hlt
      have Ge := Lib.hid hre
      obtain ⟨A2e, c2e, d2e, rfl, rfl, g1e, g2e⟩ := Rep.ar_iff.1 hre
      have k0e := (hce 0 _ rfl).1; rw [Nat.add_zero] at k0e
      have k1e := (hce 1 _ rfl).1
      have Q1e := Lib.hid g1e
      have Q2e := Lib.hid g2e
      clear hce hre g1e g2e
      obtain ⟨x, hx⟩ : ∃ x, x = p.arrays[j] := ⟨_, rfl⟩
      rw [← hx] at k0e k1e Q1e Q2e HX hst
      clear hx Ge
      have hns := arN_size HX.out
      have hdl := HX.out.d2
      have hdn : x.dims.length ≤ 9223372036854775807 := by omega
      obtain ⟨T, hT⟩ : ∃ T, T = tx1 p j := ⟨_, rfl⟩
      rw [← hT] at hst htl ⊢
      have HST := Lib.hid hst
      clear hT hst
      have hsT : (strOf T).size ≤ 100 := by rw [strOf_size]; exact htl
      have HD0 := Lib.hid (show strOf T ++ ((⟨#[97, 114, 114, 97, 121, 32]⟩ : ByteArray) ++ x.name) = strOf (T ++ arH x) by
        rw [← strOf_app, arH, ← strOf_app, ← strOf_eq (s := x.name) rfl]; rfl)
      have hal : (arH x).length ≤ 7 := by
        have : x.name.data.toList.length = x.name.size := Array.length_toList
        unfold arH; simp only [List.length_append, List.length_cons, List.length_nil]; omega
      obtain ⟨wo, rfl⟩ : ∃ wo, wo = wr := ⟨_, rfl⟩
      go_wp2
      rw [HD0.out]
      have SW : Below wo.heap.size wo (wo.alloc (.cells #[.string x.name, .slice A2e x.dims.length c2e] 63)) := bel
      obtain ⟨W1, hW1⟩ : ∃ W1, W1 = wo.alloc (.cells #[.string x.name, .slice A2e x.dims.length c2e] 63) := ⟨_, rfl⟩
      rw [← hW1] at SW ⊢
      clear hW1
      go_loopw [3, 27] (fun u i wr => ∃ q : Nat, q ≤ x.dims.length ∧ i = .int .i64 q ∧ u = .string (strOf ((T ++ arH x) ++ (x.dims.take q).flatMap dmT)) ∧ Below W1.heap.size W1 wr) (fun _ i _ => x.dims.length - (intOf i).toNat)
      case atStart => exact ⟨0, Nat.zero_le _, rfl, by simp, Below.refl _ _⟩
      case round =>
        obtain ⟨q, hq, rfl, rfl, hb2⟩ := hrel
        have hb3 := below_tr SW hb2
        have hdt := flt_take dmT (N := 3) (M := 2) (l := x.dims) (fun d _ => dmT_len d) hdl q
        obtain ⟨Y, hY⟩ : ∃ Y, Y = (T ++ arH x) ++ (x.dims.take q).flatMap dmT := ⟨_, rfl⟩
        have hYl : (strOf Y).size ≤ 113 := by rw [strOf_size, hY]; simp only [List.length_append]; omega
        by_cases hlt2 : q < x.dims.length
        · have hs2 := flt_snoc dmT hlt2
          obtain ⟨b2, o2, rfl, _, hbl2, hc2, _⟩ := Q2e.out.ints_at hlt2
          have hd6 := HX.out.dim _ (List.getElem_mem hlt2)
          obtain ⟨n, hn⟩ : ∃ n : Nat, x.dims[q] = (n : Int) := ⟨x.dims[q].toNat, by omega⟩
          have hn9 : n < 100 := by omega
          have hcr : wr.cell? ⟨b2, o2 + q, none⟩ = some (.int .i64 (n : Int)) := by rw [hb3.cell hbl2, hc2, gi_eq hlt2, hn]
          have HY2 := Lib.hid (show strOf Y ++ ((⟨#[32]⟩ : ByteArray) ++ strOf (decL n)) = strOf ((T ++ arH x) ++ (x.dims.take (q + 1)).flatMap dmT) by
            rw [hs2, hn, ← List.append_assoc, ← hY, ← strOf_app, dmT, Int.toNat_natCast, show (32 :: decL n) = [32] ++ decL n from rfl, ← strOf_app]; rfl)
          have hdn2 : (strOf (decL n)).size ≤ 2 := by rw [strOf_size]; exact decL_len n
          rw [← hY]
          clear hY hs2 hd6 hn hc2
          go_wp2_with fail
          refine (itoa_c hn9).mono ?_
          rintro e w2 ⟨rfl, rfl⟩
          go_wp2
          go_roundw
          case rel => exact ⟨q + 1, by omega, by go_num, by rw [← HY2.out], hb2⟩
          case measure => simp [intOf]; omega
        · have hqq : q = x.dims.length := by omega
          have HY2 := Lib.hid (show strOf Y ++ (⟨#[10]⟩ : ByteArray) = strOf (tx1 p (j + 1)) by
            rw [HST.out, hY, hqq, List.take_length, arT, show (⟨#[10]⟩ : ByteArray) = strOf [10] from rfl, strOf_app]
            simp only [List.append_assoc])
          rw [← hY]
          clear hY
          subst hqq
          go_wp2
          go_roundw
          case rel => exact ⟨j + 1, by omega, by go_num, by rw [← HY2.out], below_tr hb hb3⟩
          case measure => simp [intOf]; omega
    · have hjj : j = p.arrays.length := by omega
      have HE := Lib.hid (show tx1 p j = tx2 p 0 by rw [hjj, tx1_end])
      subst hjj
      rw [HE.out]
      obtain ⟨W3, hW3⟩ : ∃ W3, W3 = wr := ⟨_, rfl⟩
      rw [← hW3] at hbw PR hb ⊢
      clear hW3
      go_wp2
      go_loopw [3, 43] (fun u i wr => ∃ k : Nat, k ≤ p.parts.length ∧ i = .int .i64 k ∧ u = .string (strOf (tx2 p k)) ∧ Below W3.heap.size W3 wr) (fun _ i _ => p.parts.length - (intOf i).toNat)
      case atStart => exact ⟨0, Nat.zero_le _, rfl, rfl, Below.refl _ _⟩
      case round =>
        obtain ⟨k, hk, rfl, rfl, hb4⟩ := hrel
        have hbw4 := below_tr hbw hb4
        have PR4 := PR.to hb4
        by_cases hlt2 : k < p.parts.length
        · have HX := Lib.hid (HP.out.pr _ (List.getElem_mem hlt2))
          have hst := tx2_snoc hlt2
          have htl := tx2_len HP.out k
          obtain ⟨be, oe, cse, le, rfl, hble, hre, _, _, hce⟩ := (Gparts.out.below hbw4).sls_at Prt.d_size (k := k) hlt2
          have Ge := Lib.hid hre
          obtain ⟨A1e, c1e, A2e, c2e, d1e, d2e, rfl, rfl, g1e, g2e⟩ := Rep.prt_iff.1 hre
          have k0e := (hce 0 _ rfl).1; rw [Nat.add_zero] at k0e
          have k1e := (hce 1 _ rfl).1
          have Q1e := Lib.hid g1e
          have Q2e := Lib.hid g2e
          clear hce hre g1e g2e
          obtain ⟨x, hx⟩ : ∃ x, x = p.parts[k] := ⟨_, rfl⟩
          rw [← hx] at k0e k1e Q1e Q2e HX hst
          clear hx Ge
          have hb4l := HX.out.b4
          have hbn : x.body.length ≤ 9223372036854775807 := by omega
          have hnl := nest_ln HX.out
          obtain ⟨T, hT⟩ : ∃ T, T = tx2 p k := ⟨_, rfl⟩
          rw [← hT] at hst htl ⊢
          have HST := Lib.hid hst
          clear hT hst
          have hsT : (strOf T).size ≤ 50000 := by rw [strOf_size]; exact htl
          have hsN : (strOf (nestL x.nest)).size ≤ 792 := by rw [strOf_size]; exact hnl
          have HD0 := Lib.hid (show strOf T ++ ((⟨#[112, 97, 114, 116, 10]⟩ : ByteArray) ++ strOf (nestL x.nest)) = strOf (T ++ prH x) by
            rw [← strOf_app, prH, ← strOf_app]; rfl)
          have hphl : (prH x).length ≤ 797 := by unfold prH; simp only [List.length_append, List.length_cons, List.length_nil]; omega
          obtain ⟨wo, rfl⟩ : ∃ wo, wo = wr := ⟨_, rfl⟩
          go_wp2_with fail
          refine (nestText_c (Q1e.out.below bel) (by have := HX.out.n4; omega) (fun l hl => lp_sd (HX.out.nest l hl))).mono ?_
          rintro e w1 ⟨rfl, b1⟩
          have B1 : Box2 w1 wo.heap.size (.slice A1e x.nest.length c1e) (.slice A2e x.body.length c2e) := (Box2.new wo _ _ _).to b1
          have SW : Below wo.heap.size wo w1 := bel
          clear b1
          go_wp2
          rw [HD0.out]
          go_loopw [3, 56] (fun u i wr => ∃ q : Nat, q ≤ x.body.length ∧ i = .int .i64 q ∧ u = .string (strOf ((T ++ prH x) ++ (x.body.take q).flatMap stT)) ∧ Below w1.heap.size w1 wr) (fun _ i _ => x.body.length - (intOf i).toNat)
          case atStart => exact ⟨0, Nat.zero_le _, rfl, by simp, Below.refl _ _⟩
          case round =>
            obtain ⟨q, hq, rfl, rfl, hb5⟩ := hrel
            have hb6 := below_tr SW hb5
            have hdt := flt_take stT (N := 1861) (M := 4) (l := x.body) (fun s hs => stT_len (HX.out.body s hs)) hb4l q
            obtain ⟨Y, hY⟩ : ∃ Y, Y = (T ++ prH x) ++ (x.body.take q).flatMap stT := ⟨_, rfl⟩
            have hYl : (strOf Y).size ≤ 60000 := by rw [strOf_size, hY]; simp only [List.length_append]; omega
            by_cases hlt3 : q < x.body.length
            · have hs2 := flt_snoc stT hlt3
              have hsv := HX.out.body _ (List.getElem_mem hlt3)
              obtain ⟨bf, of, csf, lf, rfl, hblf, hrf, _, _, hcf⟩ := (Q2e.out.below hb6).sls_at Stm.d_size (k := q) hlt3
              have Gf := Lib.hid hrf
              obtain ⟨A2f, c2f, A5f, c5f, A8f, c8f, A9f, c9f, d2f, d5f, d8f, d9f, rfl, rfl, g1f, g2f, g3f, g4f, g5f, g6f, g7f, g8f, g9f⟩ := Rep.stm_iff.1 hrf
              have k0f := (hcf 0 _ rfl).1; rw [Nat.add_zero] at k0f
              have k1f := (hcf 1 _ rfl).1
              have k2f := (hcf 2 _ rfl).1
              have k3f := (hcf 3 _ rfl).1
              have k4f := (hcf 4 _ rfl).1
              have k5f := (hcf 5 _ rfl).1
              have k6f := (hcf 6 _ rfl).1
              have k7f := (hcf 7 _ rfl).1
              have k8f := (hcf 8 _ rfl).1
              have Q1f := Lib.hid g1f
              have Q2f := Lib.hid g2f
              have Q3f := Lib.hid g3f
              have Q4f := Lib.hid g4f
              have Q5f := Lib.hid g5f
              have Q6f := Lib.hid g6f
              have Q7f := Lib.hid g7f
              have Q8f := Lib.hid g8f
              have Q9f := Lib.hid g9f
              clear hcf hrf g1f g2f g3f g4f g5f g6f g7f g8f g9f
              obtain ⟨y, hy⟩ : ∃ y, y = x.body[q] := ⟨_, rfl⟩
              rw [← hy] at k0f k1f k2f k3f k4f k5f k6f k7f k8f Gf hs2 hsv
              clear hy
              have hyl := stT_len hsv
              have HSV := Lib.hid hsv
              have HY2 := Lib.hid (show strOf Y ++ (strOf (stmL y) ++ (⟨#[10]⟩ : ByteArray)) = strOf ((T ++ prH x) ++ (x.body.take (q + 1)).flatMap stT) by
                rw [hs2, ← List.append_assoc, ← hY, ← strOf_app Y, stT, ← strOf_app]; rfl)
              have hdn2 : (strOf (stmL y)).size ≤ 1861 := by rw [strOf_size]; unfold stT at hyl; simp only [List.length_append, List.length_cons, List.length_nil] at hyl; omega
              rw [← hY]
              clear hY hs2 hsv hyl
              go_wp2_with fail
              refine (stmtText_c (Gf.out.below bel) HSV.out).mono ?_
              rintro e w2 ⟨rfl, b2⟩
              have S2 : Below wr.heap.size wr w2 := bel
              go_wp2
              go_roundw
              case rel => exact ⟨q + 1, by omega, by go_num, by rw [← HY2.out], below_tr hb5 S2⟩
              case measure => simp [intOf]; omega
            · have hqq : q = x.body.length := by omega
              have HY2 := Lib.hid (show Y = tx2 p (k + 1) by rw [HST.out, hY, hqq, List.take_length, prT, List.append_assoc])
              rw [← hY]
              clear hY
              subst hqq
              go_wp2
              go_roundw
              case rel => exact ⟨k + 1, by omega, by go_num, by rw [HY2.out], below_tr hb4 hb6⟩
              case measure => simp [intOf]; omega
        · have hkk : k = p.parts.length := by omega
          have HE2 := Lib.hid (show tx2 p k = progL p by rw [hkk, tx2_end])
          subst hkk
          go_wp2
          go_ret
          exact ⟨by rw [HE2.out]; rfl, hbw4⟩
end Go.Proofs.YtbhniobgaoncaaaGreatDoor
