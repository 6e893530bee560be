/- Slices of slices of integers: the law package's functions on them. -/
import Derived.Test.YtlllidhmohdgiaaData
import Derived.Test.YtlllidhmohdgiaaUni
set_option linter.all false
set_option linter.unusedSimpArgs false
set_option linter.unusedVariables false
namespace Go.Proofs.Ytlllidhmohdgiaa
open Go.ChangeShapes Go.WideShapes Go.ChangeAt Go.RowKit Go.Deep

theorem ints_size (x : List Int) : (ints x).size = 1 := rfl
def mkI (q : Int) (x : List Int) : List Int := seqI q x.length
def cntI (x : List Int) : Nat := x.length
theorem Rep.ints_form1 {w : World} {x : List Int} {cs : List Value} {bs : List Nat} (h : Rep w (ints x) cs bs) : ∃ A c, cs = [.slice A x.length c] := by
  obtain ⟨A, c, rfl, _⟩ := h.ints_form
  exact ⟨A, c, rfl⟩

set_option maxHeartbeats 1000000 in
theorem eqIntSS_b {w : World} {xs : List (List Int)} {A B : Option Addr} {n m c d : Nat} {bs bs' : List Nat} (hA : Rep w (sls ints xs) [.slice A n c] bs) (hB : Rep w (sls ints xs) [.slice B m d] bs') :
    Calls Try.prog 43 #[.slice A n c, .slice B m d] w fun e w' => e = .returned (.bool true) ∧ Below w.heap.size w w' := by
  obtain ⟨rfl, h1, h2⟩ := hA.sls_len
  obtain ⟨rfl, _, _⟩ := hB.sls_len
  have hn : xs.length ≤ 9223372036854775807 := Nat.le_trans h1 h2
  clear h1 h2
  have hl1 : ((xs.length : Int) != (xs.length : Int)) = false := by simp
  have HA := Lib.hid hA; clear hA
  have HB := Lib.hid hB; clear hB
  go_enter Try.func43, Try.ntmps43
  go_wp2
  go_loopw [5] (fun i wr => ∃ k : Nat, k ≤ xs.length ∧ i = .int .i64 k ∧ Below w.heap.size w wr) (fun i _ => xs.length - (intOf i).toNat)
  case atStart => exact ⟨0, Nat.zero_le _, rfl, Below.refl _ _⟩
  case round =>
    obtain ⟨k, hk, rfl, hb⟩ := hrel
    by_cases hlt : k < xs.length
    · obtain ⟨b, o, cs, l, rfl, hbl, hr, _, _, hc⟩ := (HA.out.below hb).sls_at ints_size hlt
      obtain ⟨A1, c1, rfl⟩ := hr.ints_form1
      have G := Lib.hid hr
      have k0 := (hc 0 _ rfl).1; rw [Nat.add_zero, Nat.mul_one] at k0
      clear hc hr
      obtain ⟨b', o', cs', l', rfl, hbl', hr', _, _, hc'⟩ := (HB.out.below hb).sls_at ints_size hlt
      obtain ⟨A1', c1', rfl⟩ := hr'.ints_form1
      have G' := Lib.hid hr'
      have k0' := (hc' 0 _ rfl).1; rw [Nat.add_zero, Nat.mul_one] at k0'
      clear hc' hr'
      go_wp2_with fail
      go_region_held3 (fun w' => w'.cell? ⟨b, o + k, none⟩ = some (.slice A1 xs[k].length c1) ∧ w'.cell? ⟨b', o' + k, none⟩ = some (.slice A1' xs[k].length c1')) (first | exact ⟨k0, k0'⟩ | exact ⟨(by rw [b1.cell hbl]; exact k0), (by rw [b1.cell hbl']; exact k0')⟩ | skip)
        (first | (go_at_call 33; refine (eqIntS_b (G.out.drewN 1) (G'.out.drewN 1)).mono ?_; rintro e w1 ⟨rfl, b1⟩; replace b1 := of_drew b1))
      have S1 := below_tr hb b1
      clear b1
      go_wp2
      go_roundw
      case rel => exact ⟨k + 1, by omega, by go_num, S1⟩
      case measure => simp [intOf]; omega
    · go_wp2
      go_ret
      exact ⟨rfl, hb⟩

set_option maxHeartbeats 2000000 in
theorem markIntSS_n {w : World} {xs : List (List Int)} {A : Option Addr} {n c : Nat} {bs : List Nat} {q : Int} (h : Rep w (sls ints xs) [.slice A n c] bs) (hnd : bs.Nodup) (h0 : 0 ≤ q) (h1 : q + ((cntL cntI xs : Nat) : Int) ≤ 4611686018427387904) :
    Calls Try.prog 45 #[.slice A n c, .int .i64 q] w fun e w' => e = .returned (.int .i64 (q + ((cntL cntI xs : Nat) : Int))) ∧ Rep w' (sls ints (mkL mkI cntI q xs)) [.slice A n c] bs ∧ Touch bs w w' := by
  obtain ⟨rfl, h2, h3⟩ := h.sls_len
  have hn : xs.length ≤ 9223372036854775807 := Nat.le_trans h2 h3
  have ND := Lib.hid hnd; clear hnd
  clear h2 h3
  go_enter Try.func45, Try.ntmps45
  go_wp2
  go_loopw [1, 5] (fun u i wr => ∃ j : Nat, j ≤ xs.length ∧ i = .int .i64 j ∧ u = .int .i64 (q + ((cntL cntI (xs.take j) : Nat) : Int)) ∧ Rep wr (sls ints (mkTo mkI cntI q xs j)) [.slice A xs.length c] bs ∧ Touch bs w wr) (fun _ i _ => xs.length - (intOf i).toNat)
  case atStart => exact ⟨0, Nat.zero_le _, rfl, int_eq (by simp [cntL]), by rw [mkTo_zero]; exact h, Touch.refl _ _⟩
  case round =>
    obtain ⟨j, hj, rfl, rfl, hr0, ht⟩ := hrel
    by_cases hlt : j < xs.length
    · have hlen : (mkTo mkI cntI q xs j).length = xs.length := mkTo_len _ _ _ _ hj
      obtain ⟨b, o, cs, l, rfl, hbl, hr, hbb, hlb, hnl, hbn, hc, hset⟩ := hr0.sls_focus ints_size ND.out (k := j) (by rw [hlen]; exact hlt)
      rw [mkTo_get hlt] at hr
      have hcnt := cntL_take (cnt := cntI) hlt
      have hle := cntL_le (cnt := cntI) (xs := xs) (j + 1)
      rw [hcnt] at hle
      have HC := Lib.hid hcnt; clear hcnt hr0 hlen
      obtain ⟨A1, c1, rfl⟩ := hr.ints_form1
      have k0 := (hc 0 _ rfl).1; rw [Nat.add_zero, Nat.mul_one] at k0
      have HS := Lib.hid hset; clear hset hc
      have hx : cntI xs[j] = xs[j].length := rfl
      rw [hx] at hle
      have B1 : q + ((cntL cntI (xs.take j) : Nat) : Int) + ((xs[j].length : Nat) : Int) ≤ 4611686018427387904 := by omega
      have B0 : 0 ≤ q + ((cntL cntI (xs.take j) : Nat) : Int) := by omega
      have HND := Lib.hid (And.intro hnl (And.intro hbn hlb)); clear hnl hbn hlb
      have R0 := Lib.hid hr; clear hr
      have M0 := Mk.refl wr b (o + j) (o + j + 1) l
      go_wp2_with fail
      refine (markIntS_n (q := q + ((cntL cntI (xs.take j) : Nat) : Int)) R0.out HND.out.1 B0 B1).mono ?_
      rintro e w1 ⟨rfl, r1, t1⟩
      have M1 := Lib.hid (M0.call t1 (fun _ h => h) HND.out.2.1 hbl)
      have k1 := Lib.hid ((t1.cell (g := b) (o := o + j) hbl HND.out.2.1).trans k0)
      have R1 := Lib.hid r1; clear r1 t1 k0
      go_wp2
      go_roundw
      case rel =>
        have rs := HS.out _ (mkI (q + ((cntL cntI (xs.take j) : Nat) : Int)) xs[j]) [.slice A1 xs[j].length c1] R1.out M1.out.touch M1.out.frozen (fun jj u hu => by
          match jj, hu with
          | 0, hu => simp only [List.getElem?_cons_zero, Option.some.injEq] at hu; subst hu; rw [Nat.mul_one, Nat.add_zero]; exact k1.out
          | jj + 1, hu => simp at hu) (fun i hi => M1.out.other i (by omega))
        rw [mkTo_set hlt] at rs
        exact ⟨j + 1, by omega, by go_num, int_eq (by rw [HC.out, hx]; omega), rs, ht.trans (M1.out.touch.mono fun y hy => by rcases List.mem_cons.1 hy with rfl | hy; exact hbb; exact HND.out.2.2 y hy)⟩
      case measure => simp [intOf]; omega
    · have hjj : j = xs.length := by omega
      subst hjj
      rw [mkTo_all] at hr0
      go_wp2
      go_ret
      exact ⟨ret_int (by rw [List.take_length]), hr0, ht⟩

set_option maxHeartbeats 2000000 in
theorem heldIntSS_n {w : World} {xs : List (List Int)} {A : Option Addr} {n c : Nat} {bs : List Nat} {q : Int} (h : Rep w (sls ints (mkL mkI cntI q xs)) [.slice A n c] bs) (h0 : 0 ≤ q) (h1 : q + ((cntL cntI xs : Nat) : Int) ≤ 4611686018427387904) :
    Calls Try.prog 46 #[.slice A n c, .int .i64 q] w fun e w' => e = .returned (.int .i64 (q + ((cntL cntI xs : Nat) : Int))) ∧ Below w.heap.size w w' := by
  obtain ⟨hn0, h2, h3⟩ := h.sls_len
  rw [mkL_len] at hn0
  subst hn0
  have hn : xs.length ≤ 9223372036854775807 := Nat.le_trans h2 h3
  clear h2 h3
  have H := Lib.hid h; clear h
  go_enter Try.func46, Try.ntmps46
  go_wp2
  go_loopw [1, 5] (fun u i wr => ∃ j : Nat, j ≤ xs.length ∧ i = .int .i64 j ∧ u = .int .i64 (q + ((cntL cntI (xs.take j) : Nat) : Int)) ∧ Below w.heap.size w wr) (fun _ i _ => xs.length - (intOf i).toNat)
  case atStart => exact ⟨0, Nat.zero_le _, rfl, int_eq (by simp [cntL]), Below.refl _ _⟩
  case round =>
    obtain ⟨j, hj, rfl, rfl, hb⟩ := hrel
    by_cases hlt : j < xs.length
    · obtain ⟨b, o, cs, l, rfl, hbl, hr, _, _, hc⟩ := (H.out.below hb).sls_at ints_size (k := j) (by rw [mkL_len]; exact hlt)
      rw [mkL_get hlt] at hr
      have hcnt := cntL_take (cnt := cntI) hlt
      have hle := cntL_le (cnt := cntI) (xs := xs) (j + 1)
      rw [hcnt] at hle
      have hx : cntI xs[j] = xs[j].length := rfl
      rw [hx] at hle
      have HC := Lib.hid hcnt; clear hcnt
      obtain ⟨A1, c1, rfl⟩ := hr.ints_form1
      have hl : (mkI (q + ((cntL cntI (xs.take j) : Nat) : Int)) xs[j]).length = xs[j].length := by rw [mkI, seqI_len]
      have k0 := (hc 0 _ rfl).1; rw [Nat.add_zero, Nat.mul_one, hl] at k0
      rw [hl] at hr
      clear hc hl
      have B1 : q + ((cntL cntI (xs.take j) : Nat) : Int) + ((xs[j].length : Nat) : Int) ≤ 4611686018427387904 := by omega
      have B0 : 0 ≤ q + ((cntL cntI (xs.take j) : Nat) : Int) := by omega
      have R0 := Lib.hid hr; clear hr hle
      go_wp2_with fail
      refine (heldIntS_n (q := q + ((cntL cntI (xs.take j) : Nat) : Int)) R0.out B0 B1).mono ?_
      rintro e w1 ⟨rfl, b1⟩
      have S1 := below_tr hb b1
      go_wp2
      go_roundw
      case rel => exact ⟨j + 1, by omega, by go_num, int_eq (by rw [HC.out, hx]; omega), S1⟩
      case measure => simp [intOf]; omega
    · have hjj : j = xs.length := by omega
      subst hjj
      go_wp2
      go_ret
      exact ⟨ret_int (by rw [List.take_length]), hb⟩
end Go.Proofs.Ytlllidhmohdgiaa
