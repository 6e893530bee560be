/- Texts of this seat, joined: SqDep, GreedyF, GreedyS, GreedyOrderW. -/
import Derived.Test.YtimocdpfnncnlaaGreatActs
import Derived.Test.YtimocdpfnncnlaaGreatCore
import Derived.Test.YtimocdpfnncnlaaGreatFlowF
import Derived.Test.YtimocdpfnncnlaaGreatLevs1
import Derived.Test.YtimocdpfnncnlaaGreatIntSet
import Derived.Test.YtimocdpfnncnlaaGreatLaw
import Derived.Test.YtimocdpfnncnlaaGreatBasic
import Derived.Test.YtimocdpfnncnlaaGreatMark
import Derived.Test.YtimocdpfnncnlaaGreatOps
/- Library functions on slices of Dep: slices.IndexFunc, ContainsFunc, EqualFunc. Printed by tygen.py. -/
set_option linter.all false
set_option linter.unusedSimpArgs false
set_option linter.unusedVariables false
namespace Go.Proofs.YtimocdpfnncnlaaGreat
open Go.ChangeShapes Go.WideShapes Go.ChangeAt Go.RowKit Go.Deep

set_option maxHeartbeats 1000000 in
theorem IndexFunc_Dep_c {w : World} {xs : List Dp} {A : Option Addr} {n c : Nat} {bs : List Nat} {g : FuncId} {cap : Array Value} {p : Dp → Bool} (h : Rep w (sls Dp.d xs) [.slice A n c] bs) (hg : Enters Tryz.prog g)
    (hp : ∀ x cs bs W, x ∈ xs → Below w.heap.size w W → Rep W (Dp.d x) cs bs → Calls Tryz.prog g (#[.agg cs.toArray] ++ cap) W fun e w' => e = .returned (.bool (p x)) ∧ Below W.heap.size W w') :
    Calls Tryz.prog 112 #[.slice A n c, .func (.func g) #[] cap] w fun e w' => e = .returned (.int .i64 (idxI p xs 0)) ∧ Below w.heap.size w w' := by
  obtain ⟨rfl, h2, h3⟩ := h.sls_len
  have hn : xs.length ≤ 9223372036854775807 := Nat.le_trans h2 h3
  clear h2 h3
  have H := Lib.hid h; clear h
  have HP := Lib.hid hp; clear hp
  unfold Enters at hg
  go_enter Tryz.func112, Tryz.ntmps112
  go_wp2
  go_loopw [8] (fun i wr => ∃ j : Nat, j ≤ xs.length ∧ i = .int .i64 j ∧ idxI p xs 0 = idxI p (xs.drop j) j ∧ Below w.heap.size w wr) (fun i _ => xs.length - (intOf i).toNat)
  case atStart => exact ⟨0, Nat.zero_le _, rfl, by simp, Below.refl _ _⟩
  case round =>
    obtain ⟨j, hj, rfl, hi, hb⟩ := hrel
    have HI := Lib.hid hi; clear hi
    by_cases hlt : j < xs.length
    · have hd := Lib.hid (idxI_drop p xs j hlt)
      obtain ⟨b, o, cs, l, rfl, hbl, hr, _, _, hc⟩ := (H.out.below hb).sls_at Dp.d_size (k := j) hlt
      have G := Lib.hid hr
      obtain ⟨rfl, rfl, g1, g2, g3⟩ := Rep.dp_iff.1 hr
      have k0 := (hc 0 _ rfl).1; rw [Nat.add_zero] at k0
      have k1 := (hc 1 _ rfl).1
      have k2 := (hc 2 _ rfl).1
      clear hc hr g1 g2 g3
      go_wp2_with fail
      refine (HP.out _ _ _ _ (List.getElem_mem hlt) (by exact hb) G.out).mono ?_
      rintro e w1 ⟨rfl, b1⟩
      have S1 := below_tr hb b1
      by_cases hpx : p xs[j] = true
      · have hd2 := Lib.hid (hd.out.trans (if_pos hpx))
        have HX := Lib.hid hpx; clear hpx
        rw [HX.out]
        go_wp2
        go_ret
        exact ⟨ret_int (by rw [HI.out, hd2.out]), S1⟩
      · have hd2 := Lib.hid (hd.out.trans (if_neg hpx))
        simp only [Bool.not_eq_true] at hpx
        have HX := Lib.hid hpx; clear hpx
        rw [HX.out]
        go_wp2
        go_roundw
        case rel => exact ⟨j + 1, by omega, by go_num, by rw [HI.out, hd2.out], S1⟩
        case measure => simp [intOf]; omega
    · have hjj : j = xs.length := by omega
      subst hjj
      go_wp2
      go_ret
      exact ⟨ret_int (by rw [HI.out]; simp [idxI]), hb⟩

theorem ContainsFunc_Dep_c {w : World} {xs : List Dp} {A : Option Addr} {n c : Nat} {bs : List Nat} {g : FuncId} {cap : Array Value} {p : Dp → Bool} (h : Rep w (sls Dp.d xs) [.slice A n c] bs) (hg : Enters Tryz.prog g)
    (hp : ∀ x cs bs W, x ∈ xs → Below w.heap.size w W → Rep W (Dp.d x) cs bs → Calls Tryz.prog g (#[.agg cs.toArray] ++ cap) W fun e w' => e = .returned (.bool (p x)) ∧ Below W.heap.size W w') :
    Calls Tryz.prog 80 #[.slice A n c, .func (.func g) #[] cap] w fun e w' => e = .returned (.bool (xs.any p)) ∧ Below w.heap.size w w' := by
  have hx := Lib.hid (idxI_any p xs 0 (Int.le_refl _))
  have HH := Lib.hid h; clear h
  have HP := Lib.hid hp; clear hp
  go_enter Tryz.func80, Tryz.ntmps80
  go_wp2_with fail
  refine (IndexFunc_Dep_c HH.out hg HP.out).mono ?_
  rintro e w1 ⟨rfl, b1⟩
  go_wp2
  go_ret
  exact ⟨ret_bool hx.out, b1⟩


end Go.Proofs.YtimocdpfnncnlaaGreat

/- Orders that are built by choices, in plain Lean. -/
namespace Go.Proofs.YtimocdpfnncnlaaGreat
open Go.ChangeShapes Go.WideShapes Go.ChangeAt Go.RowKit Go.Deep

theorem chF_mem {f : Nat → Bool} {x : Int} : ∀ {n : Nat}, x ∈ chF f n ↔ ∃ k : Nat, k < n ∧ f k = true ∧ x = (k : Int)
  | 0 => by simp [chF]
  | n + 1 => by
    rw [chF, List.mem_append, chF_mem]
    constructor
    · rintro (⟨k, h1, h2, h3⟩ | h)
      · exact ⟨k, by omega, h2, h3⟩
      · split at h
        · next hf => rw [List.mem_singleton] at h; exact ⟨n, by omega, hf, h⟩
        · cases h
    · rintro ⟨k, h1, h2, h3⟩
      rcases Nat.lt_or_ge k n with h | h
      · exact .inl ⟨k, h, h2, h3⟩
      · have : k = n := by omega
        subst this
        exact .inr (by rw [if_pos h2, List.mem_singleton]; exact h3)
/-- some instance that i waits for is not done -/
def waitsB (ds : List Dp) (f : Nat → Bool) (i : Nat) : Bool := ds.any fun d => decide (d.to_ = (i : Int)) && !f d.from_.toNat
def rdyB (ds : List Dp) (f : Nat → Bool) (i : Nat) : Bool := !f i && !waitsB ds f i
def rdyF (ds : List Dp) (f : Nat → Bool) (n : Nat) : List Int := chF (rdyB ds f) n
def choiceF (ch : List Int) (m : Nat) (many : Nat) : Int := if ch = [] then 0 else max 0 (Int.tmod (gi ch (m % ch.length)) (many : Int))
def pickG (ds : List Dp) (ch : List Int) (n m : Nat) (f : Nat → Bool) : Int := gi (rdyF ds f n) (choiceF ch m (rdyF ds f n).length).toNat
def setB (f : Nat → Bool) (x : Nat) : Nat → Bool := fun k => if k = x then true else f k
def grD (ds : List Dp) (ch : List Int) (n : Nat) : Nat → Nat → Bool
  | 0 => fun _ => false
  | m + 1 => setB (grD ds ch n m) (pickG ds ch n m (grD ds ch n m)).toNat
def grL (ds : List Dp) (ch : List Int) (n : Nat) : Nat → List Int
  | 0 => []
  | m + 1 => grL ds ch n m ++ [pickG ds ch n m (grD ds ch n m)]
theorem grL_len (ds : List Dp) (ch : List Int) (n : Nat) : ∀ m, (grL ds ch n m).length = m
  | 0 => rfl
  | m + 1 => by rw [grL, List.length_append, grL_len ds ch n m]; rfl
def cntD (f : Nat → Bool) : Nat → Nat
  | 0 => 0
  | n + 1 => cntD f n + (if f n then 1 else 0)
theorem cntD_same {f g : Nat → Bool} : ∀ {n : Nat}, (∀ k, k < n → f k = g k) → cntD f n = cntD g n
  | 0, _ => rfl
  | n + 1, h => by rw [cntD, cntD, cntD_same fun k hk => h k (by omega), h n (by omega)]
theorem cntD_set {f : Nat → Bool} {x : Nat} (h : f x = false) : ∀ {n : Nat}, x < n → cntD (setB f x) n = cntD f n + 1
  | 0, h0 => by omega
  | n + 1, h0 => by
    rw [cntD, cntD]
    rcases Nat.lt_or_ge x n with h1 | h1
    · rw [cntD_set h h1]
      have : setB f x n = f n := by unfold setB; rw [if_neg (by omega)]
      rw [this]; omega
    · have : x = n := by omega
      subst this
      have e : cntD (setB f x) x = cntD f x := cntD_same fun k hk => by unfold setB; rw [if_neg (by omega)]
      have e2 : setB f x x = true := by unfold setB; rw [if_pos rfl]
      rw [e, e2, h]; simp
theorem cntD_all {f : Nat → Bool} : ∀ {n : Nat}, (∀ k, k < n → f k = true) → cntD f n = n
  | 0, _ => rfl
  | n + 1, h => by rw [cntD, cntD_all fun k hk => h k (by omega), h n (by omega)]; simp
/-- while some instance is not done, one is ready -/
theorem rdy_some {us : List Us} {ds : List Dp} {f : Nat → Bool} {n : Nat} (hd : ∀ d ∈ ds, DpOk us d) (hc : cntD f n < n) : ∃ k, k < n ∧ rdyB ds f k = true := by
  have hex : ∃ k, k < n ∧ f k = false := by
    by_cases h : ∀ k, k < n → f k = true
    · have := cntD_all h; omega
    · simp only [Classical.not_forall, not_imp] at h
      obtain ⟨k, h1, h2⟩ := h
      exact ⟨k, h1, by simpa using h2⟩
  suffices H : ∀ m, (∃ k, k < m ∧ k < n ∧ f k = false) → ∃ k, k < n ∧ rdyB ds f k = true by
    obtain ⟨k, h1, h2⟩ := hex
    exact H n ⟨k, h1, h1, h2⟩
  intro m
  induction m with
  | zero => rintro ⟨k, h, _⟩; omega
  | succ m ih =>
    rintro ⟨k, h1, h2, h3⟩
    by_cases hs : ∃ j, j < m ∧ j < n ∧ f j = false
    · exact ih hs
    · have hk : k = m := by
        rcases Nat.lt_or_ge k m with h | h
        · exact (hs ⟨k, h, h2, h3⟩).elim
        · omega
      subst hk
      refine ⟨k, h2, ?_⟩
      have hw : waitsB ds f k = false := by
        unfold waitsB
        rw [List.any_eq_false]
        intro d hdm
        obtain ⟨q1, q2, q3, _, _⟩ := hd d hdm
        by_cases e : d.to_ = (k : Int)
        · have hj : f d.from_.toNat = true := by
            cases hf : f d.from_.toNat with
            | true => rfl
            | false => exact (hs ⟨d.from_.toNat, by omega, by omega, hf⟩).elim
          simp [hj]
        · simp [e]
      unfold rdyB
      rw [h3, hw]; rfl
theorem choiceF_bd (ch : List Int) (m : Nat) {many : Nat} (h : 0 < many) : 0 ≤ choiceF ch m many ∧ choiceF ch m many < (many : Int) := by
  unfold choiceF
  split
  · omega
  · have := Int.tmod_lt_of_pos (gi ch (m % ch.length)) (show (0 : Int) < (many : Int) by omega)
    omega
theorem pickG_ok {us : List Us} {ds : List Dp} {ch : List Int} {n m : Nat} {f : Nat → Bool} (hd : ∀ d ∈ ds, DpOk us d) (hc : cntD f n < n) : 0 < (rdyF ds f n).length ∧ ∃ k : Nat, k < n ∧ f k = false ∧ pickG ds ch n m f = (k : Int) := by
  obtain ⟨k0, h1, h2⟩ := rdy_some hd hc
  have hm : ((k0 : Nat) : Int) ∈ rdyF ds f n := chF_mem.2 ⟨k0, h1, h2, rfl⟩
  have hl : 0 < (rdyF ds f n).length := List.length_pos_of_mem hm
  refine ⟨hl, ?_⟩
  have hb := choiceF_bd ch m hl
  have hlt : (choiceF ch m (rdyF ds f n).length).toNat < (rdyF ds f n).length := by omega
  have hin : pickG ds ch n m f ∈ rdyF ds f n := by
    unfold pickG
    rw [gi_eq hlt]
    exact List.getElem_mem hlt
  obtain ⟨k, q1, q2, q3⟩ := chF_mem.1 hin
  simp only [rdyB, Bool.and_eq_true, Bool.not_eq_true'] at q2
  exact ⟨k, q1, q2.1, q3⟩
theorem grD_cnt {us : List Us} {ds : List Dp} {ch : List Int} {n : Nat} (hd : ∀ d ∈ ds, DpOk us d) : ∀ m, m ≤ n → cntD (grD ds ch n m) n = m
  | 0, _ => by
    suffices H : ∀ k, cntD (fun _ => false) k = 0 from H n
    intro k
    induction k with
    | zero => rfl
    | succ k ih => rw [cntD, ih]; rfl
  | m + 1, h => by
    have ih := grD_cnt (ch := ch) (n := n) hd m (by omega)
    obtain ⟨_, k, h1, h2, h3⟩ := pickG_ok (ch := ch) (m := m) hd (show cntD (grD ds ch n m) n < n by omega)
    rw [grD, h3, Int.toNat_natCast, cntD_set h2 h1, ih]
end Go.Proofs.YtimocdpfnncnlaaGreat

/- Orders that are built by choices, on both sides. -/
namespace Go.Proofs.YtimocdpfnncnlaaGreat
open Go.ChangeShapes Go.WideShapes Go.ChangeAt Go.RowKit Go.Deep

def GreedyF (p : Pgm) (ch : List Int) : List Int := grL (depP p) ch (usP p).length (usP p).length
theorem GreedyF_len (p : Pgm) (ch : List Int) : (GreedyF p ch).length ≤ 1000000 := by
  have := usP_le p
  unfold GreedyF
  rw [grL_len]; omega
theorem GreedyF_n {p : Pgm} (ch : List Int) (h : progOk p = false) : GreedyF p ch = [] := by unfold GreedyF usP; rw [h]; rfl
theorem choiceF_nil (m k : Nat) : choiceF [] m k = 0 := by unfold choiceF; rw [if_pos rfl]
theorem choiceF_some {ch : List Int} (h : 0 < ch.length) (m k : Nat) : choiceF ch m k = max 0 (Int.tmod (gi ch (m % ch.length)) (k : Int)) := by
  unfold choiceF; rw [if_neg (fun e => by rw [e] at h; simp at h)]
theorem Grow.set_apart {w : World} {B : Nat} {e : TypeId} {v : Value} {xs : List Int} (h : Grow w B e 1 v (xs.map D.int)) {p : Addr} (hp : v.ownBlock ≠ some p.block) (u : Value) : Grow (w.setCell p u) B e 1 v (xs.map D.int) := by
  obtain ⟨es, cb, h1, h2, h3, h4, h5⟩ := h
  have hcb := Reps.plain xs h2
  subst hcb
  refine ⟨es, [], ⟨h1.1, ?_⟩, Reps.keep _ h2 ⟨by simp [World.setCell], by simp⟩, h3, by simp, by simp⟩
  rcases h1.2 with h0 | ⟨g, cap, cur, rfl, r1, r2, r3⟩
  · exact .inl h0
  · exact .inr ⟨g, cap, cur, rfl, r1, (Below.heap_setCell _ _ _ _ (fun e => hp (by simp [Value.ownBlock, e]))).trans r2, r3⟩
def waitI (f : Nat → Bool) (q : Nat) (d : Dp) : Bool := decide (d.to_ = (q : Int)) && !f d.from_.toNat
theorem waitsB_eq (ds : List Dp) (f : Nat → Bool) (q : Nat) : ds.any (waitI f q) = waitsB ds f q := rfl
theorem waits_snoc {ds : List Dp} {f : Nat → Bool} {j a b : Nat} (h : j < ds.length) (ha : ds[j].from_ = (a : Int)) (hb : ds[j].to_ = (b : Int)) (q : Nat) : waitsB (ds.take (j + 1)) f q = if q = b ∧ f a = false then true else waitsB (ds.take j) f q := by
  unfold waitsB
  rw [List.take_succ_eq_append_getElem h, List.any_append]
  simp only [List.any_cons, List.any_nil, Bool.or_false, ha, hb, Int.toNat_natCast]
  by_cases e : q = b
  · subst e
    cases hf : f a with
    | false => simp
    | true => simp
  · rw [if_neg (fun h => e h.1), decide_eq_false (by omega)]; simp

theorem choice_c {w : World} {ch : List Int} {A : Option Addr} {n c m k : Nat} {bs : List Nat} (h : Rep w (ints ch) [.slice A n c] bs) (hm : m ≤ 120) (hk : 0 < k) (hk2 : k ≤ 120) :
    Calls Tryz.prog 82 #[.slice A n c, .int .i64 (m : Int), .int .i64 (k : Int)] w fun e w' => e = .returned (.int .i64 (choiceF ch m k)) ∧ w = w' := by
  obtain ⟨rfl, h1, h2⟩ := h.ints_len
  have hn : ch.length ≤ 9223372036854775807 := Nat.le_trans h1 h2
  clear h1 h2
  by_cases h0 : ch.length = 0
  · have HX := Lib.hid (show choiceF ch m k = 0 by rw [List.length_eq_zero_iff.1 h0]; exact choiceF_nil m k)
    rw [h0]
    clear h0 hn
    go_enter Tryz.func82, Tryz.ntmps82
    go_wp2
    go_ret
    exact ⟨ret_int HX.out.symm, rfl⟩
  · have hp : 0 < ch.length := by omega
    have HX := Lib.hid (choiceF_some hp m k)
    have hlt := Nat.mod_lt m hp
    obtain ⟨b, o, rfl, _, hbl, hc, _⟩ := h.ints_at hlt
    have hfit := h.gi_fit (m % ch.length)
    unfold I64 at hfit
    have e1 : (m : Int) % (ch.length : Int) = ((m % ch.length : Nat) : Int) := rfl
    obtain ⟨r, hr⟩ : ∃ r, r = m % ch.length := ⟨_, rfl⟩
    rw [← hr] at hc hlt hfit e1 HX
    obtain ⟨v, hv⟩ : ∃ v, v = gi ch r := ⟨_, rfl⟩
    rw [← hv] at hc hfit HX
    have q0 : ((ch.length : Int) == 0) = false := ieq_f (by omega)
    have hb1 := Int.tmod_lt_of_pos v (show (0 : Int) < (k : Int) by omega)
    have hb2 : -(k : Int) < Int.tmod v (k : Int) := by
      have := Int.tmod_lt_of_pos (-v) (show (0 : Int) < (k : Int) by omega)
      rw [Int.neg_tmod] at this; omega
    clear hr hv h
    go_enter Tryz.func82, Tryz.ntmps82
    go_wp2
    go_ret
    exact ⟨ret_int HX.out.symm, rfl⟩
theorem l7Choice_c {w : World} {ch : List Int} {A : Option Addr} {n c m k : Nat} {bs : List Nat} (h : Rep w (ints ch) [.slice A n c] bs) (hm : m ≤ 120) (hk : 0 < k) (hk2 : k ≤ 120) :
    Calls Tryz.prog 56 #[.slice A n c, .int .i64 (m : Int), .int .i64 (k : Int)] w fun e w' => e = .returned (.int .i64 (choiceF ch m k)) ∧ w = w' := by
  obtain ⟨rfl, h1, h2⟩ := h.ints_len
  have hn : ch.length ≤ 9223372036854775807 := Nat.le_trans h1 h2
  clear h1 h2
  by_cases h0 : ch.length = 0
  · have HX := Lib.hid (show choiceF ch m k = 0 by rw [List.length_eq_zero_iff.1 h0]; exact choiceF_nil m k)
    rw [h0]
    clear h0 hn
    go_enter Tryz.func56, Tryz.ntmps56
    go_wp2
    go_ret
    exact ⟨ret_int HX.out.symm, rfl⟩
  · have hp : 0 < ch.length := by omega
    have HX := Lib.hid (choiceF_some hp m k)
    have hlt := Nat.mod_lt m hp
    obtain ⟨b, o, rfl, _, hbl, hc, _⟩ := h.ints_at hlt
    have hfit := h.gi_fit (m % ch.length)
    unfold I64 at hfit
    have e1 : (m : Int) % (ch.length : Int) = ((m % ch.length : Nat) : Int) := rfl
    obtain ⟨r, hr⟩ : ∃ r, r = m % ch.length := ⟨_, rfl⟩
    rw [← hr] at hc hlt hfit e1 HX
    obtain ⟨v, hv⟩ : ∃ v, v = gi ch r := ⟨_, rfl⟩
    rw [← hv] at hc hfit HX
    have q0 : ((ch.length : Int) == 0) = false := ieq_f (by omega)
    have hb1 := Int.tmod_lt_of_pos v (show (0 : Int) < (k : Int) by omega)
    have hb2 : -(k : Int) < Int.tmod v (k : Int) := by
      have := Int.tmod_lt_of_pos (-v) (show (0 : Int) < (k : Int) by omega)
      rw [Int.neg_tmod] at this; omega
    clear hr hv h
    by_cases hneg : Int.tmod v (k : Int) < 0
    · have HY := Lib.hid (HX.out.trans (show max 0 (Int.tmod v (k : Int)) = 0 by omega))
      go_enter Tryz.func56, Tryz.ntmps56
      go_wp2
      go_ret
      exact ⟨ret_int HY.out.symm, rfl⟩
    · have HY := Lib.hid (HX.out.trans (show max 0 (Int.tmod v (k : Int)) = Int.tmod v (k : Int) by omega))
      go_enter Tryz.func56, Tryz.ntmps56
      go_wp2
      go_ret
      exact ⟨ret_int HY.out.symm, rfl⟩
theorem greedy1_e : Enters Tryz.prog 81 := fun args W => by go_simp
set_option maxRecDepth 100000 in
set_option maxHeartbeats 2000000 in
theorem greedy1_c {W : World} {x : Dp} {m g bi bx a b q : Nat} {f : Nat → Bool} {cs : List Value} {bs : List Nat} (hr : Rep W x.d cs bs) (hrow : W.rowIs g 4 m (fun k => .bool (f k))) (hci : W.cell? ⟨bi, 0, none⟩ = some (.int .i64 (q : Int))) (hc : W.cell? ⟨bx, 0, none⟩ = some (.slice (some ⟨g, 0, none⟩) m m)) (ha : x.from_ = (a : Int)) (hb : x.to_ = (b : Int)) (ham : a < m) :
    Calls Tryz.prog 81 (#[.agg cs.toArray] ++ #[.pointer (some ⟨bi, 0, none⟩), .pointer (some ⟨bx, 0, none⟩)]) W fun e w' => e = .returned (.bool (waitI f q x)) ∧ Below W.heap.size W w' := by
  show Calls Tryz.prog 81 #[.agg cs.toArray, .pointer (some ⟨bi, 0, none⟩), .pointer (some ⟨bx, 0, none⟩)] W _
  obtain ⟨rfl, rfl, _⟩ := Rep.dp_iff.1 hr
  have HX := Lib.hid (show waitI f q x = (decide ((b : Int) = (q : Int)) && !f a) by unfold waitI; rw [ha, hb, Int.toNat_natCast])
  have hca := hrow.cell ham
  have hlg := hrow.lt
  have hlb := lt_of_cell hc
  have hli := lt_of_cell hci
  rw [ha, hb]
  clear hr hrow ha hb
  by_cases hbq : b = q
  · subst hbq
    cases hf : f a with
    | false =>
      rw [hf] at hca HX
      have HY := Lib.hid (HX.out.trans (show (decide ((b : Int) = (b : Int)) && !false) = true by simp))
      clear hf
      go_enter Tryz.func81, Tryz.ntmps81
      go_wp2
      go_ret
      exact ⟨ret_bool HY.out.symm, bel⟩
    | true =>
      rw [hf] at hca HX
      have HY := Lib.hid (HX.out.trans (show (decide ((b : Int) = (b : Int)) && !true) = false by simp))
      clear hf
      go_enter Tryz.func81, Tryz.ntmps81
      go_wp2
      go_ret
      exact ⟨ret_bool HY.out.symm, bel⟩
  · have q1 : ((b : Int) == (q : Int)) = false := ieq_f (by omega)
    have HY := Lib.hid (HX.out.trans (show (decide ((b : Int) = (q : Int)) && !f a) = false by rw [decide_eq_false (by omega)]; rfl))
    go_enter Tryz.func81, Tryz.ntmps81
    go_wp2
    go_ret
    exact ⟨ret_bool HY.out.symm, bel⟩
set_option maxRecDepth 100000 in
set_option maxHeartbeats 8000000 in
theorem greedy_c {w : World} {ds : List Dp} {us : List Us} {ch : List Int} {A A' : Option Addr} {n c n' c' m : Nat} {bs bs' : List Nat} (h : Rep w (sls Dp.d ds) [.slice A n c] bs) (h' : Rep w (ints ch) [.slice A' n' c'] bs') (hd : ∀ d ∈ ds, DpOk us d) (hu : us.length = m) (hm : m ≤ 120) :
    Calls Tryz.prog 57 #[.slice A n c, .int .i64 (m : Int), .slice A' n' c'] w (MadeInts w (grL ds ch m m)) := by
  have HD := Lib.hid h; clear h
  have HC := Lib.hid h'; clear h'
  have HDD := Lib.hid hd; clear hd
  have HU := Lib.hid hu; clear hu
  have hmk := fun W => run_make_row' (P := Tryz.prog) 69 4 (.bool false) 1 Tryz.underlying69 Tryz.infoBool rfl .i64 .i64 m (by omega) (by omega) W
  go_enter Tryz.func57, Tryz.ntmps57
  go_wp2
  clear hmk
  go_loopw [7, 17] (fun u i wr => ∃ j : Nat, j ≤ m ∧ i = .int .i64 j ∧ Grow wr (w.heap.size + 2) 3 1 u ((grL ds ch m j).map D.int) ∧ wr.rowIs w.heap.size 4 m (fun k => .bool (grD ds ch m j k)) ∧ wr.cell? ⟨w.heap.size + 1, 0, none⟩ = some (.slice (some ⟨w.heap.size, 0, none⟩) m m) ∧ Below w.heap.size w wr) (fun _ i _ => m - (intOf i).toNat)
  case atStart => exact ⟨0, Nat.zero_le _, rfl, Grow.nil _ _ _ _, (World.rowIs_made _ _ _ _).alloc _, by go_simp, bel⟩
  case round =>
    obtain ⟨j, hj, rfl, hG, hrow, hbx, hb⟩ := hrel
    have HG0 := Lib.hid hG; clear hG
    have HROW := Lib.hid hrow; clear hrow
    obtain ⟨Au, cu, hfu, _, _⟩ := HG0.out.form
    rw [List.length_map, grL_len] at hfu
    subst hfu
    have lbx := lt_of_cell hbx
    by_cases hlt : j < m
    case neg =>
      have hjj : j = m := by omega
      subst hjj
      obtain ⟨A6, c6, bs6, he, h1, h2, h3, _⟩ := HG0.out.ints
      have HE := Lib.hid he
      have H1 := Lib.hid h1
      clear he h1
      go_wp2
      go_ret
      exact ⟨A6, _, c6, bs6, congrArg Ending.returned HE.out, H1.out, h2, fun y hy => by have := h3 y hy; omega, hb⟩
    obtain ⟨f, hf⟩ : ∃ f, f = grD ds ch m j := ⟨_, rfl⟩
    have HF := Lib.hid hf
    rw [← hf] at HROW
    clear hf
    have hf0 : ∀ q, grD ds ch m (j + 1) q = setB f (pickG ds ch m j f).toNat q := fun q => by rw [HF.out]; rfl
    have HGD := Lib.hid hf0; clear hf0
    have HGL := Lib.hid (show grL ds ch m (j + 1) = grL ds ch m j ++ [pickG ds ch m j f] by rw [HF.out]; rfl)
    obtain ⟨wo, rfl⟩ : ∃ wo : World, wo = wr := ⟨_, rfl⟩
    go_wp2
    go_loopw [10, 21] (fun u i wv => ∃ q : Nat, q ≤ m ∧ i = .int .i64 q ∧ Grow wv wo.heap.size 3 1 u ((chF (rdyB ds f) q).map D.int) ∧ Below wo.heap.size wo wv) (fun _ i _ => m - (intOf i).toNat)
    case atStart => exact ⟨0, Nat.zero_le _, rfl, Grow.nil _ _ _ _, Below.refl _ _⟩
    case round =>
      obtain ⟨q, hq, rfl, hG, hb2⟩ := hrel
      have HG1 := Lib.hid hG; clear hG
      obtain ⟨Ar, cr, hfr, _, _⟩ := HG1.out.form
      rw [List.length_map] at hfr
      subst hfr
      have bxr := cell_to hbx hb2
      have lbr := lt_of_cell bxr
      have HRQ := Lib.hid (row_below HROW.out hb2)
      by_cases hqt : q < m
      case neg =>
        have hqq : q = m := by omega
        subst hqq
        have hcnt := grD_cnt (ch := ch) (n := q) HDD.out j (by omega)
        obtain ⟨hpos, k, hkm, hfk, hpk⟩ := pickG_ok (ch := ch) (m := j) (f := f) (n := q) HDD.out (by rw [HF.out, hcnt]; exact hlt)
        have hle := chF_len (rdyB ds f) q
        obtain ⟨l, hl⟩ : ∃ l, l = rdyF ds f q := ⟨_, rfl⟩
        rw [show pickG ds ch q j f = gi l (choiceF ch j l.length).toNat by rw [hl]; rfl] at hpk
        rw [show chF (rdyB ds f) q = l from hl.symm] at HG1 hle ⊢
        rw [← hl] at hpos
        have HPK := Lib.hid (show pickG ds ch q j f = (k : Int) by rw [← hpk, hl]; rfl)
        clear hl hcnt
        have hcb := choiceF_bd ch j hpos
        obtain ⟨ix, hix⟩ := Int.eq_ofNat_of_zero_le hcb.1
        have hil : ix < l.length := by omega
        rw [hix, Int.toNat_natCast] at hpk
        have HIX := Lib.hid hix
        clear hix hcb
        obtain ⟨A6, c6, bs6, he, h1, h2, h3, _⟩ := HG1.out.ints
        obtain ⟨rfl, rfl⟩ : Ar = A6 ∧ cr = c6 := by simpa using he
        obtain ⟨b6, o6, hA6, _, hl6, hc6, _⟩ := h1.ints_at hil
        subst hA6
        rw [hpk] at hc6
        clear hpk he h1 h2 h3 HG1
        have hck := HRQ.out.cell hkm
        have hfz := HRQ.out.frozen k
        have hlg := HRQ.out.lt
        have hI := Lib.hid (show I64 (k : Int) by unfold I64; omega)
        have hS := below_tr hb hb2
        have HR3 := Lib.hid ((HRQ.out.set k (.bool true)).congr (g := fun x => .bool (grD ds ch q (j + 1) x)) (fun x _ => by rw [HGD.out, HPK.out]; unfold setB; rw [Int.toNat_natCast]; by_cases e : x = k <;> simp [e]))
        have HG := Lib.hid ((HG0.out.below hb2).set_low (p := ⟨w.heap.size, k, none⟩) (by simp) (.bool true))
        have HGL2 := Lib.hid (HGL.out.trans (by rw [HPK.out]))
        obtain ⟨lo, hlo⟩ : ∃ lo, lo = grL ds ch q j := ⟨_, rfl⟩
        have hll : lo.length = j := by rw [hlo, grL_len]
        rw [← hlo] at HG HGL2
        clear hlo HG0 HGL
        have hbz : w.heap.size + 2 ≤ (wr.setCell ⟨w.heap.size, k, none⟩ (.bool true)).heap.size := by simp [World.setCell]; omega
        go_wp2_with fail
        refine (choice_c (HC.out.below hS) (by omega) hpos (by omega)).mono ?_
        rintro e w' ⟨rfl, rfl⟩
        rw [HIX.out]
        go_wp2_with (
          at_builtin
          refine wpList_append_more (w0 := (wr.setCell ⟨w.heap.size, k, none⟩ (.bool true))) (B := (w.heap.size+2)) (xs := lo.map D.int) (ys := [D.int (k:Int)]) rfl (.tmp 52) (.tmp 54) _ rfl _ Tryz.underlying35 Tryz.infoInt rfl (by decide) rfl HG.out ?hbw rfl (one_newN (N := wr.heap.size) (show Rep (wr.setCell ⟨w.heap.size, k, none⟩ (.bool true)) (D.int (k:Int)) [.int .i64 (k:Int)] [] from ⟨rfl, rfl, hI.out⟩) _ (by simp [World.setCell])) ?hys ?hn ?hf ?hlen ?hba ?_
          case hbw => exact bel
          case hys => intro y hy; simp only [List.mem_singleton] at hy; rw [hy]; rfl
          case hn => simp
          case hf => simp
          case hlen => simp; omega
          case hba => exact hbz
          intro v4 w4 hG4 hg4)
        have hown := Lib.hid (fun b hb => (HG.out.own_ge b hb).1)
        have HG4 := Lib.hid (show Grow w4 (w.heap.size + 2) 3 1 v4 ((grL ds ch q (j + 1)).map D.int) by rw [HGL2.out, List.map_append]; exact hG4)
        have HR4 := Lib.hid ((HR3.out.alloc (.cells #[.int .i64 (k : Int)] 3)).of_block (hg4.touch.block w.heap.size (by simp [World.setCell]; omega) (fun hm => by have := hown.out _ (mem_ownL.1 hm); omega)))
        have bx4 : w4.cell? ⟨w.heap.size + 1, 0, none⟩ = some (.slice (some ⟨w.heap.size, 0, none⟩) q q) := (hg4.touch.cell (o := 0) (show w.heap.size + 1 < _ by simp [World.setCell]; omega) (fun hm => by have := hown.out _ (mem_ownL.1 hm); omega)).trans (by go_simp)
        have S4 : Below w.heap.size w w4 := ((hS.setCell (p := ⟨w.heap.size, k, none⟩) (by simp) (.bool true)).alloc (by simp [World.setCell]; omega) _).trans (hg4.below (by simp [World.setCell]; omega) (fun b hb => by have := hown.out b hb; omega))
        clear hG4 hg4
        go_wp2
        go_roundw
        case rel => exact ⟨j + 1, by omega, by go_num, HG4.out, HR4.out, bx4, S4⟩
        case measure => simp [intOf]; omega
      have hS := below_tr hb hb2
      go_wp2_with fail
      refine (ContainsFunc_Dep_c (p := waitI f q) (HD.out.below bel) greedy1_e (fun x cs bs W hm hbw r => by
        obtain ⟨a, b, h1, h2, h3, h4⟩ := (HDD.out x hm).nat
        rw [HU.out] at h4
        exact greedy1_c r (row_below (HRQ.out.alloc _) hbw) (cell_to (show (wr.alloc (.cells #[.int .i64 (q : Int)] 3)).cell? ⟨wr.heap.size, 0, none⟩ = some (.int .i64 (q : Int)) by go_simp) hbw) (cell_to (show (wr.alloc (.cells #[.int .i64 (q : Int)] 3)).cell? ⟨w.heap.size + 1, 0, none⟩ = some (.slice (some ⟨w.heap.size, 0, none⟩) m m) by go_simp) hbw) h1 h2 (by omega))).mono ?_
      rintro e w2 ⟨rfl, b2⟩
      rw [waitsB_eq]
      have T2 : Below wr.heap.size wr w2 := bel
      have hib : w2.cell? ⟨wr.heap.size, 0, none⟩ = some (.int .i64 (q : Int)) := cell_to (show (wr.alloc (.cells #[.int .i64 (q : Int)] 3)).cell? ⟨wr.heap.size, 0, none⟩ = some (.int .i64 (q : Int)) by go_simp) b2
      have bx2 := cell_to bxr T2
      have hr2 := row_below HRQ.out T2
      have hck := hr2.cell hqt
      have hlg := hr2.lt
      have hli := lt_of_cell hib
      have hlx := lt_of_cell bx2
      have S2 : Below wo.heap.size wo w2 := below_tr hb2 T2
      have hbz := S2.size
      have HG := Lib.hid (HG1.out.below T2)
      have hle := chF_len (rdyB ds f) q
      have HCH := Lib.hid (And.intro (fun h => chF_yes (f := rdyB ds f) (k := q) h) (fun h => chF_no (f := rdyB ds f) (k := q) h))
      obtain ⟨l, hl⟩ : ∃ l, l = chF (rdyB ds f) q := ⟨_, rfl⟩
      rw [← hl] at HG hle HCH ⊢
      clear hl b2 hr2 HG1 bxr lbr
      cases hfq : f q with
      | true =>
        rw [hfq] at hck
        have HS := Lib.hid (HCH.out.2 (by unfold rdyB; rw [hfq]; rfl))
        clear hfq
        go_wp2
        go_roundw
        case rel => exact ⟨q + 1, by omega, by go_num, by rw [HS.out]; exact HG.out, S2⟩
        case measure => simp [intOf]; omega
      | false =>
        rw [hfq] at hck
        cases hwq : waitsB ds f q with
        | true =>
          have HS := Lib.hid (HCH.out.2 (by unfold rdyB; rw [hfq, hwq]; rfl))
          clear hfq hwq
          go_wp2
          go_roundw
          case rel => exact ⟨q + 1, by omega, by go_num, by rw [HS.out]; exact HG.out, S2⟩
          case measure => simp [intOf]; omega
        | false =>
          have HS := Lib.hid (HCH.out.1 (by unfold rdyB; rw [hfq, hwq]; rfl))
          have hI := Lib.hid (show I64 (q : Int) by unfold I64; omega)
          clear hfq hwq
          go_wp2_with (
            at_builtin
            refine wpList_append_more (w0 := w2) (B := wo.heap.size) (xs := l.map D.int) (ys := [D.int (q:Int)]) rfl (.tmp 36) (.tmp 38) _ rfl _ Tryz.underlying35 Tryz.infoInt rfl (by decide) rfl HG.out ?hbw rfl (one_int _ hI.out _) ?hys ?hn ?hf ?hlen ?hba ?_
            case hbw => exact bel
            case hys => intro y hy; simp only [List.mem_singleton] at hy; rw [hy]; rfl
            case hn => simp
            case hf => simp
            case hlen => simp; omega
            case hba => exact hbz
            intro v4 w4 hG4 hg4)
          have HG4 := Lib.hid (show Grow w4 wo.heap.size 3 1 v4 ((chF (rdyB ds f) (q + 1)).map D.int) by rw [HS.out, List.map_append]; exact hG4)
          have S4 : Below wo.heap.size wo w4 := (S2.alloc S2.size _).trans (hg4.below (Nat.le_trans hbz (by simp)) (fun b hb => (HG.out.own_ge b hb).1))
          clear hG4 hg4
          go_wp2
          go_roundw
          case rel => exact ⟨q + 1, by omega, by go_num, HG4.out, S4⟩
          case measure => simp [intOf]; omega
set_option maxRecDepth 100000 in
set_option maxHeartbeats 4000000 in
theorem implGreedyOrder_c {w : World} {p : Pgm} {ch : List Int} {cs : List Value} {bs : List Nat} {A' : Option Addr} {n' c' : Nat} {bs' : List Nat} (h : Rep w p.d cs bs) (h' : Rep w (ints ch) [.slice A' n' c'] bs') :
    Calls Tryz.prog 26 #[.agg cs.toArray, .slice A' n' c'] w (MadeInts w (GreedyF p ch)) := by
  have HP := Lib.hid h
  have HC := Lib.hid h'; clear h'
  obtain ⟨A1, c1, A2, c2, d1, d2, rfl, rfl, g1, g2⟩ := Rep.pgm_iff.1 h
  have Garrays := Lib.hid g1
  have Gparts := Lib.hid g2
  clear h g1 g2
  have b0 : Below w.heap.size w (w.alloc (.cells #[.slice A1 p.arrays.length c1, .slice A2 p.parts.length c2] 31)) := bel
  have HP0 := Lib.hid (HP.out.below b0)
  have HL := Lib.hid (usP_len p)
  have HC0 := Lib.hid (HC.out.below b0)
  go_enter Tryz.func26, Tryz.ntmps26
  go_wp2_with fail
  refine wp_region_noPanic ?_
  refine wp_region_held_drew (S := fun w' => Box2 w' w.heap.size (.slice A1 p.arrays.length c1) (.slice A2 p.parts.length c2)) (by kernel_rfl) (⟨by go_simp, by go_simp⟩) (fun hHeld => ?_)
  refine goR 0 hHeld ?_
  refine goR 2 hHeld ?_
  refine goR 5 hHeld ?_
  refine stepR (i := 1) rfl (by kernel_rfl) (wanted_none rfl) (fun K hK => ?_)
  go_simp
  (refine (implDependences_c (HP0.out.drewN 1)).mono ?_; rintro e w1 ⟨A3, c3, bs3, rfl, r3, _, _, b1⟩; have a1 := of_drew b1)
  go_wp2_with fail
  refine hK.out _ _ (hHeld.to b1) (fun hHeld => ?_)
  clear hK K
  try simp only [Act.put, List.setIfInBounds_toArray, List.set_cons_zero, List.set_cons_succ]
  refine stepR (i := 3) rfl (by kernel_rfl) (wanted_none rfl) (fun K hK => ?_)
  go_simp
  (refine (implProgramInstances_c (HP0.out.below a1)).mono ?_; rintro e w2 ⟨A4, n4, c4, bs4, rfl, r4, _, _, b2⟩; obtain ⟨rfl, _, _⟩ := r4.sls_len; rw [← HL.out]; have r3b := r3.below b2)
  go_wp2_with fail
  refine hK.out _ _ (hHeld.to b2) (fun hHeld => ?_)
  clear hK K
  try simp only [Act.put, List.setIfInBounds_toArray, List.set_cons_zero, List.set_cons_succ]
  refine goR 4 hHeld ?_
  refine stepR (i := 6) rfl (by kernel_rfl) (wanted_none rfl) (fun K hK => ?_)
  go_simp
  (refine (greedy_c r3b (HC0.out.below (below_tr a1 b2)) (depP_ok p) rfl (usP_le p)).mono ?_; rintro e w3 ⟨A5, n5, c5, bs5, rfl, r5, nd5, hb5, b3⟩)
  go_wp2_with fail
  refine hK.out _ _ (hHeld.to b3) (fun hHeld => ?_)
  clear hK K
  try simp only [Act.put, List.setIfInBounds_toArray, List.set_cons_zero, List.set_cons_succ]
  refine goR 7 hHeld ?_
  refine wpAnyH_done (by kernel_rfl) ?_ _
  refine NoPanic.normal ?_
  go_wp2
  go_ret
  have S3 : Below w.heap.size w w3 := below_tr (below_tr (below_tr b0 a1) b2) b3
  have hz := (below_tr (below_tr b0 a1) b2).size
  exact ⟨A5, n5, c5, bs5, rfl, r5, nd5, fun b hb => Nat.le_trans hz (hb5 b hb), S3⟩
set_option maxRecDepth 100000 in
set_option maxHeartbeats 4000000 in
theorem l7Ready_c {w : World} {ds : List Dp} {us : List Us} {A : Option Addr} {n c g m : Nat} {bs : List Nat} {f : Nat → Bool} (h : Rep w (sls Dp.d ds) [.slice A n c] bs) (hd : ∀ d ∈ ds, DpOk us d) (hu : us.length = m) (hm : m ≤ 120) (hrow : w.rowIs g 4 m (fun k => .bool (f k))) :
    Calls Tryz.prog 55 #[.slice A n c, .slice (some ⟨g, 0, none⟩) m m] w (MadeInts w (rdyF ds f m)) := by
  obtain ⟨rfl, h1, h2⟩ := h.sls_len
  have hn : ds.length ≤ 9223372036854775807 := Nat.le_trans h1 h2
  have HD := Lib.hid h; clear h h1 h2
  have HDD := Lib.hid hd; clear hd
  have HU := Lib.hid hu; clear hu
  have HROW := Lib.hid hrow; clear hrow
  have hmk := fun W => run_make_row' (P := Tryz.prog) 69 4 (.bool false) 1 Tryz.underlying69 Tryz.infoBool rfl .i64 .i64 m (by omega) (by omega) W
  go_enter Tryz.func55, Tryz.ntmps55
  go_wp2
  clear hmk
  go_loopw [6] (fun i wr => ∃ j : Nat, j ≤ m ∧ i = .int .i64 j ∧ wr.rowIs w.heap.size 4 m (fun k => .bool (if k < j then !f k else false)) ∧ Below w.heap.size w wr) (fun i _ => m - (intOf i).toNat)
  case atStart => exact ⟨0, Nat.zero_le _, rfl, (World.rowIs_made _ _ _ _).congr (fun k hk => by simp), bel⟩
  case round =>
    obtain ⟨j, hj, rfl, hrow, hb⟩ := hrel
    have HR := Lib.hid hrow; clear hrow
    by_cases hlt : j < m
    case pos =>
      have hr1 := row_below HROW.out hb
      have hcj := hr1.cell hlt
      have hlg1 := hr1.lt
      have hck := HR.out.cell hlt
      have hfz := HR.out.frozen j
      have hlg := HR.out.lt
      have HR2 := Lib.hid ((HR.out.set j (.bool (!f j))).congr (g := fun k => .bool (if k < j + 1 then !f k else false)) (fun k _ => by
        by_cases e : k = j
        · subst e; rw [if_pos rfl, if_pos (by omega)]
        · rw [if_neg e]
          by_cases h : k < j
          · rw [if_pos h, if_pos (by omega)]
          · rw [if_neg h, if_neg (by omega)]))
      clear hr1
      go_wp2
      go_roundw
      case rel => exact ⟨j + 1, by omega, by go_num, HR2.out, bel⟩
      case measure => simp [intOf]; omega
    have hjj : j = m := by omega
    subst hjj
    have HR0 := Lib.hid (HR.out.congr (g := fun k => .bool (!f k && !waitsB (ds.take 0) f k)) (fun k hk => by rw [if_pos hk]; simp [waitsB]))
    clear HR
    go_wp2
    go_loopw [7] (fun i wv => ∃ q : Nat, q ≤ ds.length ∧ i = .int .i64 q ∧ wv.rowIs w.heap.size 4 j (fun k => .bool (!f k && !waitsB (ds.take q) f k)) ∧ Below w.heap.size w wv) (fun i _ => ds.length - (intOf i).toNat)
    case atStart => exact ⟨0, Nat.zero_le _, rfl, HR0.out, hb⟩
    case round =>
      clear HR0
      obtain ⟨q, hq, rfl, hrow, hb2⟩ := hrel
      have HR := Lib.hid hrow; clear hrow
      by_cases hqt : q < ds.length
      case neg =>
        have hqq : q = ds.length := by omega
        subst hqq
        have HRF := Lib.hid (HR.out.congr (g := fun k => .bool (rdyB ds f k)) (fun k _ => by rw [List.take_length]; rfl))
        go_wp2_with fail
        refine (l5Flagged_c HRF.out (by omega)).mono ?_
        rintro e w4 h3
        obtain ⟨A4, n4, c4, bs4, rfl, h4⟩ := h3.low hb2
        go_wp2
        go_ret
        exact ⟨A4, n4, c4, bs4, rfl, h4⟩
      have hmem := List.getElem_mem hqt
      obtain ⟨a, b, hfa, htb, hab, hbl⟩ := (HDD.out _ hmem).nat
      rw [HU.out] at hbl
      have HWS := Lib.hid (fun k => waits_snoc (f := f) hqt hfa htb k)
      obtain ⟨be, oe, cse, le, rfl, hble, hre, _, _, hce⟩ := (HD.out.below hb2).sls_at Dp.d_size (k := q) hqt
      have Ge := Lib.hid hre
      obtain ⟨rfl, rfl, g1e, g2e, g3e⟩ := Rep.dp_iff.1 hre
      have k0e := (hce 0 _ rfl).1; rw [Nat.add_zero] at k0e
      have k1e := (hce 1 _ rfl).1
      have k2e := (hce 2 _ rfl).1
      have Q1e := Lib.hid g1e
      have Q2e := Lib.hid g2e
      have Q3e := Lib.hid g3e
      clear hce hre g1e g2e g3e
      rw [hfa] at k0e
      rw [htb] at k1e
      have hr1 := row_below HROW.out hb2
      have hca := hr1.cell (show a < j by omega)
      have hlg1 := hr1.lt
      have hck := HR.out.cell hbl
      have hfz := HR.out.frozen b
      have hlg := HR.out.lt
      clear hr1 hmem hfa htb
      cases hf : f a with
      | true =>
        rw [hf] at hca
        have HR2 := Lib.hid (HR.out.congr (g := fun k => .bool (!f k && !waitsB (ds.take (q + 1)) f k)) (fun k _ => by rw [HWS.out k, if_neg (by rw [hf]; simp)]))
        clear hf
        go_wp2
        go_roundw
        case rel => exact ⟨q + 1, by omega, by go_num, HR2.out, hb2⟩
        case measure => simp [intOf]; omega
      | false =>
        rw [hf] at hca
        have HR2 := Lib.hid ((HR.out.set b (.bool false)).congr (g := fun k => .bool (!f k && !waitsB (ds.take (q + 1)) f k)) (fun k _ => by
          rw [HWS.out k]
          by_cases e : k = b
          · rw [if_pos e, if_pos ⟨e, hf⟩]; simp
          · rw [if_neg e, if_neg (fun h => e h.1)]))
        clear hf
        go_wp2
        go_roundw
        case rel => exact ⟨q + 1, by omega, by go_num, HR2.out, bel⟩
        case measure => simp [intOf]; omega
set_option maxRecDepth 100000 in
set_option maxHeartbeats 8000000 in
theorem specGreedyOrder_c {w : World} {p : Pgm} {ch : List Int} {cs : List Value} {bs : List Nat} {A' : Option Addr} {n' c' : Nat} {bs' : List Nat} (h : Rep w p.d cs bs) (h' : Rep w (ints ch) [.slice A' n' c'] bs') :
    Calls Tryz.prog 24 #[.agg cs.toArray, .slice A' n' c'] w (MadeInts w (GreedyF p ch)) := by
  have HP := Lib.hid h
  have HC := Lib.hid h'; clear h'
  obtain ⟨A1, c1, A2, c2, d1, d2, rfl, rfl, g1, g2⟩ := Rep.pgm_iff.1 h
  have Garrays := Lib.hid g1
  have Gparts := Lib.hid g2
  clear h g1 g2
  go_enter Tryz.func24, Tryz.ntmps24
  go_wp2_with fail
  refine (specProgramValid_c (HP.out.below bel)).mono ?_
  rintro e w1 ⟨rfl, b1⟩
  have P1 : Box2 w1 w.heap.size (.slice A1 p.arrays.length c1) (.slice A2 p.parts.length c2) := by
    refine ⟨?_, ?_⟩ <;> (rw [b1.cell (by simp [World.setCell]; try omega)]; go_simp)
  have S1 : Below w.heap.size w w1 := bel
  obtain ⟨U0, hU0⟩ : ∃ U0, U0 = Value.slice (some ⟨w.heap.size + 1, 0, none⟩) 0 0 := ⟨_, rfl⟩
  have HU1 := Lib.hid (show Grow w1 (w.heap.size + 1) 3 1 U0 (([] : List Int).map D.int) by rw [hU0]; exact Grow.below (Grow.madeE _ _ (by simp) (by simp)) b1)
  have HU := Lib.hid (show ∀ y, U0.ownBlock = some y → y = w.heap.size + 1 from fun y hy => by rw [hU0] at hy; simp [Value.ownBlock] at hy; omega)
  have hw1 : w.heap.size + 2 ≤ w1.heap.size := by have := b1.size; simp at this; omega
  have HU0 := Lib.hid hU0; clear hU0 b1
  cases hv : progOk p with
  | false =>
    have HE := Lib.hid (GreedyF_n ch hv); clear hv
    obtain ⟨A6, c6, bs6, he, h1, h2, h3, _⟩ := HU1.out.ints
    have H1 := Lib.hid h1; clear h1
    go_wp2
    go_ret
    rw [HE.out]
    refine ⟨A6, _, c6, bs6, ?_, H1.out, h2, fun y hy => by have := h3 y hy; omega, S1⟩
    rw [← he, HU0.out]; rfl
  | true =>
    have HLN := Lib.hid ((usP_len p).trans (congrArg List.length (instP_y hv)))
    have hu := usP_le p
    obtain ⟨m, hm⟩ : ∃ m, m = (usP p).length := ⟨_, rfl⟩
    have HM := Lib.hid hm
    rw [← hm] at hu
    have HDD := Lib.hid (depP_ok p)
    have HDP := Lib.hid (depP_y hv)
    obtain ⟨ds, hds⟩ : ∃ ds, ds = depP p := ⟨_, rfl⟩
    have HDS := Lib.hid hds
    have HE := Lib.hid (show GreedyF p ch = grL ds ch m m by rw [hm, hds]; rfl)
    rw [← hds] at HDD
    have HV := Lib.hid hv; clear hv hm hds
    have hmk := fun W => run_make_row' (P := Tryz.prog) 69 4 (.bool false) 1 Tryz.underlying69 Tryz.infoBool rfl .i64 .i64 m (by omega) (by omega) W
    go_wp2_with fail
    refine (l6Deps_c (HP.out.below bel) HV.out).mono ?_
    rintro e w2 ⟨A3, c3, bs3, rfl, r2, nd2, hb23, b2⟩
    have s2 : Below w1.heap.size w1 w2 := bel
    have P2 := P1.to s2; clear P1
    have S2 : Below w.heap.size w w2 := below_tr S1 s2
    clear s2
    rw [← HDP.out, ← HDS.out] at r2 ⊢
    have HB3 := Lib.hid (show ∀ y ∈ bs3, w1.heap.size ≤ y ∧ y < w2.heap.size from fun y hy => ⟨hb23 y hy, Rep.lt _ r2 y hy⟩)
    have R2 := Lib.hid r2; clear r2 hb23 nd2
    have HU2 := Lib.hid (HU1.out.below b2)
    have hw2 : w.heap.size + 2 ≤ w2.heap.size := by have := b2.size; omega
    clear b2 HU1
    go_wp2_with fail
    refine (l4Instances_c (HP.out.below bel) HV.out).mono ?_
    rintro e w3 ⟨A4, n4, c4, bs4, rfl, r3, _, _, b3⟩
    have s3 : Below w2.heap.size w2 w3 := bel
    have P3 := P2.to s3; clear P2
    have S3 : Below w.heap.size w w3 := below_tr S2 s3
    clear s3
    obtain ⟨rfl, _, _⟩ := r3.sls_len
    rw [← HLN.out, ← HM.out]
    have R3 := Lib.hid (R2.out.below b3)
    have HU3 := Lib.hid (HU2.out.below b3)
    have hw3 : w.heap.size + 2 ≤ w3.heap.size := by have := b3.size; omega
    have HAP := Lib.hid (show ∀ y ∈ w3.heap.size :: bs3, U0.ownBlock ≠ some y from fun y hy e => by
      have h1 := HU.out y e
      rcases List.mem_cons.1 hy with rfl | hy
      · omega
      · have := (HB3.out y hy).1; omega)
    have HN3 := Lib.hid (show w3.heap.size ∉ bs3 from fun hy => by have := Rep.lt _ R3.out _ hy; omega)
    clear b3 r3 HU2 R2 hw2 hw1 P3
    go_wp2
    clear hmk
    go_loopw [5, 8] (fun u i wr => ∃ j : Nat, j ≤ m ∧ i = .int .i64 j ∧ Grow wr (w.heap.size + 1) 3 1 u ((grL ds ch m j).map D.int) ∧ wr.rowIs w3.heap.size 4 m (fun k => .bool (grD ds ch m j k)) ∧ Rep wr (sls Dp.d ds) [.slice A3 ds.length c3] bs3 ∧ (∀ y ∈ w3.heap.size :: bs3, u.ownBlock ≠ some y) ∧ Below w.heap.size w wr) (fun _ i _ => m - (intOf i).toNat)
    case atStart => exact ⟨0, Nat.zero_le _, rfl, by rw [← HU0.out]; exact HU3.out.below bel, World.rowIs_made _ _ _ _, R3.out.below bel, by rw [← HU0.out]; exact HAP.out, bel⟩
    case round =>
      obtain ⟨j, hj, rfl, hG, hrow, hr, hap, hb⟩ := hrel
      have HG0 := Lib.hid hG; clear hG
      have HROW := Lib.hid hrow; clear hrow
      have HRD := Lib.hid hr; clear hr
      have HA := Lib.hid hap; clear hap
      obtain ⟨Au, cu, hfu, _, _⟩ := HG0.out.form
      rw [List.length_map, grL_len] at hfu
      subst hfu
      by_cases hlt : j < m
      case neg =>
        have hjj : j = m := by omega
        subst hjj
        obtain ⟨A6, c6, bs6, he, h1, h2, h3, _⟩ := HG0.out.ints
        have HEE := Lib.hid he
        have H1 := Lib.hid h1
        clear he h1
        go_wp2
        go_ret
        rw [HE.out]
        exact ⟨A6, _, c6, bs6, congrArg Ending.returned HEE.out, H1.out, h2, fun y hy => by have := h3 y hy; omega, hb⟩
      obtain ⟨f, hf⟩ : ∃ f, f = grD ds ch m j := ⟨_, rfl⟩
      have HF := Lib.hid hf
      rw [← hf] at HROW
      clear hf
      have hf0 : ∀ q, grD ds ch m (j + 1) q = setB f (pickG ds ch m j f).toNat q := fun q => by rw [HF.out]; rfl
      have HGD := Lib.hid hf0; clear hf0
      have HGL := Lib.hid (show grL ds ch m (j + 1) = grL ds ch m j ++ [pickG ds ch m j f] by rw [HF.out]; rfl)
      have hcnt := grD_cnt (ch := ch) (n := m) HDD.out j (by omega)
      obtain ⟨hpos, k, hkm, hfk, hpk⟩ := pickG_ok (ch := ch) (m := j) (f := f) (n := m) HDD.out (by rw [HF.out, hcnt]; exact hlt)
      have hle := chF_len (rdyB ds f) m
      go_wp2_with fail
      refine (l7Ready_c HRD.out HDD.out HM.out.symm hu HROW.out).mono ?_
      rintro e wy ⟨A6, n6, c6, bs6, rfl, r6, _, _, bY⟩
      obtain ⟨l, hl⟩ : ∃ l, l = rdyF ds f m := ⟨_, rfl⟩
      rw [show pickG ds ch m j f = gi l (choiceF ch j l.length).toNat by rw [hl]; rfl] at hpk
      rw [show chF (rdyB ds f) m = l from hl.symm] at hle
      rw [← hl] at hpos r6
      have HPK := Lib.hid (show pickG ds ch m j f = (k : Int) by rw [← hpk, hl]; rfl)
      clear hl hcnt
      obtain ⟨rfl, _, _⟩ := r6.ints_len
      have hcb := choiceF_bd ch j hpos
      obtain ⟨ix, hix⟩ := Int.eq_ofNat_of_zero_le hcb.1
      have hil : ix < l.length := by omega
      rw [hix, Int.toNat_natCast] at hpk
      have HIX := Lib.hid hix
      clear hix hcb
      obtain ⟨b6, o6, hA6, _, hl6, hc6, _⟩ := r6.ints_at hil
      subst hA6
      rw [hpk] at hc6
      clear hpk r6
      have HRQ := Lib.hid (row_below HROW.out bY)
      have hck := HRQ.out.cell hkm
      have hfz := HRQ.out.frozen k
      have hlg := HRQ.out.lt
      have hI := Lib.hid (show I64 (k : Int) by unfold I64; omega)
      have hS := below_tr hb bY
      have HRD4 := Lib.hid (HRD.out.below bY)
      have HR3 := Lib.hid ((HRQ.out.set k (.bool true)).congr (g := fun x => .bool (grD ds ch m (j + 1) x)) (fun x _ => by rw [HGD.out, HPK.out]; unfold setB; rw [Int.toNat_natCast]; by_cases e : x = k <;> simp [e]))
      have HRD5 := Lib.hid (Rep.keep _ HRD4.out ((Keeps.refl wy bs3).setCell (p := ⟨w3.heap.size, k, none⟩) HN3.out (.bool true)))
      have HGN := Lib.hid (HG0.out.below bY)
      have HG := Lib.hid (HGN.out.set_apart (p := ⟨w3.heap.size, k, none⟩) (HA.out _ (by simp)) (.bool true))
      have HGL2 := Lib.hid (HGL.out.trans (by rw [HPK.out]))
      obtain ⟨lo, hlo⟩ : ∃ lo, lo = grL ds ch m j := ⟨_, rfl⟩
      have hll : lo.length = j := by rw [hlo, grL_len]
      rw [← hlo] at HG HGL2
      clear hlo HG0 HGL HGN HRD HRD4
      have hz4 := hS.size
      have hbz : w.heap.size + 1 ≤ (wy.setCell ⟨w3.heap.size, k, none⟩ (.bool true)).heap.size := by simp [World.setCell]; omega
      have hS3 := S3.size
      go_wp2_with fail
      refine (l7Choice_c (HC.out.below hS) (by omega) hpos (by omega)).mono ?_
      rintro e w' ⟨rfl, rfl⟩
      rw [HIX.out]
      go_wp2_with (
        at_builtin
        refine wpList_append_more (w0 := (wy.setCell ⟨w3.heap.size, k, none⟩ (.bool true))) (B := (w.heap.size+1)) (xs := lo.map D.int) (ys := [D.int (k:Int)]) rfl (.tmp 42) (.tmp 44) _ rfl _ Tryz.underlying35 Tryz.infoInt rfl (by decide) rfl HG.out ?hbw rfl (one_newN (N := wy.heap.size) (show Rep (wy.setCell ⟨w3.heap.size, k, none⟩ (.bool true)) (D.int (k:Int)) [.int .i64 (k:Int)] [] from ⟨rfl, rfl, hI.out⟩) _ (by simp [World.setCell])) ?hys ?hn ?hf ?hlen ?hba ?_
        case hbw => exact bel
        case hys => intro y hy; simp only [List.mem_singleton] at hy; rw [hy]; rfl
        case hn => simp
        case hf => simp
        case hlen => simp; omega
        case hba => exact hbz
        intro v4 w4 hG4 hg4)
      have hown := Lib.hid (fun b hb => (HG.out.own_ge b hb).1)
      have HG4 := Lib.hid (show Grow w4 (w.heap.size + 1) 3 1 v4 ((grL ds ch m (j + 1)).map D.int) by rw [HGL2.out, List.map_append]; exact hG4)
      have HR4 := Lib.hid ((HR3.out.alloc (.cells #[.int .i64 (k : Int)] 3)).of_block (hg4.touch.block w3.heap.size (by simp [World.setCell]; omega) (fun hm => HA.out w3.heap.size (by simp) (mem_ownL.1 hm))))
      have HRD6 := Lib.hid ((HRD5.out.below (w' := (wy.setCell ⟨w3.heap.size, k, none⟩ (.bool true)).alloc (.cells #[.int .i64 (k : Int)] 3)) bel).grew hg4 (fun y hy => HA.out y (List.mem_cons_of_mem _ hy)))
      have HA6 := Lib.hid (hg4.apart HA.out (fun y hy => by
        rcases List.mem_cons.1 hy with rfl | hy
        · simp [World.setCell]; omega
        · have := Rep.lt _ HRD5.out y hy; simp [World.setCell] at this ⊢; omega))
      have S4 : Below w.heap.size w w4 := ((hS.setCell (p := ⟨w3.heap.size, k, none⟩) (by simp; omega) (.bool true)).alloc (by simp [World.setCell]; omega) _).trans (hg4.below (by simp [World.setCell]; omega) (fun b hb => by have := hown.out b hb; omega))
      clear hG4 hg4
      go_wp2
      go_roundw
      case rel => exact ⟨j + 1, by omega, by go_num, HG4.out, HR4.out, HRD6.out, HA6.out, S4⟩
      case measure => simp [intOf]; omega
end Go.Proofs.YtimocdpfnncnlaaGreat

/- The law FnExactGreedyOrder: its walk. Printed by lawgen.py. -/
namespace Go.Proofs.YtimocdpfnncnlaaGreat
open Go.ChangeShapes Go.WideShapes Go.ChangeAt Go.RowKit Go.Deep

set_option maxRecDepth 100000 in
set_option maxHeartbeats 2000000 in
theorem FnExactGreedyOrder_walk {w : World} {x0 : Pgm} {A1_0 : Option Addr} {c1_0 : Nat} {A2_0 : Option Addr} {c2_0 : Nat} {bs0 : List Nat} {x1 : List Int} {A1 : Option Addr} {n1 : Nat} {c1 : Nat} {bs1 : List Nat} (h0 : Rep w x0.d [.slice A1_0 x0.arrays.length c1_0, .slice A2_0 x0.parts.length c2_0] bs0) (h1 : Rep w (ints x1) [.slice A1 n1 c1] bs1) :
    Calls Tryz.prog 7 #[.agg #[.slice A1_0 x0.arrays.length c1_0, .slice A2_0 x0.parts.length c2_0], .slice A1 n1 c1] w fun e w' => e = .returned (.bool true) ∧ Below w.heap.size w w' := by
  have H0 := Lib.hid h0; clear h0
  have hm1 : n1 ≤ 9223372036854775807 := Nat.le_trans h1.ints_len.2.1 h1.ints_len.2.2
  have H1 := Lib.hid h1; clear h1
  have hnl1 := H1.out.ints_len.1
  have HNL1 := Lib.hid hnl1; clear hnl1
  by_cases hbig1 : 1048576 < n1
  · skip
    go_enter Tryz.func7, Tryz.ntmps7
    go_wp2
    go_ret
    exact ⟨rfl, bel⟩
  · have HN1 := Lib.hid (show x1.length ≤ 1048576 by have := HNL1.out; omega)
    by_cases hs0 : (1048576 : Int) - ((szD x0.d : Nat) : Int) < 0
    · have HS0 := Lib.hid (szR_neg hs0)
      go_enter Tryz.func7, Tryz.ntmps7
      go_wp2_with fail
      refine (szProgram_t (H0.out.below bel) (by omega) (by omega)).mono ?_
      rintro e v1 ⟨rfl, bv1⟩
      rw [HS0.out]
      go_wp2
      go_ret
      exact ⟨rfl, bel⟩
    · have HS0 := Lib.hid (szR_pos (left := 1048576) (tot := szD x0.d) (by omega))
      have HN0 := Lib.hid (show szD x0.d ≤ 1048576 by omega)
      have hl0 : 0 ≤ (1048576 : Int) - ((szD x0.d : Nat) : Int) := by omega
      clear hs0
      have HL := Lib.hid (GreedyF_len x0 x1)
      go_enter Tryz.func7, Tryz.ntmps7
      have TA0 := Lib.hid (Rep.lt _ H0.out)
      have TA1 := Lib.hid (Rep.lt _ H1.out)
      go_wp2_with fail
      refine (szProgram_t (H0.out.below bel) (by omega) (by omega)).mono ?_
      rintro e w1 ⟨rfl, b1⟩
      rw [HS0.out]
      have P0_1n := (Box2.new w _ _ _).to b1
      have s1 : Below w.heap.size w w1 := bel
      have RA0_1 := Lib.hid (H0.out.below s1); clear H0
      have RA1_1 := Lib.hid (H1.out.below s1); clear H1
      have S1 : Below w.heap.size w w1 := s1
      have Z1 := Lib.hid (s1.size)
      have LP0 := Lib.hid (lt_of_cell P0_1n.1)
      go_wp2_with fail
      refine (toProgram_m (RA0_1.out.below bel) HN0.out).mono ?_
      rintro e w2 ⟨A1_2, c1_2, A2_2, c2_2, bs2, rfl, r2, nd2, hb2, b2⟩
      have Tc0 := Lib.hid (show ∀ y ∈ bs2, w1.heap.size + 0 ≤ y ∧ y < w2.heap.size from fun y hy => ⟨by have := hb2 y hy; (try simp at this); omega, Rep.lt _ r2 y hy⟩)
      have P0_2 := P0_1n.to b2; clear P0_1n
      have RA0_2 := Lib.hid (RA0_1.out.below b2); clear RA0_1
      have RA1_2 := Lib.hid (RA1_1.out.below b2); clear RA1_1
      have S2 : Below w.heap.size w w2 := below_tr S1 b2
      have Z2 := Lib.hid (b2.size)
      have r2h := Lib.hid r2; clear r2 hb2
      clear nd2
      go_wp2_with fail
      refine (toIntS_m (RA1_2.out.below bel) HN1.out).mono ?_
      rintro e w3 ⟨A3, n3, c3, bs3, rfl, r3, nd3, hb3, b3⟩
      have Tc1 := Lib.hid (show ∀ y ∈ bs3, w2.heap.size + 0 ≤ y ∧ y < w3.heap.size from fun y hy => ⟨by have := hb3 y hy; (try simp at this); omega, Rep.lt _ r3 y hy⟩)
      have P0_3 := P0_2.to b3; clear P0_2
      have RA0_3 := Lib.hid (RA0_2.out.below b3); clear RA0_2
      have RA1_3 := Lib.hid (RA1_2.out.below b3); clear RA1_2
      have Rc0_3 := Lib.hid (r2h.out.below b3); clear r2h
      have S3 : Below w.heap.size w w3 := below_tr S2 b3
      have Z3 := Lib.hid (b3.size)
      have r3h := Lib.hid r3; clear r3 hb3
      clear nd3
      go_wp2_with fail
      refine (specGreedyOrder_c (Rc0_3.out.below bel) (r3h.out.below bel)).mono ?_
      rintro e w4 ⟨A4, n4, c4, bs4, rfl, r4, nd4, hb4, b4⟩
      have Tw0 := Lib.hid (show ∀ y ∈ bs4, y < w4.heap.size from Rep.lt _ r4)
      have P0_4 := P0_3.to b4; clear P0_3
      have RA0_4 := Lib.hid (RA0_3.out.below b4); clear RA0_3
      have RA1_4 := Lib.hid (RA1_3.out.below b4); clear RA1_3
      have Rc0_4 := Lib.hid (Rc0_3.out.below b4); clear Rc0_3
      have Rc1_4 := Lib.hid (r3h.out.below b4); clear r3h
      have S4 : Below w.heap.size w w4 := below_tr S3 b4
      have Z4 := Lib.hid (b4.size)
      have r4h := Lib.hid r4; clear r4 hb4 nd4
      go_wp2_with fail
      refine (toProgram_m (RA0_4.out.below bel) HN0.out).mono ?_
      rintro e w5 ⟨A1_5, c1_5, A2_5, c2_5, bs5, rfl, r5, nd5, hb5, b5⟩
      have Tx0 := Lib.hid (show ∀ y ∈ bs5, w4.heap.size + 0 ≤ y ∧ y < w5.heap.size from fun y hy => ⟨by have := hb5 y hy; (try simp at this); omega, Rep.lt _ r5 y hy⟩)
      have P0_5 := P0_4.to b5; clear P0_4
      have RA0_5 := Lib.hid (RA0_4.out.below b5); clear RA0_4
      have RA1_5 := Lib.hid (RA1_4.out.below b5); clear RA1_4
      have Rw0_5 := Lib.hid (r4h.out.below b5); clear r4h
      have S5 : Below w.heap.size w w5 := below_tr S4 b5
      have Z5 := Lib.hid (b5.size)
      have r5h := Lib.hid r5; clear r5 hb5
      have ltP0_5 := lt_of_cell P0_5.1
      go_wp2_with fail
      refine (toIntS_m (RA1_5.out.below bel) HN1.out).mono ?_
      rintro e w6 ⟨A6, n6, c6, bs6, rfl, r6, nd6, hb6, b6⟩
      have Tx1 := Lib.hid (show ∀ y ∈ bs6, w5.heap.size + 1 ≤ y ∧ y < w6.heap.size from fun y hy => ⟨by have := hb6 y hy; (try simp at this); omega, Rep.lt _ r6 y hy⟩)
      have X0_6n := (Box2.new w5 _ _ _).to b6
      have s6 : Below w5.heap.size w5 w6 := bel
      have P0_6 := P0_5.to s6; clear P0_5
      have RA0_6 := Lib.hid (RA0_5.out.below s6); clear RA0_5
      have RA1_6 := Lib.hid (RA1_5.out.below s6); clear RA1_5
      have Rw0_6 := Lib.hid (Rw0_5.out.below s6); clear Rw0_5
      have Rx0_6 := Lib.hid (r5h.out.below s6); clear r5h
      have S6 : Below w.heap.size w w6 := below_tr S5 s6
      have Z6 := Lib.hid (s6.size)
      have LX0 := Lib.hid (lt_of_cell X0_6n.1)
      have r6h := Lib.hid r6; clear r6 hb6
      go_wp2_with fail
      refine (implGreedyOrder_c (Rx0_6.out.below bel) (r6h.out.below bel)).mono ?_
      rintro e w7 ⟨A7, n7, c7, bs7, rfl, r7, nd7, hb7, b7⟩
      have Tg0 := Lib.hid (show ∀ y ∈ bs7, w6.heap.size + 0 ≤ y ∧ y < w7.heap.size from fun y hy => ⟨by have := hb7 y hy; (try simp at this); omega, Rep.lt _ r7 y hy⟩)
      have P0_7 := P0_6.to b7; clear P0_6
      have X0_7 := X0_6n.to b7; clear X0_6n
      have RA0_7 := Lib.hid (RA0_6.out.below b7); clear RA0_6
      have RA1_7 := Lib.hid (RA1_6.out.below b7); clear RA1_6
      have Rw0_7 := Lib.hid (Rw0_6.out.below b7); clear Rw0_6
      have Rx0_7 := Lib.hid (Rx0_6.out.below b7); clear Rx0_6
      have Rx1_7 := Lib.hid (r6h.out.below b7); clear r6h
      have S7 : Below w.heap.size w w7 := below_tr S6 b7
      have Z7 := Lib.hid (b7.size)
      have r7h := Lib.hid r7; clear r7 hb7
      go_wp2_with fail
      refine (eqIntS_b (r7h.out.below bel) (Rw0_7.out.below bel)).mono ?_
      rintro e w8 ⟨rfl, b8⟩
      have P0_8 := P0_7.to b8; clear P0_7
      have X0_8 := X0_7.to b8; clear X0_7
      have RA0_8 := Lib.hid (RA0_7.out.below b8); clear RA0_7
      have RA1_8 := Lib.hid (RA1_7.out.below b8); clear RA1_7
      have Rw0_8 := Lib.hid (Rw0_7.out.below b8); clear Rw0_7
      have Rx0_8 := Lib.hid (Rx0_7.out.below b8); clear Rx0_7
      have Rx1_8 := Lib.hid (Rx1_7.out.below b8); clear Rx1_7
      have Rg0_8 := Lib.hid (r7h.out.below b8); clear r7h
      have S8 : Below w.heap.size w w8 := below_tr S7 b8
      have Z8 := Lib.hid (b8.size)
      go_wp2_with fail
      go_region_held3 (fun w' => Box2 w' w.heap.size (.slice A1_0 x0.arrays.length c1_0) (.slice A2_0 x0.parts.length c2_0) ∧ Box2 w' w5.heap.size (.slice A1_5 x0.arrays.length c1_5) (.slice A2_5 x0.parts.length c2_5)) (first | exact ⟨P0_8, X0_8⟩ | exact ⟨P0_8.to (of_drew b9), X0_8.to (of_drew b9)⟩ | exact ⟨(P0_8.to (of_drew b9)).to b10, (X0_8.to (of_drew b9)).to b10⟩ | skip)
        (first | (go_at_call 11; refine (toProgram_m (RA0_8.out.below (Below.refl _ _).drew) HN0.out).mono ?_; rintro e w9 ⟨A1_9, c1_9, A2_9, c2_9, bs9, rfl, r9, nd9, hb9, b9⟩) | (go_at_call 13; refine (eqProgram_c (Rx0_8.out.below (of_drew b9)) r9).mono ?_; rintro e w10 ⟨rfl, b10⟩))
      have t10 : Below w8.heap.size w8 w10 := below_tr (of_drew b9) b10
      clear b9 b10 r9 hb9 nd9
      have P0_10 := P0_8.to t10; clear P0_8
      have X0_10 := X0_8.to t10; clear X0_8
      have RA0_10 := Lib.hid (RA0_8.out.below t10); clear RA0_8
      have RA1_10 := Lib.hid (RA1_8.out.below t10); clear RA1_8
      have Rw0_10 := Lib.hid (Rw0_8.out.below t10); clear Rw0_8
      have Rx0_10 := Lib.hid (Rx0_8.out.below t10); clear Rx0_8
      have Rx1_10 := Lib.hid (Rx1_8.out.below t10); clear Rx1_8
      have Rg0_10 := Lib.hid (Rg0_8.out.below t10); clear Rg0_8
      have S10 : Below w.heap.size w w10 := below_tr S8 t10
      have Z10 := Lib.hid (t10.size)
      go_wp2_with fail
      refine (toIntS_m (RA1_10.out.below bel) HN1.out).mono ?_
      rintro e w11 ⟨A11, n11, c11, bs11, rfl, r11, nd11, hb11, b11⟩
      have Ty1 := Lib.hid (show ∀ y ∈ bs11, w10.heap.size + 0 ≤ y ∧ y < w11.heap.size from fun y hy => ⟨by have := hb11 y hy; (try simp at this); omega, Rep.lt _ r11 y hy⟩)
      have P0_11 := P0_10.to b11; clear P0_10
      have X0_11 := X0_10.to b11; clear X0_10
      have RA0_11 := Lib.hid (RA0_10.out.below b11); clear RA0_10
      have RA1_11 := Lib.hid (RA1_10.out.below b11); clear RA1_10
      have Rw0_11 := Lib.hid (Rw0_10.out.below b11); clear Rw0_10
      have Rx0_11 := Lib.hid (Rx0_10.out.below b11); clear Rx0_10
      have Rx1_11 := Lib.hid (Rx1_10.out.below b11); clear Rx1_10
      have Rg0_11 := Lib.hid (Rg0_10.out.below b11); clear Rg0_10
      have S11 : Below w.heap.size w w11 := below_tr S10 b11
      have Z11 := Lib.hid (b11.size)
      have r11h := Lib.hid r11; clear r11 hb11
      go_wp2_with fail
      refine (eqIntS_b (Rx1_11.out.below bel) (r11h.out.below bel)).mono ?_
      rintro e w12 ⟨rfl, b12⟩
      have P0_12 := P0_11.to b12; clear P0_11
      have X0_12 := X0_11.to b12; clear X0_11
      have RA0_12 := Lib.hid (RA0_11.out.below b12); clear RA0_11
      have RA1_12 := Lib.hid (RA1_11.out.below b12); clear RA1_11
      have Rw0_12 := Lib.hid (Rw0_11.out.below b12); clear Rw0_11
      have Rx0_12 := Lib.hid (Rx0_11.out.below b12); clear Rx0_11
      have Rx1_12 := Lib.hid (Rx1_11.out.below b12); clear Rx1_11
      have Rg0_12 := Lib.hid (Rg0_11.out.below b12); clear Rg0_11
      have Ry1_12 := Lib.hid (r11h.out.below b12); clear r11h
      have S12 : Below w.heap.size w w12 := below_tr S11 b12
      have Z12 := Lib.hid (b12.size)
      have hcnt : (GreedyF x0 x1).length ≤ 1000000 := HL.out
      have hn0c : Pgm.cntM x0 ≤ 10000000 := by have := HN0.out; have := Pgm.cntM_le x0; omega
      go_wp2_with fail
      refine (markProgram_n Rx0_12.out nd5 (q := 1) (by omega) (by omega)).mono ?_
      rintro e w13 ⟨rfl, r13, t13⟩
      have m13h := Lib.hid r13; clear r13
      have P0_13 := t13.box2 P0_12 (fun hm => by have h1 := Tx0.out _ hm; have q0 := Z1.out; have q1 := LP0.out; have q2 := Z2.out; have q3 := Z3.out; have q4 := Z4.out; have q5 := Z5.out; have q6 := Z6.out; have q7 := LX0.out; have q8 := Z7.out; have q9 := Z8.out; have q10 := Z10.out; have q11 := Z11.out; have q12 := Z12.out; omega); clear P0_12
      have X0_13 := t13.box2 X0_12 (fun hm => by have h1 := Tx0.out _ hm; have q0 := Z1.out; have q1 := LP0.out; have q2 := Z2.out; have q3 := Z3.out; have q4 := Z4.out; have q5 := Z5.out; have q6 := Z6.out; have q7 := LX0.out; have q8 := Z7.out; have q9 := Z8.out; have q10 := Z10.out; have q11 := Z11.out; have q12 := Z12.out; omega); clear X0_12
      have RA0_13 := Lib.hid (Rep.keep _ RA0_12.out (t13.keeps fun y hy => ⟨Rep.lt _ RA0_12.out y hy, fun hm => by have h1 := Tx0.out y hm; have h2 := TA0.out y hy; have q0 := Z1.out; have q1 := LP0.out; have q2 := Z2.out; have q3 := Z3.out; have q4 := Z4.out; have q5 := Z5.out; have q6 := Z6.out; have q7 := LX0.out; have q8 := Z7.out; have q9 := Z8.out; have q10 := Z10.out; have q11 := Z11.out; have q12 := Z12.out; omega⟩)); clear RA0_12
      have RA1_13 := Lib.hid (Rep.keep _ RA1_12.out (t13.keeps fun y hy => ⟨Rep.lt _ RA1_12.out y hy, fun hm => by have h1 := Tx0.out y hm; have h2 := TA1.out y hy; have q0 := Z1.out; have q1 := LP0.out; have q2 := Z2.out; have q3 := Z3.out; have q4 := Z4.out; have q5 := Z5.out; have q6 := Z6.out; have q7 := LX0.out; have q8 := Z7.out; have q9 := Z8.out; have q10 := Z10.out; have q11 := Z11.out; have q12 := Z12.out; omega⟩)); clear RA1_12
      have Rw0_13 := Lib.hid (Rep.keep _ Rw0_12.out (t13.keeps fun y hy => ⟨Rep.lt _ Rw0_12.out y hy, fun hm => by have h1 := Tx0.out y hm; have h2 := Tw0.out y hy; have q0 := Z1.out; have q1 := LP0.out; have q2 := Z2.out; have q3 := Z3.out; have q4 := Z4.out; have q5 := Z5.out; have q6 := Z6.out; have q7 := LX0.out; have q8 := Z7.out; have q9 := Z8.out; have q10 := Z10.out; have q11 := Z11.out; have q12 := Z12.out; omega⟩)); clear Rw0_12
      have Rx1_13 := Lib.hid (Rep.keep _ Rx1_12.out (t13.keeps fun y hy => ⟨Rep.lt _ Rx1_12.out y hy, fun hm => by have h1 := Tx0.out y hm; have h2 := Tx1.out y hy; have q0 := Z1.out; have q1 := LP0.out; have q2 := Z2.out; have q3 := Z3.out; have q4 := Z4.out; have q5 := Z5.out; have q6 := Z6.out; have q7 := LX0.out; have q8 := Z7.out; have q9 := Z8.out; have q10 := Z10.out; have q11 := Z11.out; have q12 := Z12.out; omega⟩)); clear Rx1_12
      have Rg0_13 := Lib.hid (Rep.keep _ Rg0_12.out (t13.keeps fun y hy => ⟨Rep.lt _ Rg0_12.out y hy, fun hm => by have h1 := Tx0.out y hm; have h2 := Tg0.out y hy; have q0 := Z1.out; have q1 := LP0.out; have q2 := Z2.out; have q3 := Z3.out; have q4 := Z4.out; have q5 := Z5.out; have q6 := Z6.out; have q7 := LX0.out; have q8 := Z7.out; have q9 := Z8.out; have q10 := Z10.out; have q11 := Z11.out; have q12 := Z12.out; omega⟩)); clear Rg0_12
      have S13 : Below w.heap.size w w13 := S12.trans (t13.below S12.size (fun y hm => by have h1 := Tx0.out y hm; have q0 := Z1.out; have q1 := LP0.out; have q2 := Z2.out; have q3 := Z3.out; have q4 := Z4.out; have q5 := Z5.out; have q6 := Z6.out; have q7 := LX0.out; have q8 := Z7.out; have q9 := Z8.out; have q10 := Z10.out; have q11 := Z11.out; have q12 := Z12.out; omega))
      have Z13 := Lib.hid (show w12.heap.size ≤ w13.heap.size from t13.size)
      clear t13
      have hn1c : x1.length ≤ 10000000 := by have := HN1.out; omega
      go_wp2_with fail
      refine (markIntS_n Rx1_13.out nd6 (q := (1 + ((Pgm.cntM x0 : Nat) : Int))) (by omega) (by omega)).mono ?_
      rintro e w14 ⟨rfl, r14, t14⟩
      have m14h := Lib.hid r14; clear r14
      have P0_14 := t14.box2 P0_13 (fun hm => by have h1 := Tx1.out _ hm; have q0 := Z1.out; have q1 := LP0.out; have q2 := Z2.out; have q3 := Z3.out; have q4 := Z4.out; have q5 := Z5.out; have q6 := Z6.out; have q7 := LX0.out; have q8 := Z7.out; have q9 := Z8.out; have q10 := Z10.out; have q11 := Z11.out; have q12 := Z12.out; have q13 := Z13.out; omega); clear P0_13
      have X0_14 := t14.box2 X0_13 (fun hm => by have h1 := Tx1.out _ hm; have q0 := Z1.out; have q1 := LP0.out; have q2 := Z2.out; have q3 := Z3.out; have q4 := Z4.out; have q5 := Z5.out; have q6 := Z6.out; have q7 := LX0.out; have q8 := Z7.out; have q9 := Z8.out; have q10 := Z10.out; have q11 := Z11.out; have q12 := Z12.out; have q13 := Z13.out; omega); clear X0_13
      have RA0_14 := Lib.hid (Rep.keep _ RA0_13.out (t14.keeps fun y hy => ⟨Rep.lt _ RA0_13.out y hy, fun hm => by have h1 := Tx1.out y hm; have h2 := TA0.out y hy; have q0 := Z1.out; have q1 := LP0.out; have q2 := Z2.out; have q3 := Z3.out; have q4 := Z4.out; have q5 := Z5.out; have q6 := Z6.out; have q7 := LX0.out; have q8 := Z7.out; have q9 := Z8.out; have q10 := Z10.out; have q11 := Z11.out; have q12 := Z12.out; have q13 := Z13.out; omega⟩)); clear RA0_13
      have RA1_14 := Lib.hid (Rep.keep _ RA1_13.out (t14.keeps fun y hy => ⟨Rep.lt _ RA1_13.out y hy, fun hm => by have h1 := Tx1.out y hm; have h2 := TA1.out y hy; have q0 := Z1.out; have q1 := LP0.out; have q2 := Z2.out; have q3 := Z3.out; have q4 := Z4.out; have q5 := Z5.out; have q6 := Z6.out; have q7 := LX0.out; have q8 := Z7.out; have q9 := Z8.out; have q10 := Z10.out; have q11 := Z11.out; have q12 := Z12.out; have q13 := Z13.out; omega⟩)); clear RA1_13
      have Rw0_14 := Lib.hid (Rep.keep _ Rw0_13.out (t14.keeps fun y hy => ⟨Rep.lt _ Rw0_13.out y hy, fun hm => by have h1 := Tx1.out y hm; have h2 := Tw0.out y hy; have q0 := Z1.out; have q1 := LP0.out; have q2 := Z2.out; have q3 := Z3.out; have q4 := Z4.out; have q5 := Z5.out; have q6 := Z6.out; have q7 := LX0.out; have q8 := Z7.out; have q9 := Z8.out; have q10 := Z10.out; have q11 := Z11.out; have q12 := Z12.out; have q13 := Z13.out; omega⟩)); clear Rw0_13
      have Rg0_14 := Lib.hid (Rep.keep _ Rg0_13.out (t14.keeps fun y hy => ⟨Rep.lt _ Rg0_13.out y hy, fun hm => by have h1 := Tx1.out y hm; have h2 := Tg0.out y hy; have q0 := Z1.out; have q1 := LP0.out; have q2 := Z2.out; have q3 := Z3.out; have q4 := Z4.out; have q5 := Z5.out; have q6 := Z6.out; have q7 := LX0.out; have q8 := Z7.out; have q9 := Z8.out; have q10 := Z10.out; have q11 := Z11.out; have q12 := Z12.out; have q13 := Z13.out; omega⟩)); clear Rg0_13
      have S14 : Below w.heap.size w w14 := S13.trans (t14.below S13.size (fun y hm => by have h1 := Tx1.out y hm; have q0 := Z1.out; have q1 := LP0.out; have q2 := Z2.out; have q3 := Z3.out; have q4 := Z4.out; have q5 := Z5.out; have q6 := Z6.out; have q7 := LX0.out; have q8 := Z7.out; have q9 := Z8.out; have q10 := Z10.out; have q11 := Z11.out; have q12 := Z12.out; have q13 := Z13.out; omega))
      have Z14 := Lib.hid (show w13.heap.size ≤ w14.heap.size from t14.size)
      clear t14
      go_wp2_with fail
      refine (eqIntS_b (Rg0_14.out.below bel) (Rw0_14.out.below bel)).mono ?_
      rintro e w15 ⟨rfl, b15⟩
      have P0_15 := P0_14.to b15; clear P0_14
      have X0_15 := X0_14.to b15; clear X0_14
      have RA0_15 := Lib.hid (RA0_14.out.below b15); clear RA0_14
      have RA1_15 := Lib.hid (RA1_14.out.below b15); clear RA1_14
      have Rw0_15 := Lib.hid (Rw0_14.out.below b15); clear Rw0_14
      have Rg0_15 := Lib.hid (Rg0_14.out.below b15); clear Rg0_14
      have S15 : Below w.heap.size w w15 := below_tr S14 b15
      have Z15 := Lib.hid (b15.size)
      go_wp2_with fail
      refine (markIntS_n Rg0_15.out nd7 (q := 1) (by omega) (by omega)).mono ?_
      rintro e w16 ⟨rfl, r16, t16⟩
      have m16h := Lib.hid r16; clear r16
      have P0_16 := t16.box2 P0_15 (fun hm => by have h1 := Tg0.out _ hm; have q0 := Z1.out; have q1 := LP0.out; have q2 := Z2.out; have q3 := Z3.out; have q4 := Z4.out; have q5 := Z5.out; have q6 := Z6.out; have q7 := LX0.out; have q8 := Z7.out; have q9 := Z8.out; have q10 := Z10.out; have q11 := Z11.out; have q12 := Z12.out; have q13 := Z13.out; have q14 := Z14.out; have q15 := Z15.out; omega); clear P0_15
      have X0_16 := t16.box2 X0_15 (fun hm => by have h1 := Tg0.out _ hm; have q0 := Z1.out; have q1 := LP0.out; have q2 := Z2.out; have q3 := Z3.out; have q4 := Z4.out; have q5 := Z5.out; have q6 := Z6.out; have q7 := LX0.out; have q8 := Z7.out; have q9 := Z8.out; have q10 := Z10.out; have q11 := Z11.out; have q12 := Z12.out; have q13 := Z13.out; have q14 := Z14.out; have q15 := Z15.out; omega); clear X0_15
      have RA0_16 := Lib.hid (Rep.keep _ RA0_15.out (t16.keeps fun y hy => ⟨Rep.lt _ RA0_15.out y hy, fun hm => by have h1 := Tg0.out y hm; have h2 := TA0.out y hy; have q0 := Z1.out; have q1 := LP0.out; have q2 := Z2.out; have q3 := Z3.out; have q4 := Z4.out; have q5 := Z5.out; have q6 := Z6.out; have q7 := LX0.out; have q8 := Z7.out; have q9 := Z8.out; have q10 := Z10.out; have q11 := Z11.out; have q12 := Z12.out; have q13 := Z13.out; have q14 := Z14.out; have q15 := Z15.out; omega⟩)); clear RA0_15
      have RA1_16 := Lib.hid (Rep.keep _ RA1_15.out (t16.keeps fun y hy => ⟨Rep.lt _ RA1_15.out y hy, fun hm => by have h1 := Tg0.out y hm; have h2 := TA1.out y hy; have q0 := Z1.out; have q1 := LP0.out; have q2 := Z2.out; have q3 := Z3.out; have q4 := Z4.out; have q5 := Z5.out; have q6 := Z6.out; have q7 := LX0.out; have q8 := Z7.out; have q9 := Z8.out; have q10 := Z10.out; have q11 := Z11.out; have q12 := Z12.out; have q13 := Z13.out; have q14 := Z14.out; have q15 := Z15.out; omega⟩)); clear RA1_15
      have Rw0_16 := Lib.hid (Rep.keep _ Rw0_15.out (t16.keeps fun y hy => ⟨Rep.lt _ Rw0_15.out y hy, fun hm => by have h1 := Tg0.out y hm; have h2 := Tw0.out y hy; have q0 := Z1.out; have q1 := LP0.out; have q2 := Z2.out; have q3 := Z3.out; have q4 := Z4.out; have q5 := Z5.out; have q6 := Z6.out; have q7 := LX0.out; have q8 := Z7.out; have q9 := Z8.out; have q10 := Z10.out; have q11 := Z11.out; have q12 := Z12.out; have q13 := Z13.out; have q14 := Z14.out; have q15 := Z15.out; omega⟩)); clear Rw0_15
      have S16 : Below w.heap.size w w16 := S15.trans (t16.below S15.size (fun y hm => by have h1 := Tg0.out y hm; have q0 := Z1.out; have q1 := LP0.out; have q2 := Z2.out; have q3 := Z3.out; have q4 := Z4.out; have q5 := Z5.out; have q6 := Z6.out; have q7 := LX0.out; have q8 := Z7.out; have q9 := Z8.out; have q10 := Z10.out; have q11 := Z11.out; have q12 := Z12.out; have q13 := Z13.out; have q14 := Z14.out; have q15 := Z15.out; omega))
      have Z16 := Lib.hid (show w15.heap.size ≤ w16.heap.size from t16.size)
      clear t16
      have hmq : ((1 + (((GreedyF x0 x1).length : Nat) : Int)) != (1 + (((GreedyF x0 x1).length : Nat) : Int))) = false := by simp
      go_wp2_with fail
      refine (heldIntS_n m16h.out (q := 1) (by omega) (by omega)).mono ?_
      rintro e w17 ⟨rfl, b17⟩
      have P0_17 := P0_16.to b17; clear P0_16
      have X0_17 := X0_16.to b17; clear X0_16
      have RA0_17 := Lib.hid (RA0_16.out.below b17); clear RA0_16
      have RA1_17 := Lib.hid (RA1_16.out.below b17); clear RA1_16
      have Rw0_17 := Lib.hid (Rw0_16.out.below b17); clear Rw0_16
      have Rg0_17 := Lib.hid (m16h.out.below b17); clear m16h
      have S17 : Below w.heap.size w w17 := below_tr S16 b17
      have Z17 := Lib.hid (b17.size)
      go_wp2_with fail
      refine (toProgram_m (RA0_17.out.below bel) HN0.out).mono ?_
      rintro e w18 ⟨A1_18, c1_18, A2_18, c2_18, bs18, rfl, r18, nd18, hb18, b18⟩
      have Tz0 := Lib.hid (show ∀ y ∈ bs18, w17.heap.size + 0 ≤ y ∧ y < w18.heap.size from fun y hy => ⟨by have := hb18 y hy; (try simp at this); omega, Rep.lt _ r18 y hy⟩)
      have P0_18 := P0_17.to b18; clear P0_17
      have X0_18 := X0_17.to b18; clear X0_17
      have RA0_18 := Lib.hid (RA0_17.out.below b18); clear RA0_17
      have RA1_18 := Lib.hid (RA1_17.out.below b18); clear RA1_17
      have Rw0_18 := Lib.hid (Rw0_17.out.below b18); clear Rw0_17
      have Rg0_18 := Lib.hid (Rg0_17.out.below b18); clear Rg0_17
      have S18 : Below w.heap.size w w18 := below_tr S17 b18
      have Z18 := Lib.hid (b18.size)
      have r18h := Lib.hid r18; clear r18 hb18
      go_wp2_with fail
      refine (toIntS_m (RA1_18.out.below bel) HN1.out).mono ?_
      rintro e w19 ⟨A19, n19, c19, bs19, rfl, r19, nd19, hb19, b19⟩
      have Tz1 := Lib.hid (show ∀ y ∈ bs19, w18.heap.size + 0 ≤ y ∧ y < w19.heap.size from fun y hy => ⟨by have := hb19 y hy; (try simp at this); omega, Rep.lt _ r19 y hy⟩)
      have P0_19 := P0_18.to b19; clear P0_18
      have X0_19 := X0_18.to b19; clear X0_18
      have RA0_19 := Lib.hid (RA0_18.out.below b19); clear RA0_18
      have RA1_19 := Lib.hid (RA1_18.out.below b19); clear RA1_18
      have Rw0_19 := Lib.hid (Rw0_18.out.below b19); clear Rw0_18
      have Rg0_19 := Lib.hid (Rg0_18.out.below b19); clear Rg0_18
      have Rz0_19 := Lib.hid (r18h.out.below b19); clear r18h
      have S19 : Below w.heap.size w w19 := below_tr S18 b19
      have Z19 := Lib.hid (b19.size)
      have r19h := Lib.hid r19; clear r19 hb19
      go_wp2_with fail
      refine (implGreedyOrder_c (Rz0_19.out.below bel) (r19h.out.below bel)).mono ?_
      rintro e w20 ⟨A20, n20, c20, bs20, rfl, r20, nd20, hb20, b20⟩
      have P0_20 := P0_19.to b20; clear P0_19
      have X0_20 := X0_19.to b20; clear X0_19
      have RA0_20 := Lib.hid (RA0_19.out.below b20); clear RA0_19
      have RA1_20 := Lib.hid (RA1_19.out.below b20); clear RA1_19
      have Rw0_20 := Lib.hid (Rw0_19.out.below b20); clear Rw0_19
      have Rg0_20 := Lib.hid (Rg0_19.out.below b20); clear Rg0_19
      have Rz0_20 := Lib.hid (Rz0_19.out.below b20); clear Rz0_19
      have Rz1_20 := Lib.hid (r19h.out.below b20); clear r19h
      have S20 : Below w.heap.size w w20 := below_tr S19 b20
      have Z20 := Lib.hid (b20.size)
      have r20h := Lib.hid r20; clear r20 hb20 nd20
      go_wp2_with fail
      refine (eqIntS_b (r20h.out.below bel) (Rw0_20.out.below bel)).mono ?_
      rintro e w21 ⟨rfl, b21⟩
      have P0_21 := P0_20.to b21; clear P0_20
      have X0_21 := X0_20.to b21; clear X0_20
      have RA0_21 := Lib.hid (RA0_20.out.below b21); clear RA0_20
      have RA1_21 := Lib.hid (RA1_20.out.below b21); clear RA1_20
      have Rw0_21 := Lib.hid (Rw0_20.out.below b21); clear Rw0_20
      have Rg0_21 := Lib.hid (Rg0_20.out.below b21); clear Rg0_20
      have Rh0_21 := Lib.hid (r20h.out.below b21); clear r20h
      have S21 : Below w.heap.size w w21 := below_tr S20 b21
      have Z21 := Lib.hid (b21.size)
      go_wp2_with fail
      refine (heldIntS_n Rg0_21.out (q := 1) (by omega) (by omega)).mono ?_
      rintro e w22 ⟨rfl, b22⟩
      have P0_22 := P0_21.to b22; clear P0_21
      have X0_22 := X0_21.to b22; clear X0_21
      have RA0_22 := Lib.hid (RA0_21.out.below b22); clear RA0_21
      have RA1_22 := Lib.hid (RA1_21.out.below b22); clear RA1_21
      have Rw0_22 := Lib.hid (Rw0_21.out.below b22); clear Rw0_21
      have Rg0_22 := Lib.hid (Rg0_21.out.below b22); clear Rg0_21
      have Rh0_22 := Lib.hid (Rh0_21.out.below b22); clear Rh0_21
      have S22 : Below w.heap.size w w22 := below_tr S21 b22
      have Z22 := Lib.hid (b22.size)
      go_wp2
      go_ret
      exact ⟨rfl, S22⟩
end Go.Proofs.YtimocdpfnncnlaaGreat
