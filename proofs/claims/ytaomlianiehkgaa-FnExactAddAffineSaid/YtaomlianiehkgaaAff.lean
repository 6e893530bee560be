/- Affine expressions: how they read; the law package's functions on them (copy, equality, size, mark, held). -/
import Derived.Test.YtaomlianiehkgaaInts
set_option linter.all false
set_option linter.unusedSimpArgs false
set_option linter.unusedVariables false
namespace Go.Proofs.Ytaomlianiehkgaa
open Go.ChangeShapes Go.WideShapes Go.ChangeAt Go.RowKit Go.Deep

structure Aff where
  coefs : List Int
  const : Int
  deriving DecidableEq
def Aff.d (a : Aff) : D := .st [ints a.coefs, .int a.const]
theorem Aff.size (a : Aff) : a.d.size = 2 := rfl

theorem Rep.aff_iff {w : World} {a : Aff} {cs : List Value} {bs : List Nat} :
    Rep w a.d cs bs ↔ ∃ A n c, cs = [.slice A n c, .int .i64 a.const] ∧ Rep w (ints a.coefs) [.slice A n c] bs ∧ I64 a.const := by
  simp only [Aff.d, Rep, Reps]
  constructor
  · rintro ⟨c1, c2, b1, b2, rfl, rfl, h, c3, c4, b3, b4, rfl, rfl, ⟨rfl, rfl, h1⟩, rfl, rfl⟩
    obtain ⟨A, c, rfl, _⟩ := h.ints_form
    exact ⟨A, _, c, rfl, by simpa using h, h1⟩
  · rintro ⟨A, n, c, rfl, h, h1⟩
    exact ⟨[_], [_], bs, [], rfl, by simp, h, [_], [], [], [], rfl, rfl, ⟨rfl, rfl, h1⟩, rfl, rfl⟩

section
variable {w : World} {a : Aff} {A B : Option Addr} {n m c d : Nat} {k k' : Int} {bs bs' : List Nat}

theorem Rep.aff (h : Rep w a.d [.slice A n c, .int .i64 k] bs) : k = a.const ∧ Rep w (ints a.coefs) [.slice A n c] bs ∧ I64 k := by
  obtain ⟨A', n', c', e, h1, h2⟩ := Rep.aff_iff.1 h
  simp only [List.cons.injEq, Value.slice.injEq, Value.int.injEq] at e
  obtain ⟨⟨rfl, rfl, rfl⟩, ⟨_, rfl⟩, _⟩ := e
  exact ⟨rfl, h1, h2⟩

set_option maxHeartbeats 400000 in
theorem toAffine_c (h : Rep w a.d [.slice A n c, .int .i64 k] bs) (hn : n ≤ 10000000) :
    Calls Try.prog 9 #[.agg #[.slice A n c, .int .i64 k]] w fun e w' => ∃ g, e = .returned (.agg #[.slice (some ⟨g, 0, none⟩) n n, .int .i64 k]) ∧ Rep w' a.d [.slice (some ⟨g, 0, none⟩) n n, .int .i64 k] [g] ∧ w.heap.size ≤ g ∧ Below w.heap.size w w' := by
  obtain ⟨hk, h1, h2⟩ := h.aff
  have HK := Lib.hid hk; clear hk
  have HN := Lib.hid hn; clear hn
  have H2 := Lib.hid h2; clear h2
  go_enter Try.func9, Try.ntmps9
  go_wp2_with fail
  refine (toIntS_c (h1.below (by exact (((Below.refl _ _).alloc (Nat.le_refl _) _).alloc (by simp) _).alloc (by simp; omega) _)) HN.out).mono ?_
  rintro e w1 ⟨g, rfl, r1, hg, b1⟩
  obtain ⟨hc1, hf1⟩ := bcell b1
  have hz1 : w.heap.size + 3 ≤ w1.heap.size := by have := b1.size; simp at this; omega
  have hg1 : w.heap.size + 3 ≤ g := by simp at hg; omega
  clear hg
  go_wp2
  refine bodyPost_ret (v := .agg #[.slice (some ⟨g, 0, none⟩) n n, .int .i64 k]) (by simp [results, Try.results9, go_sem, hc1]) rfl ⟨_, rfl, Rep.aff_iff.2 ⟨_, _, _, by rw [HK.out], Rep.keep _ r1 (((((Keeps.refl _ _).setCell ?_ _).setCell ?_ _).setCell ?_ _).setCell ?_ _), by rw [← HK.out]; exact H2.out⟩, by omega, ?_⟩
  case refine_5 => exact (by repeat (first | exact Below.refl _ _ | refine Below.setCell ?_ (by simp; try omega) _ | refine Below.alloc ?_ (by simp; try omega) _ | refine below_drewN ?_ _ | refine Below.drew ?_ | refine below_tr ?_ ‹Below _ _ _›))
  all_goals (simp; omega)

set_option maxHeartbeats 400000 in
theorem eqAffine_c (h : Rep w a.d [.slice A n c, .int .i64 k] bs) (h' : Rep w a.d [.slice B m d, .int .i64 k'] bs') :
    Calls Try.prog 11 #[.agg #[.slice A n c, .int .i64 k], .agg #[.slice B m d, .int .i64 k']] w fun e w' => e = .returned (.bool true) ∧ Below w.heap.size w w' := by
  obtain ⟨rfl, h1, h2⟩ := h.aff
  obtain ⟨rfl, h3, h4⟩ := h'.aff
  have hq : (a.const != a.const) = false := by simp
  have HH := Lib.hid (And.intro h1 h3); clear h1 h3 h2 h4 h h'
  go_enter Try.func11, Try.ntmps11
  go_wp2_with fail
  refine (eqIntS_c (HH.out.1.below (by repeat (first | exact Below.refl _ _ | refine Below.setCell ?_ (by simp; try omega) _ | refine Below.alloc ?_ (by simp; try omega) _ | refine below_drewN ?_ _ | refine Below.drew ?_ | refine below_tr ?_ ‹Below _ _ _›))) (HH.out.2.below (by repeat (first | exact Below.refl _ _ | refine Below.setCell ?_ (by simp; try omega) _ | refine Below.alloc ?_ (by simp; try omega) _ | refine below_drewN ?_ _ | refine Below.drew ?_ | refine below_tr ?_ ‹Below _ _ _›)))).mono ?_
  rintro e w1 ⟨rfl, nq, rfl⟩
  go_wp2
  go_ret
  exact ⟨rfl, (by repeat (first | exact Below.refl _ _ | refine Below.setCell ?_ (by simp; try omega) _ | refine Below.alloc ?_ (by simp; try omega) _ | refine below_drewN ?_ _ | refine Below.drew ?_ | refine below_tr ?_ ‹Below _ _ _›))⟩

theorem szAffine_c {left : Int} (h : Rep w a.d [.slice A n c, .int .i64 k] bs) (h0 : 0 ≤ left) (h1 : left ≤ 1048576) :
    Calls Try.prog 7 #[.agg #[.slice A n c, .int .i64 k], .int .i64 left] w fun e w' => e = .returned (.int .i64 (szR left n)) ∧ Below w.heap.size w w' := by
  have HH := Lib.hid h; clear h
  have hr : szR left n = -1 ∨ 0 ≤ szR left n := by unfold szR; split <;> omega
  rcases hr with hr | hr
  · have HR := Lib.hid hr; clear hr
    go_enter Try.func7, Try.ntmps7
    go_wp2_with fail
    refine (szIntS_c (HH.out.aff.2.1.below (by repeat (first | exact Below.refl _ _ | refine Below.setCell ?_ (by simp; try omega) _ | refine Below.alloc ?_ (by simp; try omega) _ | refine below_drewN ?_ _ | refine Below.drew ?_ | refine below_tr ?_ ‹Below _ _ _›))) h0 h1).mono ?_
    rintro e w1 ⟨rfl, rfl⟩
    rw [HR.out]
    go_wp2
    go_ret
    exact ⟨ret_int HR.out.symm, (by repeat (first | exact Below.refl _ _ | refine Below.setCell ?_ (by simp; try omega) _ | refine Below.alloc ?_ (by simp; try omega) _ | refine below_drewN ?_ _ | refine Below.drew ?_ | refine below_tr ?_ ‹Below _ _ _›))⟩
  · go_enter Try.func7, Try.ntmps7
    go_wp2_with fail
    refine (szIntS_c (HH.out.aff.2.1.below (by repeat (first | exact Below.refl _ _ | refine Below.setCell ?_ (by simp; try omega) _ | refine Below.alloc ?_ (by simp; try omega) _ | refine below_drewN ?_ _ | refine Below.drew ?_ | refine below_tr ?_ ‹Below _ _ _›))) h0 h1).mono ?_
    rintro e w1 ⟨rfl, rfl⟩
    go_wp2
    go_ret
    exact ⟨rfl, (by repeat (first | exact Below.refl _ _ | refine Below.setCell ?_ (by simp; try omega) _ | refine Below.alloc ?_ (by simp; try omega) _ | refine below_drewN ?_ _ | refine Below.drew ?_ | refine below_tr ?_ ‹Below _ _ _›))⟩

theorem markAffine_c {q : Int} (h : Rep w a.d [.slice A n c, .int .i64 k] bs) (h0 : 0 ≤ q) (h1 : q + n ≤ 4611686018427387904) :
    Calls Try.prog 12 #[.agg #[.slice A n c, .int .i64 k], .int .i64 q] w fun e w' => e = .returned (.int .i64 (q + n)) ∧ Rep w' (Aff.d ⟨seqI q n, k⟩) [.slice A n c, .int .i64 k] bs ∧ Touch bs w w' := by
  have HH := Lib.hid h
  have hb : Below w.heap.size w (w.alloc (.cells #[.slice A n c, .int .i64 k] 26)) := (by repeat (first | exact Below.refl _ _ | refine Below.setCell ?_ (by simp; try omega) _ | refine Below.alloc ?_ (by simp; try omega) _ | refine below_drewN ?_ _ | refine Below.drew ?_ | refine below_tr ?_ ‹Below _ _ _›))
  clear h
  go_enter Try.func12, Try.ntmps12
  go_wp2_with fail
  refine (markIntS_c (HH.out.aff.2.1.below hb) h0 h1).mono ?_
  rintro e w1 ⟨rfl, r1, t1⟩
  go_wp2
  go_ret
  exact ⟨rfl, Rep.aff_iff.2 ⟨_, _, _, rfl, r1, HH.out.aff.2.2⟩, (Touch.of_below hb).trans t1⟩

theorem heldAffine_c {q : Int} (h : Rep w (Aff.d ⟨seqI q n, k⟩) [.slice A n c, .int .i64 k] bs) (h0 : 0 ≤ q) (h1 : q + n ≤ 4611686018427387904) :
    Calls Try.prog 13 #[.agg #[.slice A n c, .int .i64 k], .int .i64 q] w fun e w' => e = .returned (.int .i64 (q + n)) ∧ Below w.heap.size w w' := by
  have HH := Lib.hid h; clear h
  go_enter Try.func13, Try.ntmps13
  go_wp2_with fail
  refine (heldIntS_c (HH.out.aff.2.1.below (by repeat (first | exact Below.refl _ _ | refine Below.setCell ?_ (by simp; try omega) _ | refine Below.alloc ?_ (by simp; try omega) _ | refine below_drewN ?_ _ | refine Below.drew ?_ | refine below_tr ?_ ‹Below _ _ _›))) h0 h1).mono ?_
  rintro e w1 ⟨rfl, rfl⟩
  go_wp2
  go_ret
  exact ⟨rfl, (by repeat (first | exact Below.refl _ _ | refine Below.setCell ?_ (by simp; try omega) _ | refine Below.alloc ?_ (by simp; try omega) _ | refine below_drewN ?_ _ | refine Below.drew ?_ | refine below_tr ?_ ‹Below _ _ _›))⟩
end
end Go.Proofs.Ytaomlianiehkgaa
