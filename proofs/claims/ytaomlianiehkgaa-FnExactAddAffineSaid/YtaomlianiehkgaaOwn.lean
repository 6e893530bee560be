/- Rows of the call's own as data; slices.Clone on integers. -/
import Derived.Test.YtaomlianiehkgaaInts
import Derived.Maps.AppendAt
set_option linter.all false
set_option linter.unusedSimpArgs false
set_option linter.unusedVariables false
namespace Go.Proofs.Ytaomlianiehkgaa
open Go.ChangeShapes Go.WideShapes Go.ChangeAt Go.RowKit Go.Deep

/-- a row that the call owns, its cells reading as data, is a slice of them -/
theorem Rep.of_own {w : World} {base : Nat} {e : TypeId} {size n : Nat} {v : Value} {es : List Value} {cb : List Nat} {xs : List D} (h : w.ownsRow base e size v n es) (hn : n = xs.length) (hr : Reps w xs es cb) :
    ∃ A c bs, v = .slice A n c ∧ Rep w (.sl xs) [.slice A n c] bs ∧ ((v = .slice none 0 0 ∧ bs = []) ∨ ∃ g, bs = g :: cb ∧ base ≤ g ∧ v.ownBlock = some g) := by
  subst hn
  rcases h.2 with ⟨rfl, h0⟩ | ⟨g, cap, cur, rfl, hb, hh, hnc, hcm, hsz, htake⟩
  · have := List.eq_nil_of_length_eq_zero h0
    subst this
    exact ⟨none, 0, [], rfl, ⟨none, 0, es, cb, rfl, Nat.le_refl _, Nat.zero_le _, hr, .inl ⟨rfl, rfl⟩⟩, .inl ⟨rfl, rfl⟩⟩
  · have hlt : g < w.heap.size := by
      rcases Nat.lt_or_ge g w.heap.size with hlt | hge
      · exact hlt
      · rw [Array.getElem?_eq_none hge] at hh; cases hh
    refine ⟨_, cap, g :: cb, rfl, ⟨_, cap, es, cb, rfl, hnc, hcm, hr, .inr ⟨g, 0, rfl, rfl, hlt, fun j u hu => ⟨?_, by simp [World.frozen?, hh]⟩⟩⟩, .inr ⟨g, rfl, hb, rfl⟩⟩
    rw [← htake, List.getElem?_take] at hu
    split at hu
    · simp only [World.cell?, hh, Nat.zero_add]
      simpa using hu
    · cases hu

theorem Try.info3 : ∃ i, Try.prog.info? 3 = some i ∧ i.zero = some (.int .i64 0) ∧ i.size = 1 ∧ i.bytes = 8 := info_parts Try.int3

section
variable {w : World} {xs : List Int} {A : Option Addr} {n c : Nat} {bs : List Nat}

/-- the call answers a new slice of integers -/
def MadeInts (w : World) (xs : List Int) (e : Ending) (w' : World) : Prop :=
  ∃ A n c bs, e = .returned (.slice A n c) ∧ Rep w' (ints xs) [.slice A n c] bs ∧ bs.Nodup ∧ (∀ b ∈ bs, w.heap.size ≤ b) ∧ Below w.heap.size w w'

set_option maxHeartbeats 400000 in
theorem Clone_int_c (h : Rep w (ints xs) [.slice A n c] bs) (hn : n ≤ 10000000) :
    Calls Try.prog 94 #[.slice A n c] w (MadeInts w xs) := by
  obtain ⟨rfl, _, _⟩ := h.ints_len
  have HN := Lib.hid hn; clear hn
  rcases A with _ | ad
  · have hx : xs = [] := by
      rcases xs with _ | ⟨x, xs⟩
      · rfl
      · obtain ⟨b, o, e, _⟩ := h.ints_at (k := 0) (by simp); cases e
    subst hx
    have hq := fun W => Lib.run_eql_slice_nil (P := Try.prog) W 22 3 none 0 c 0 0 Try.underlying22
    go_enter Try.func94, Try.ntmps94
    go_wp2
    go_ret
    exact ⟨_, _, _, [], rfl, Rep.ints_nil (Nat.zero_le _), by simp, by simp, (by repeat (first | with_reducible exact Below.refl _ _ | refine Below.setCell ?_ (by simp; try omega) _ | refine below_al ?_ _ | refine Below.alloc ?_ (by simp [World.setCell]; try omega) _ | refine below_drewN ?_ _ | refine Below.drew ?_ | refine below_tr ?_ ‹Below _ _ _›))⟩
  · have hq := fun W => Lib.run_eql_slice_nil (P := Try.prog) W 22 3 (some ad) xs.length c 0 0 Try.underlying22
    obtain ⟨i0, hi, hz0, hz1, hz2⟩ := Try.info3
    have hI := Lib.hid (And.intro hi (And.intro hz0 (And.intro hz1 hz2))); clear hi hz0 hz1 hz2
    have hfit := Lib.hid h.ints_fit
    have hcells : ∀ j u, (xs.map (Value.int .i64 ·))[j]? = some u → w.cell? (ad.add j) = some u := by
      intro j u hu
      have hj : j < xs.length := by
        rcases Nat.lt_or_ge j xs.length with hj | hj
        · exact hj
        · rw [List.getElem?_eq_none (by simpa using hj)] at hu; cases hu
      obtain ⟨b, o, e, _, _, hc, _⟩ := h.ints_at hj
      simp only [Option.some.injEq] at e
      subst e
      rw [List.getElem?_map, List.getElem?_eq_getElem hj] at hu
      rw [gi_eq hj] at hc
      have : (⟨b, o, none⟩ : Addr).add j = ⟨b, o + j, none⟩ := by
        unfold Addr.add; split
        · simp_all
        · rfl
      rw [this, hc]
      simpa using hu
    have hblk : 0 < xs.length → ad.block < w.heap.size := fun h0 => by
      obtain ⟨b, o, e, _, hlt, _⟩ := h.ints_at h0
      simp only [Option.some.injEq] at e
      subst e; exact hlt
    have hown : (w.alloc (.cells #[] 3)).ownsRow w.heap.size 3 1 (.slice (some ⟨w.heap.size, 0, none⟩) 0 0) 0 [] :=
      ⟨rfl, .inr ⟨w.heap.size, 0, #[], rfl, Nat.le_refl _, heap_alloc_new w _, Nat.le_refl _, Nat.zero_le _, rfl, rfl⟩⟩
    have hnews : ∀ j u, (xs.map (Value.int .i64 ·))[j]? = some u → (w.alloc (.cells #[] 3)).cell? (ad.add j) = some u := by
      intro j u hu
      rw [World.cell?_alloc_lt _ _ _ (by
        have hj : j < xs.length := by
          rcases Nat.lt_or_ge j xs.length with hj | hj
          · exact hj
          · rw [List.getElem?_eq_none (by simpa using hj)] at hu; cases hu
        have := hblk (by omega)
        unfold Addr.add; split
        · exact this
        · exact this)]
      exact hcells j u hu
    have hone : ∀ u ∈ xs.map (Value.int .i64 ·), u.oneCell' = true := by
      intro u hu
      obtain ⟨x, _, rfl⟩ := List.mem_map.1 hu
      rfl
    have HW := Lib.hid (And.intro hown (And.intro hnews hone)); clear hown hnews hone hcells hblk
    go_enter Try.func94, Try.ntmps94
    go_wp2_with (at_builtin; refine wpList_append_own_at _ rfl _ _ 22 rfl w.heap.size 3 i0 (.int .i64 0) 1 8 Try.underlying22 hI.out.1 hI.out.2.1 hI.out.2.2.1 hI.out.2.2.2 rfl (by decide) (.slice (some ⟨w.heap.size, 0, none⟩) 0 0) 0 [] rfl HW.out.1 ad xs.length c (xs.map (Value.int .i64 ·)) rfl (by simp) HW.out.2.1 HW.out.2.2 (by have := HN.out; unfold maxLen; omega) (by have := HN.out; omega) (by simp) ?_; intro v' w1 hown1 hgrow _ hat)
    rw [Nat.zero_add, List.nil_append] at hown1
    obtain ⟨A', c', bs', rfl, hr, hbs⟩ := Rep.of_own (xs := xs.map .int) hown1 (by simp) ((reps_ints xs).2 ⟨rfl, rfl, hfit.out⟩)
    go_wp2
    go_ret
    refine ⟨_, _, _, bs', rfl, hr, ?_, ?_, ?_⟩
    · rcases hbs with ⟨_, rfl⟩ | ⟨g, rfl, _, _⟩ <;> simp
    · rcases hbs with ⟨_, rfl⟩ | ⟨g, rfl, hg, _⟩
      · simp
      · simpa using hg
    · refine ((Below.refl _ _).alloc (Nat.le_refl _) _).grown hgrow (by simp) fun k hk => ?_
      have : w.heap.size = k := by simpa [Value.ownBlock] using hk
      omega
end
end Go.Proofs.Ytaomlianiehkgaa
