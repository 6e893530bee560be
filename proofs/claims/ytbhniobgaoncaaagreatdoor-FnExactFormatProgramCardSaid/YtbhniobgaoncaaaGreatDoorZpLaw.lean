/- How a law's statement follows from its walk: the arguments' readings opened, the row's last step. No function is walked here. -/
import Derived.Test.YtbhniobgaoncaaaGreatDoorZpCore
import Derived.Test.YtbhniobgaoncaaaGreatDoorRows
set_option linter.all false
set_option linter.unusedSimpArgs false
set_option linter.unusedVariables false
namespace Go.Proofs.YtbhniobgaoncaaaGreatDoor
open Go.ChangeShapes Go.WideShapes Go.ChangeAt Go.RowKit Go.Deep

theorem own : ownKnob Tryz.prog.godebug = none := by kernel_rfl
theorem laidOut : laidOutB Tryz.prog = true := by kernel_rfl

section
variable {H : Type} {enc : TypeId × Value → H} {P : Program}
variable {W : World} {L : List TypeId} {base b0 : Nat} {spare : Nat → Bool} {held : Bool} {r : Reach}
/-- an argument that is a struct -/
theorem open_st (hL : layB P L = true) {t : TypeId} {fds : Array Field} (ht : t ∈ L) (hu : P.underlying t = some (.struct fds)) {v : Value} {d : DataW H} {p : List MemPlace}
    (hv : Value.okWide P W r b0 t v) (h : DataW.Trod enc P W base spare held t v d p) (hz : W.noneFrozen p) :
    ∃ cs fs bs, v = .agg cs.toArray ∧ Rep W (.st fs) cs bs ∧ HasTys P (fds.toList.map (·.type)) fs := by
  obtain ⟨cs, rfl, hs⟩ := okWide_struct hu hv
  obtain ⟨fuel, hf⟩ := h
  obtain ⟨d, bs, h1, h2, _⟩ := trod_rep hL fuel t ht _ _ hf hz
  cases d with
  | int _ => rw [HasTy, hu] at h2; cases h2
  | bool _ => cases h2
  | str _ => rw [HasTy, hu] at h2; cases h2
  | sl xs =>
    obtain ⟨e', h, h3⟩ := h2
    rw [hu] at h; cases h
  | st fs =>
    obtain ⟨fds', h, h3⟩ := h2
    rw [hu] at h
    simp only [Option.some.injEq, TypeDesc.struct.injEq] at h
    subst h
    exact ⟨cs.toList, fs, bs, by simp, h1, h3⟩
theorem hasTys_cons {t : TypeId} {ts : List TypeId} {fs : List D} (h : HasTys P (t :: ts) fs) : ∃ d ds, fs = d :: ds ∧ HasTy P t d ∧ HasTys P ts ds := by
  cases fs with
  | nil => cases h
  | cons d ds =>
    obtain ⟨t', r, e, h1, h2⟩ := h
    cases e
    exact ⟨d, ds, rfl, h1, h2⟩
theorem hasTys_nil {fs : List D} (h : HasTys P [] fs) : fs = [] := by
  cases fs with
  | nil => rfl
  | cons d ds => obtain ⟨_, _, e, _⟩ := h; cases e
theorem hasTy_st {t : TypeId} {fds : Array Field} (hu : P.underlying t = some (.struct fds)) {d : D} (h : HasTy P t d) : ∃ fs, d = .st fs ∧ HasTys P (fds.toList.map (·.type)) fs := by
  cases d with
  | int _ => rw [HasTy, hu] at h; cases h
  | bool _ => cases h
  | str _ => rw [HasTy, hu] at h; cases h
  | sl xs => obtain ⟨e', h, h3⟩ := h; rw [hu] at h; cases h
  | st fs =>
    obtain ⟨fds', h, h3⟩ := h
    rw [hu] at h
    simp only [Option.some.injEq, TypeDesc.struct.injEq] at h
    subst h
    exact ⟨fs, rfl, h3⟩
theorem hasTy_str {t : TypeId} (hu : P.underlying t = some .string) {d : D} (h : HasTy P t d) : ∃ s, d = .str s := by
  cases d with
  | int n => rw [HasTy, hu] at h; cases h
  | bool _ => cases h
  | str s => exact ⟨s, rfl⟩
  | st fs => obtain ⟨_, h, _⟩ := h; rw [hu] at h; cases h
  | sl xs => obtain ⟨_, h, _⟩ := h; rw [hu] at h; cases h
theorem hasTyE_of {α : Type} {f : α → D} {e : TypeId} (hf : ∀ d, HasTy P e d → ∃ x, d = f x) : (xs : List D) → HasTyE P e xs → ∃ ys : List α, xs = ys.map f
  | [], _ => ⟨[], rfl⟩
  | x :: xs, h => by
    obtain ⟨y, rfl⟩ := hf x h.1
    obtain ⟨ys, rfl⟩ := hasTyE_of hf xs h.2
    exact ⟨y :: ys, rfl⟩
theorem hasTy_sl {α : Type} {f : α → D} {t e : TypeId} (hu : P.underlying t = some (.slice e)) (hf : ∀ d, HasTy P e d → ∃ x, d = f x) {d : D} (h : HasTy P t d) : ∃ ys : List α, d = .sl (ys.map f) := by
  cases d with
  | int n => rw [HasTy, hu] at h; cases h
  | bool _ => cases h
  | str _ => rw [HasTy, hu] at h; cases h
  | st fs => obtain ⟨_, h, _⟩ := h; rw [hu] at h; cases h
  | sl xs =>
    obtain ⟨e', h, h2⟩ := h
    rw [hu] at h
    simp only [Option.some.injEq, TypeDesc.slice.injEq] at h
    subst h
    obtain ⟨ys, rfl⟩ := hasTyE_of hf _ h2
    exact ⟨ys, rfl⟩
theorem hasTyE_mem {α : Type} {f : α → D} {e : TypeId} : (xs : List D) → (∀ d ∈ xs, HasTy P e d → ∃ x, d = f x) → HasTyE P e xs → ∃ ys : List α, xs = ys.map f
  | [], _, _ => ⟨[], rfl⟩
  | x :: xs, hf, h => by
    obtain ⟨y, rfl⟩ := hf x List.mem_cons_self h.1
    obtain ⟨ys, rfl⟩ := hasTyE_mem xs (fun d hd => hf d (List.mem_cons_of_mem _ hd)) h.2
    exact ⟨y :: ys, rfl⟩
theorem hasTy_sl_mem {α : Type} {f : α → D} {t e : TypeId} (hu : P.underlying t = some (.slice e)) {d : D} (hf : ∀ xs, d = .sl xs → ∀ y ∈ xs, HasTy P e y → ∃ x, y = f x) (h : HasTy P t d) : ∃ ys : List α, d = .sl (ys.map f) := by
  cases d with
  | int n => rw [HasTy, hu] at h; cases h
  | bool _ => cases h
  | str _ => rw [HasTy, hu] at h; cases h
  | st fs => obtain ⟨_, h, _⟩ := h; rw [hu] at h; cases h
  | sl xs =>
    obtain ⟨e', h, h2⟩ := h
    rw [hu] at h
    simp only [Option.some.injEq, TypeDesc.slice.injEq] at h
    subst h
    obtain ⟨ys, rfl⟩ := hasTyE_mem xs (hf xs rfl) h2
    exact ⟨ys, rfl⟩
/-- what is of type []int -/
theorem hasTyE_int {e : TypeId} (hu : P.underlying e = some (.int .i64)) : (xs : List D) → HasTyE P e xs → ∃ ns : List Int, xs = ns.map .int
  | [], _ => ⟨[], rfl⟩
  | x :: xs, h => by
    obtain ⟨ns, rfl⟩ := hasTyE_int hu xs h.2
    have h1 := h.1
    cases x with
    | int n => exact ⟨n :: ns, rfl⟩
    | bool _ => cases h1
    | str _ => rw [HasTy, hu] at h1; cases h1
    | st fs => obtain ⟨_, h, _⟩ := h1; rw [hu] at h; cases h
    | sl xs => obtain ⟨_, h, _⟩ := h1; rw [hu] at h; cases h
end

theorem hasTy_int {P : Program} {t : TypeId} (hu : P.underlying t = some (.int .i64)) {d : D} (h : HasTy P t d) : ∃ n : Int, d = .int n := by
  cases d with
  | int n => exact ⟨n, rfl⟩
  | bool _ => cases h
  | str _ => rw [HasTy, hu] at h; cases h
  | st fs => obtain ⟨_, h, _⟩ := h; rw [hu] at h; cases h
  | sl xs => obtain ⟨_, h, _⟩ := h; rw [hu] at h; cases h
theorem hasTy_ints {P : Program} {t e : TypeId} (hu : P.underlying t = some (.slice e)) (he : P.underlying e = some (.int .i64)) {d : D} (h : HasTy P t d) : ∃ xs : List Int, d = ints xs := by
  cases d with
  | int n => rw [HasTy, hu] at h; cases h
  | bool _ => cases h
  | str _ => rw [HasTy, hu] at h; cases h
  | st fs => obtain ⟨_, h, _⟩ := h; rw [hu] at h; cases h
  | sl xs =>
    obtain ⟨e', h, h2⟩ := h
    rw [hu] at h
    simp only [Option.some.injEq, TypeDesc.slice.injEq] at h
    subst h
    obtain ⟨ns, rfl⟩ := hasTyE_int he _ h2
    exact ⟨ns, rfl⟩
set_option maxRecDepth 100000 in
/-- the end of every law's row: the answer true, the old memory as it was -/
theorem law_done {H : Type} {enc : TypeId × Value → H} {f : Func} {s : ChangeSpec} {W W' : World} {args : Array Value} {ds : List (DataW H)} {p : List MemPlace} (hres : f.resultTypes = #[4]) (hvars : s.vars = [])
    (hW : DataW.Whole enc Tryz.prog f.params.toList s.vars false W args.toList ds [] p)
    (hs1 : (s.fn H (ds ++ [])).results = [.lit (.bool true)]) (hs2 : (s.fn H (ds ++ [])).args = ds) (hs3 : (s.fn H (ds ++ [])).vars = [])
    (hargs : DataW.TrodAll enc Tryz.prog W 0 (fun _ => true) true f.params.toList args.toList ds p)
    (hrow : ∀ t ∈ f.params.toList, Tryz.prog.readableRec t = true ∧ t < Tryz.prog.types.size)
    (hb : Below W.heap.size W W') : s.post enc Tryz.prog f false true false false W args (.bool true) W' := by
  have hlt : ∀ x ∈ p, x.block < W.heap.size := fun x hx => hW.lt x hx
  have stays : ∀ (sp : Nat → Bool) (ts : List TypeId) (vs : List Value) (ds : List (DataW H)) (p : List MemPlace), (∀ t ∈ ts, Tryz.prog.readableRec t = true ∧ t < Tryz.prog.types.size) → (∀ x ∈ p, x.block < W.heap.size ∧ sp x.block = true) →
      DataW.TrodAll enc Tryz.prog W 0 (fun _ => true) true ts vs ds p → DataW.TrodAll enc Tryz.prog W' 0 sp true ts vs ds p := by
    intro sp ts
    induction ts with
    | nil =>
      intro vs ds p _ _ h
      cases vs with
      | nil => cases ds with
        | nil => exact h
        | cons _ _ => exact h.elim
      | cons _ _ => exact h.elim
    | cons t ts ih =>
      intro vs ds p hr hl h
      cases vs with
      | nil => exact h.elim
      | cons v vs =>
        cases ds with
        | nil => exact h.elim
        | cons d ds =>
          obtain ⟨p1, q1, h1, h2, rfl⟩ := h
          have ht := hr t List.mem_cons_self
          exact ⟨p1, q1, WideElems.Trod_stays laidOut ht.1 ht.2 h1 (fun x hx => hb.same (hl x (List.mem_append_left _ hx)).1) (fun x hx => (hl x (List.mem_append_left _ hx)).2),
            ih vs ds q1 (fun t ht => hr t (List.mem_cons_of_mem _ ht)) (fun x hx => hl x (List.mem_append_right _ hx)) h2, rfl⟩
  have hres' : ∀ (b : Nat) (sp : Nat → Bool) (hd : Bool), DataW.TrodAll enc Tryz.prog W' b sp hd f.resultTypes.toList ((Value.bool true).resultList f.resultTypes.size) (s.fn H (ds ++ [])).results [] := fun b sp hd => by
    rw [hs1, hres]
    exact trodAll_cons_mk (shut_bool Tryz.underlying4 _) trodAll_mk0
  have hargs' : ∀ sp : Nat → Bool, (∀ x ∈ p, sp x.block = true) → DataW.TrodAll enc Tryz.prog W' 0 sp true f.params.toList args.toList (s.fn H (ds ++ [])).args p := fun sp hsp => by
    rw [hs2]
    exact stays sp _ _ _ _ hrow (fun x hx => ⟨hlt x hx, hsp x hx⟩) hargs
  have hvars' : ∀ sp : Nat → Bool, DataW.TrodVars enc Tryz.prog W' sp s.vars (s.fn H (ds ++ [])).vars [] := fun sp => by
    rw [hs3, hvars]; rfl
  refine ⟨ds, [], p, [], p, [], hW, hres' _ _ _, hargs' _ (fun x hx => by simpa using hlt x hx), hvars' _, World.keptBut_mono (fun x hx => ⟨hx, .inr (.inl hx)⟩) (hb.frame (· ∈ p)), fun _ => ⟨?_, ?_⟩⟩
  · exact ok_one hres rfl (okWide_bool_mk Tryz.underlying4 _)
  · obtain ⟨_, _, _, _, _, hz, hn⟩ := hW
    refine ⟨_, _, p ++ [], ⟨p, [], trodAll_append (hargs' _ (fun _ _ => rfl)) (hres' _ _ _), hvars' _, rfl, fun b off hp => ?_, fun ha => by cases ha⟩, fun x hx _ => by simpa using hx⟩
    have hin : MemPlace.cell b off ∈ p := by simpa using hp
    rw [hb.frozen (hlt _ hin)]
    exact hz b off hin

end Go.Proofs.YtbhniobgaoncaaaGreatDoor
