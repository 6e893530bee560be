/- Texts of this seat, joined: LiveF, LiveS, LiveInstancesW. -/
import Derived.Test.YtimocdpfnncnlaaGreatFlowF
import Derived.Test.YtimocdpfnncnlaaGreatFlowS
import Derived.Test.YtimocdpfnncnlaaGreatFlag
import Derived.Test.YtimocdpfnncnlaaGreatLaw
import Derived.Test.YtimocdpfnncnlaaGreatBasic
import Derived.Test.YtimocdpfnncnlaaGreatMark
import Derived.Test.YtimocdpfnncnlaaGreatOps
/- Live instances in plain Lean. -/
set_option linter.all false
set_option linter.unusedSimpArgs false
set_option linter.unusedVariables false
namespace Go.Proofs.YtimocdpfnncnlaaGreat
open Go.ChangeShapes Go.WideShapes Go.ChangeAt Go.RowKit Go.Deep

/-- no later instance writes what instance i writes -/
def lastB (us : List Us) (i : Nat) : Bool := !((us.drop (i + 1)).any fun u => decide (u.write = (nthU us i).write))
def lvG (us : List Us) (i : Nat) (f : Nat → Bool) : Bool := f i || lastB us i
/-- behind the first t reads of instance i -/
def lvR (us : List Us) (i : Nat) (f : Nat → Bool) (t : Nat) (k : Nat) : Bool :=
  if k = i then lvG us i f else (f k || (lvG us i f && ((nthU us i).reads.take t).any fun c => decide (srcF us c i = (k : Int))))
def liveT (us : List Us) : Nat → Nat → Bool
  | 0 => fun _ => false
  | m + 1 => lvR us (us.length - (m + 1)) (liveT us m) (nthU us (us.length - (m + 1))).reads.length
def LiveF (p : Pgm) : List Int := if progOk p then chF (liveT (usesF p) (usesF p).length) (usesF p).length else []
theorem LiveF_n {p : Pgm} (h : progOk p = false) : LiveF p = [] := by unfold LiveF; rw [h]; rfl
theorem LiveF_y {p : Pgm} (h : progOk p = true) : LiveF p = chF (liveT (usesF p) (usesF p).length) (usesF p).length := by unfold LiveF; rw [h]; rfl
theorem lvR_0 (us : List Us) (i : Nat) (f : Nat → Bool) (k : Nat) : lvR us i f 0 k = if k = i then lvG us i f else f k := by
  unfold lvR
  by_cases e : k = i
  · rw [if_pos e, if_pos e]
  · rw [if_neg e, if_neg e]; simp
theorem lvR_off {us : List Us} {i : Nat} {f : Nat → Bool} (h : lvG us i f = false) (t k : Nat) : lvR us i f t k = f k := by
  unfold lvR
  by_cases e : k = i
  · subst e
    rw [if_pos rfl, h]
    simp only [lvG, Bool.or_eq_false_iff] at h
    exact h.1.symm
  · rw [if_neg e, h]; simp
theorem lvR_step {us : List Us} {i t : Nat} {f : Nat → Bool} (h : lvG us i f = true) (ht : t < (nthU us i).reads.length) (k : Nat) : lvR us i f (t + 1) k = if (k : Int) = srcF us (nthU us i).reads[t] i then true else lvR us i f t k := by
  have hb := (srcF_bd us (nthU us i).reads[t] i).2
  unfold lvR
  rw [List.take_succ_eq_append_getElem ht, List.any_append, h]
  by_cases e : k = i
  · rw [if_pos e, if_pos e, if_neg (by omega)]
  · rw [if_neg e, if_neg e]
    by_cases e2 : (k : Int) = srcF us (nthU us i).reads[t] i
    · rw [if_pos e2]; simp [e2]
    · rw [if_neg e2]; simp [Ne.symm e2]
end Go.Proofs.YtimocdpfnncnlaaGreat

/- Live instances, on both sides. -/
namespace Go.Proofs.YtimocdpfnncnlaaGreat
open Go.ChangeShapes Go.WideShapes Go.ChangeAt Go.RowKit Go.Deep

theorem LiveF_len (p : Pgm) : (LiveF p).length ≤ 1000000 := by
  cases h : progOk p with
  | false => rw [LiveF_n h]; simp
  | true =>
    rw [LiveF_y h]
    have h1 := chF_len (liveT (usesF p) (usesF p).length) (usesF p).length
    have h2 : (usesF p).length ≤ 120 := by rw [usesF_len]; exact (progOk_all h).2.2
    omega
theorem contains_w (us : List Us) (c : Int) : (us.map (·.write)).contains c = us.any fun u => decide (u.write = c) := by
  induction us with
  | nil => rfl
  | cons u us ih =>
    rw [List.map_cons, List.contains_cons, ih, List.any_cons]
    congr 1
    rw [Bool.eq_iff_iff, beq_iff_eq, decide_eq_true_iff]
    exact eq_comm
theorem contains_last (us : List Us) (k : Nat) : ((us.map (·.write)).drop (k + 1)).contains (nthU us k).write = !lastB us k := by
  rw [← List.map_drop, contains_w]; unfold lastB; rw [Bool.not_not]
theorem Rep.ints_from {w : World} {xs : List Int} {b o n c : Nat} {bs : List Nat} (h : Rep w (ints xs) [.slice (some ⟨b, o, none⟩) n c] bs) {k : Nat} (hk : k ≤ n) : ∃ bs', Rep w (ints (xs.drop k)) [.slice (some ⟨b, o + k, none⟩) (n - k) (c - k)] bs' := by
  obtain ⟨rfl, h1, h2⟩ := h.ints_len
  rcases Nat.lt_or_ge k xs.length with hlt | hge
  · obtain ⟨b', o', he, rfl, hbl, _⟩ := h.ints_at hlt
    obtain ⟨rfl, rfl⟩ : b = b' ∧ o = o' := by simpa using he
    have := Rep.ints_mk (w := w) (xs := xs.drop k) (b := b) (o := o + k) (c := c - k) (by rw [List.length_drop]; omega) (by omega) (fun x hx => h.ints_fit _ (List.mem_of_mem_drop hx)) hbl (fun j hj => by
      rw [List.length_drop] at hj
      obtain ⟨b2, o2, he2, _, _, hc, hf⟩ := h.ints_at (k := k + j) (by omega)
      obtain ⟨rfl, rfl⟩ : b = b2 ∧ o = o2 := by simpa using he2
      rw [Nat.add_assoc, gi_eq (by rw [List.length_drop]; omega), List.getElem_drop, ← gi_eq (by omega)]
      exact ⟨hc, hf⟩)
    rw [List.length_drop] at this
    exact ⟨_, this⟩
  · have : xs.length - k = 0 := by omega
    rw [List.drop_of_length_le hge, this]
    exact ⟨_, Rep.ints_nil (by omega)⟩
theorem liveT_step {us : List Us} {k : Nat} (h : k < us.length) (q : Nat) : liveT us (us.length - k) q = lvR us k (liveT us (us.length - (k + 1))) (nthU us k).reads.length q := by
  rw [show us.length - k = (us.length - (k + 1)) + 1 by omega, liveT, show us.length - (us.length - (k + 1) + 1) = k by omega]
theorem last_step {us : List Us} {k j : Nat} {b : Bool} (hj : j < us.length) (h : lastB us k = (b && !((us.drop j).any fun u => decide (u.write = (nthU us k).write)))) :
    lastB us k = ((b && !decide ((nthU us j).write = (nthU us k).write)) && !((us.drop (j + 1)).any fun u => decide (u.write = (nthU us k).write))) := by
  rw [h, ← List.getElem_cons_drop hj, List.any_cons, nthU_eq hj]
  cases b <;> simp

set_option maxRecDepth 100000 in
set_option maxHeartbeats 8000000 in
theorem live_c {w : World} {p : Pgm} {g : Nat} (h : Trc w p g) (hv : progOk p = true) :
    Calls Tryz.prog 48 #[.pointer (some ⟨g, 0, none⟩)] w fun e w' => e = .returned (.slice (some ⟨w.heap.size, 0, none⟩) (usesF p).length (usesF p).length) ∧ w'.rowIs w.heap.size 4 (usesF p).length (fun k => .bool (liveT (usesF p) (usesF p).length k)) ∧ Below w.heap.size w w' := by
  have ul := usesF_len p
  have hul : (usesF p).length ≤ 120 := by rw [ul]; exact (progOk_all hv).2.2
  have HT := Lib.hid h
  obtain ⟨A1, A2, A3, A4, A5, c1, c2, c3, c4, c5, bs, bs3, bs4, bs5, ⟨_, _, x2, _, x4⟩, _, _, _, hw5⟩ := h
  have hw6 : Rep w (ints ((usesF p).map (·.write))) [.slice A5 (usesF p).length c5] bs5 := by
    have e : sls wrD (usesF p) = ints ((usesF p).map (·.write)) := by
      unfold sls ints; rw [List.map_map]; rfl
    rwa [e] at hw5
  have HW := Lib.hid hw6
  have lg := lt_of_cell x2
  rw [← ul] at x2
  have HV := Lib.hid hv
  obtain ⟨us, hus⟩ : ∃ us, us = usesF p := ⟨_, rfl⟩
  have HUS := Lib.hid hus
  rw [← hus] at x2 x4 hul HW ⊢
  clear hw5 hw6 hv hus ul
  have hmk := fun W => run_make_row' (P := Tryz.prog) 69 4 (.bool false) 1 Tryz.underlying69 Tryz.infoBool rfl .i64 .i64 us.length (by omega) (by omega) W
  go_enter Tryz.func48, Tryz.ntmps48
  go_wp2
  clear hmk
  go_loopw [4] (fun i wr => ∃ k : Nat, k ≤ us.length ∧ i = .int .i64 ((k : Int) - 1) ∧ wr.rowIs w.heap.size 4 us.length (fun q => .bool (liveT us (us.length - k) q)) ∧ Below w.heap.size w wr) (fun i _ => (intOf i + 1).toNat)
  case atStart => exact ⟨us.length, Nat.le_refl _, rfl, (World.rowIs_made _ _ _ _).congr (fun q _ => by rw [Nat.sub_self]; rfl), bel⟩
  case round =>
    obtain ⟨k, hk, rfl, hrow, hb⟩ := hrel
    have HROW := Lib.hid hrow; clear hrow
    rcases k with _ | k
    case zero =>
      rw [show ((0 : Nat) : Int) - 1 = -1 from rfl]
      rw [Nat.sub_zero] at HROW
      go_wp2
      go_ret
      exact ⟨rfl, HROW.out, hb⟩
    case succ =>
      rw [show (((k + 1 : Nat) : Int) - 1) = (k : Int) by omega]
      have hlt : k < us.length := hk
      have HST := Lib.hid (fun q => liveT_step hlt q)
      have HCL := Lib.hid (contains_last us k)
      obtain ⟨f, hf⟩ : ∃ f, f = liveT us (us.length - (k + 1)) := ⟨_, rfl⟩
      rw [← hf] at HROW HST
      clear hf
      have hck := HROW.out.cell hlt
      have hfz := HROW.out.frozen k
      have hlg := HROW.out.lt
      have x2r := cell_to x2 hb
      have x4r := cell_to x4 hb
      have lgr := lt_of_cell x4r
      have HWR := Lib.hid (HW.out.below hb)
      obtain ⟨b5, o5, hA5, _, hl5, hkw, _⟩ := HWR.out.ints_at (k := k) (by simpa using hlt)
      rw [show gi (us.map (·.write)) k = (nthU us k).write by rw [gi_eq (by simpa using hlt), nthU_eq hlt]; simp] at hkw
      have HGO := Lib.hid (show lvG us k f = (f k || lastB us k) from rfl)
      have HOFF := Lib.hid (fun h t q => lvR_off (us := us) (i := k) (f := f) h t q)
      subst hA5
      cases hfk : f k with
      | true =>
        rw [hfk] at hck HGO
        have HG := Lib.hid (HGO.out.trans (Bool.true_or _))
        clear hfk
        go_wp2_with fail
        refine wp_region_noPanic ?_
        refine wp_region_held_drew (S := fun w' => w'.cell? ⟨w.heap.size, k, none⟩ = some (.bool true)) (by kernel_rfl) (hck) (fun hHeld => ?_)
        refine goR 0 hHeld ?_
        refine goR 1 hHeld ?_
        refine goR 2 hHeld ?_
        refine goR 3 hHeld ?_
        refine goR 4 hHeld ?_
        refine goR 5 hHeld ?_
        refine goS 6 hHeld ?_
        refine goS 7 hHeld ?_
        refine goS 8 hHeld ?_
        refine goS 9 hHeld ?_
        refine goS 10 hHeld ?_
        refine goS 11 hHeld ?_
        refine goS 12 hHeld ?_
        refine goS 13 hHeld ?_
        refine goS 14 hHeld ?_
        refine goS 15 hHeld ?_
        refine goS 16 hHeld ?_
        refine goS 17 hHeld ?_
        refine goS 18 hHeld ?_
        refine goS 19 hHeld ?_
        refine goS 20 hHeld ?_
        refine goR 21 hHeld ?_
        refine wpAnyH_done (by kernel_rfl) ?_ _
        refine NoPanic.normal ?_
        have HRR := Lib.hid (fun t (ht : t < (nthU us k).reads.length) q => lvR_step (f := f) HG.out ht q)
        have HR0 := Lib.hid ((HROW.out.set k (.bool true)).congr (g := fun q => .bool (lvR us k f 0 q)) (fun q _ => by rw [lvR_0, HG.out]; by_cases e : q = k <;> simp [e]))
        have hrl : (nthU us k).reads.length ≤ 1000000 := by have := usr_len HV.out (t := k) (by rw [← HUS.out]; exact hlt); rwa [← HUS.out] at this
        have HSB := Lib.hid (fun c => srcF_bd us c k)
        have S0 : Below w.heap.size w ((wr.drew).setCell ⟨w.heap.size, k, none⟩ (.bool true)) := bel
        obtain ⟨RD, hRD⟩ : ∃ RD, RD = (nthU us k).reads := ⟨_, rfl⟩
        go_wp2_with fail
        refine (sources_c (HT.out.below S0) HV.out (by rw [← HUS.out]; exact hlt)).mono ?_
        rintro e w2 ⟨A6, n6, c6, bs6, rfl, r6, _, hb6, b6⟩
        have NB6 := Lib.hid (show ∀ y ∈ bs6, y ∉ [w.heap.size] from fun y hy hm => by have h1 := hb6 y hy; rw [List.mem_singleton] at hm; simp [World.setCell] at h1; omega)
        rw [← HUS.out, ← hRD] at r6
        rw [← hRD] at HRR hrl HST
        obtain ⟨rfl, _, _⟩ := r6.ints_len
        rw [List.length_map]
        have HR1 := Lib.hid (show w2.rowIs w.heap.size 4 us.length (fun q => .bool (lvR us k f 0 q)) from row_below (w := (wr.drew).setCell ⟨w.heap.size, k, none⟩ (.bool true)) (HR0.out.of_block rfl) b6)
        have S1 : Below w.heap.size w w2 := below_tr S0 b6
        have R6 := Lib.hid r6
        clear b6 r6 hRD hb6
        go_wp2
        go_loopw [52] (fun i wv => ∃ t : Nat, t ≤ RD.length ∧ i = .int .i64 t ∧ wv.rowIs w.heap.size 4 us.length (fun q => .bool (lvR us k f t q)) ∧ Touch [w.heap.size] w2 wv) (fun i _ => RD.length - (intOf i).toNat)
        case atStart => exact ⟨0, Nat.zero_le _, rfl, HR1.out, Touch.refl _ _⟩
        case round =>
          clear HR1 HROW hck hfz hlg hkw x2r x4r HR0
          obtain ⟨t, ht, rfl, hrow, htc⟩ := hrel
          have HRT := Lib.hid hrow; clear hrow
          have HTC := Lib.hid htc; clear htc
          have Sr : Below w.heap.size w wr := S1.trans (HTC.out.below S1.size (by simp))
          by_cases htt : t < RD.length
          case neg =>
            have htn : t = RD.length := by omega
            subst htn
            have HRF := Lib.hid (HRT.out.congr (g := fun q => .bool (liveT us (us.length - k) q)) (fun q _ => by rw [HST.out q]))
            go_wp2
            go_roundw
            case rel => exact ⟨k, by omega, rfl, HRF.out, Sr⟩
            case measure => simp [intOf]
          have RS := Lib.hid (Rep.keep _ R6.out (HTC.out.keeps fun y hy => ⟨Rep.lt _ R6.out y hy, NB6.out y hy⟩))
          obtain ⟨b7, o7, hA7, _, hl7, hc7, _⟩ := RS.out.ints_at (k := t) (by simpa using htt)
          rw [show gi (RD.map fun c => srcF us c k) t = srcF us RD[t] k by rw [gi_eq (by simpa using htt)]; simp] at hc7
          have hsb := HSB.out RD[t]
          have HRQ := Lib.hid (fun q => HRR.out t htt q)
          obtain ⟨v, hv⟩ : ∃ v, v = srcF us RD[t] k := ⟨_, rfl⟩
          rw [← hv] at hc7 hsb HRQ
          subst hA7
          clear hv
          by_cases h0 : 0 ≤ v
          case pos =>
            obtain ⟨s, rfl⟩ := Int.eq_ofNat_of_zero_le h0
            have hsl : s < us.length := by omega
            have hcs := HRT.out.cell hsl
            have hfs := HRT.out.frozen s
            have hls := HRT.out.lt
            have HR2 := Lib.hid ((HRT.out.set s (.bool true)).congr (g := fun q => .bool (lvR us k f (t + 1) q)) (fun q _ => by
              rw [HRQ.out q]
              by_cases e : q = s
              · rw [if_pos e, if_pos (by omega)]
              · rw [if_neg e, if_neg (by omega)]))
            go_wp2
            go_roundw
            case rel => exact ⟨t + 1, by omega, by go_num, HR2.out, HTC.out.setCell (by simp) _⟩
            case measure => simp [intOf]; omega
          case neg =>
            have HR2 := Lib.hid (HRT.out.congr (g := fun q => .bool (lvR us k f (t + 1) q)) (fun q _ => by rw [HRQ.out q, if_neg (by omega)]))
            go_wp2
            go_roundw
            case rel => exact ⟨t + 1, by omega, by go_num, HR2.out, HTC.out⟩
            case measure => simp [intOf]; omega
      | false =>
        rw [hfk] at hck HGO
        obtain ⟨x, hx⟩ : ∃ x, x = (nthU us k).write := ⟨_, rfl⟩
        rw [← hx] at hkw HCL
        clear hx
        have hc5 := HWR.out.ints_len
        by_cases hcc : c5 = k + 1
        case pos =>
          have hnn : us.length = k + 1 := by have := hc5.2.1; omega
          have hcl := HCL.out
          rw [show (us.map (·.write)).drop (k + 1) = [] from List.drop_of_length_le (by simp; omega)] at hcl
          have hl : lastB us k = true := by
            cases h : lastB us k with
            | true => rfl
            | false => rw [h] at hcl; cases hcl
          have HG := Lib.hid (show lvG us k f = true by rw [HGO.out, hl]; rfl)
          have HC := Lib.hid (show ([] : List Int).contains x = false from rfl)
          have HSUF := Lib.hid (show Rep wr (ints []) [.slice (some ⟨b5, o5, none⟩) (us.length - (k + 1)) 0] [] by rw [show us.length - (k + 1) = 0 by omega]; exact Rep.ints_nil (Nat.zero_le _))
          clear hl hfk hcl hnn hc5
          subst hcc
          go_wp2_with fail
          have s1 : IntKind.i64.wrap ((k : Int) + 1) = (k : Int) + 1 := IntWalk.i64_in _ (by omega)
          have s2 : (k : Int) + 1 ≤ (us.length : Int) := by omega
          have s3 : 0 ≤ (k : Int) + 1 := by omega
          have s4 : ((k : Int) + 1).toNat = k + 1 := by omega
          refine wp_region_noPanic ?_
          refine wp_region_held_drew (S := fun w' => w'.cell? ⟨w.heap.size, k, none⟩ = some (.bool false) ∧ w'.cell? ⟨g, 4, none⟩ = some (.slice (some ⟨b5, o5, none⟩) us.length (k+1)) ∧ w'.cell? ⟨b5, o5 + k, none⟩ = some (.int .i64 x)) (by kernel_rfl) (⟨hck, x4r, hkw⟩) (fun hHeld => ?_)
          refine goR 0 hHeld ?_
          refine goR 1 hHeld ?_
          refine goR 2 hHeld ?_
          refine goR 3 hHeld ?_
          refine goR 4 hHeld ?_
          refine goR 5 hHeld ?_
          refine goG 6 hHeld ?_
          refine goG 7 hHeld ?_
          refine goG 8 hHeld ?_
          refine goG 9 hHeld ?_
          refine goG 10 hHeld ?_
          refine goG 11 hHeld ?_
          refine goG 12 hHeld ?_
          refine goG 13 hHeld ?_
          refine goG 14 hHeld ?_
          refine goG 15 hHeld ?_
          refine goG 16 hHeld ?_
          refine goG 17 hHeld ?_
          refine goG 18 hHeld ?_
          refine goG 19 hHeld ?_
          refine stepR (i := 20) rfl (by kernel_rfl) (by kernel_rfl) (fun K hK => ?_)
          go_simp
          (refine (Contains_int_c (HSUF.out.drewN 1)).mono ?_; rintro e w' ⟨rfl, rfl⟩; rw [HC.out])
          go_wp2_with fail
          refine hK.out _ _ (hHeld) (fun hHeld => ?_)
          clear hK K
          try simp only [Act.put, List.setIfInBounds_toArray, List.set_cons_zero, List.set_cons_succ]
          refine goR 21 hHeld ?_
          refine wpAnyH_done (by kernel_rfl) ?_ _
          refine NoPanic.normal ?_
          clear s1 s2 s3 s4
          have HRR := Lib.hid (fun t (ht : t < (nthU us k).reads.length) q => lvR_step (f := f) HG.out ht q)
          have HR0 := Lib.hid ((HROW.out.set k (.bool true)).congr (g := fun q => .bool (lvR us k f 0 q)) (fun q _ => by rw [lvR_0, HG.out]; by_cases e : q = k <;> simp [e]))
          have hrl : (nthU us k).reads.length ≤ 1000000 := by have := usr_len HV.out (t := k) (by rw [← HUS.out]; exact hlt); rwa [← HUS.out] at this
          have HSB := Lib.hid (fun c => srcF_bd us c k)
          have S0 : Below w.heap.size w ((wr.drew).setCell ⟨w.heap.size, k, none⟩ (.bool true)) := bel
          obtain ⟨RD, hRD⟩ : ∃ RD, RD = (nthU us k).reads := ⟨_, rfl⟩
          go_wp2_with fail
          refine (sources_c (HT.out.below S0) HV.out (by rw [← HUS.out]; exact hlt)).mono ?_
          rintro e w2 ⟨A6, n6, c6, bs6, rfl, r6, _, hb6, b6⟩
          have NB6 := Lib.hid (show ∀ y ∈ bs6, y ∉ [w.heap.size] from fun y hy hm => by have h1 := hb6 y hy; rw [List.mem_singleton] at hm; simp [World.setCell] at h1; omega)
          rw [← HUS.out, ← hRD] at r6
          rw [← hRD] at HRR hrl HST
          obtain ⟨rfl, _, _⟩ := r6.ints_len
          rw [List.length_map]
          have HR1 := Lib.hid (show w2.rowIs w.heap.size 4 us.length (fun q => .bool (lvR us k f 0 q)) from row_below (w := (wr.drew).setCell ⟨w.heap.size, k, none⟩ (.bool true)) (HR0.out.of_block rfl) b6)
          have S1 : Below w.heap.size w w2 := below_tr S0 b6
          have R6 := Lib.hid r6
          clear b6 r6 hRD hb6
          go_wp2
          go_loopw [52] (fun i wv => ∃ t : Nat, t ≤ RD.length ∧ i = .int .i64 t ∧ wv.rowIs w.heap.size 4 us.length (fun q => .bool (lvR us k f t q)) ∧ Touch [w.heap.size] w2 wv) (fun i _ => RD.length - (intOf i).toNat)
          case atStart => exact ⟨0, Nat.zero_le _, rfl, HR1.out, Touch.refl _ _⟩
          case round =>
            clear HR1 HROW hck hfz hlg hkw x2r x4r HR0
            obtain ⟨t, ht, rfl, hrow, htc⟩ := hrel
            have HRT := Lib.hid hrow; clear hrow
            have HTC := Lib.hid htc; clear htc
            have Sr : Below w.heap.size w wr := S1.trans (HTC.out.below S1.size (by simp))
            by_cases htt : t < RD.length
            case neg =>
              have htn : t = RD.length := by omega
              subst htn
              have HRF := Lib.hid (HRT.out.congr (g := fun q => .bool (liveT us (us.length - k) q)) (fun q _ => by rw [HST.out q]))
              go_wp2
              go_roundw
              case rel => exact ⟨k, by omega, rfl, HRF.out, Sr⟩
              case measure => simp [intOf]
            have RS := Lib.hid (Rep.keep _ R6.out (HTC.out.keeps fun y hy => ⟨Rep.lt _ R6.out y hy, NB6.out y hy⟩))
            obtain ⟨b7, o7, hA7, _, hl7, hc7, _⟩ := RS.out.ints_at (k := t) (by simpa using htt)
            rw [show gi (RD.map fun c => srcF us c k) t = srcF us RD[t] k by rw [gi_eq (by simpa using htt)]; simp] at hc7
            have hsb := HSB.out RD[t]
            have HRQ := Lib.hid (fun q => HRR.out t htt q)
            obtain ⟨v, hv⟩ : ∃ v, v = srcF us RD[t] k := ⟨_, rfl⟩
            rw [← hv] at hc7 hsb HRQ
            subst hA7
            clear hv
            by_cases h0 : 0 ≤ v
            case pos =>
              obtain ⟨s, rfl⟩ := Int.eq_ofNat_of_zero_le h0
              have hsl : s < us.length := by omega
              have hcs := HRT.out.cell hsl
              have hfs := HRT.out.frozen s
              have hls := HRT.out.lt
              have HR2 := Lib.hid ((HRT.out.set s (.bool true)).congr (g := fun q => .bool (lvR us k f (t + 1) q)) (fun q _ => by
                rw [HRQ.out q]
                by_cases e : q = s
                · rw [if_pos e, if_pos (by omega)]
                · rw [if_neg e, if_neg (by omega)]))
              go_wp2
              go_roundw
              case rel => exact ⟨t + 1, by omega, by go_num, HR2.out, HTC.out.setCell (by simp) _⟩
              case measure => simp [intOf]; omega
            case neg =>
              have HR2 := Lib.hid (HRT.out.congr (g := fun q => .bool (lvR us k f (t + 1) q)) (fun q _ => by rw [HRQ.out q, if_neg (by omega)]))
              go_wp2
              go_roundw
              case rel => exact ⟨t + 1, by omega, by go_num, HR2.out, HTC.out⟩
              case measure => simp [intOf]; omega
        case neg =>
          obtain ⟨bs', hsuf⟩ := HWR.out.ints_from (k := k + 1) hk
          have HSUF := Lib.hid hsuf; clear hsuf hc5
          cases hl : lastB us k with
          | false =>
            rw [hl] at HGO HCL
            have HC := Lib.hid (HCL.out.trans (show (!false) = true from rfl))
            have HG := Lib.hid (show lvG us k f = false from HGO.out)
            have HR2 := Lib.hid (HROW.out.congr (g := fun q => .bool (liveT us (us.length - k) q)) (fun q _ => by rw [HST.out q, HOFF.out HG.out]))
            clear hl hfk
            go_wp2_with fail
            have s1 : IntKind.i64.wrap ((k : Int) + 1) = (k : Int) + 1 := IntWalk.i64_in _ (by omega)
            have s2 : (k : Int) + 1 ≤ (us.length : Int) := by omega
            have s3 : 0 ≤ (k : Int) + 1 := by omega
            have s4 : ((k : Int) + 1).toNat = k + 1 := by omega
            refine wp_region_noPanic ?_
            refine wp_region_held_drew (S := fun w' => w'.cell? ⟨w.heap.size, k, none⟩ = some (.bool false) ∧ w'.cell? ⟨g, 4, none⟩ = some (.slice (some ⟨b5, o5, none⟩) us.length c5) ∧ w'.cell? ⟨b5, o5 + k, none⟩ = some (.int .i64 x)) (by kernel_rfl) (⟨hck, x4r, hkw⟩) (fun hHeld => ?_)
            refine goR 0 hHeld ?_
            refine goR 1 hHeld ?_
            refine goR 2 hHeld ?_
            refine goR 3 hHeld ?_
            refine goR 4 hHeld ?_
            refine goR 5 hHeld ?_
            refine goG 6 hHeld ?_
            refine goG 7 hHeld ?_
            refine goG 8 hHeld ?_
            refine goG 9 hHeld ?_
            refine goG 10 hHeld ?_
            refine goG 11 hHeld ?_
            refine goG 12 hHeld ?_
            refine goG 13 hHeld ?_
            refine goG 14 hHeld ?_
            refine goG 15 hHeld ?_
            refine goG 16 hHeld ?_
            refine goG 17 hHeld ?_
            refine goG 18 hHeld ?_
            refine goG 19 hHeld ?_
            refine stepR (i := 20) rfl (by kernel_rfl) (by kernel_rfl) (fun K hK => ?_)
            go_simp
            (refine (Contains_int_c (HSUF.out.drewN 1)).mono ?_; rintro e w' ⟨rfl, rfl⟩; rw [HC.out])
            go_wp2_with fail
            refine hK.out _ _ (hHeld) (fun hHeld => ?_)
            clear hK K
            try simp only [Act.put, List.setIfInBounds_toArray, List.set_cons_zero, List.set_cons_succ]
            refine goR 21 hHeld ?_
            refine wpAnyH_done (by kernel_rfl) ?_ _
            refine NoPanic.normal ?_
            clear s1 s2 s3 s4
            go_wp2
            go_roundw
            case rel => exact ⟨k, by omega, rfl, HR2.out.drew, bel⟩
            case measure => simp [intOf]
          | true =>
            rw [hl] at HGO HCL
            have HC := Lib.hid (HCL.out.trans (show (!true) = false from rfl))
            have HG := Lib.hid (show lvG us k f = true from HGO.out)
            clear hl hfk
            go_wp2_with fail
            have s1 : IntKind.i64.wrap ((k : Int) + 1) = (k : Int) + 1 := IntWalk.i64_in _ (by omega)
            have s2 : (k : Int) + 1 ≤ (us.length : Int) := by omega
            have s3 : 0 ≤ (k : Int) + 1 := by omega
            have s4 : ((k : Int) + 1).toNat = k + 1 := by omega
            refine wp_region_noPanic ?_
            refine wp_region_held_drew (S := fun w' => w'.cell? ⟨w.heap.size, k, none⟩ = some (.bool false) ∧ w'.cell? ⟨g, 4, none⟩ = some (.slice (some ⟨b5, o5, none⟩) us.length c5) ∧ w'.cell? ⟨b5, o5 + k, none⟩ = some (.int .i64 x)) (by kernel_rfl) (⟨hck, x4r, hkw⟩) (fun hHeld => ?_)
            refine goR 0 hHeld ?_
            refine goR 1 hHeld ?_
            refine goR 2 hHeld ?_
            refine goR 3 hHeld ?_
            refine goR 4 hHeld ?_
            refine goR 5 hHeld ?_
            refine goG 6 hHeld ?_
            refine goG 7 hHeld ?_
            refine goG 8 hHeld ?_
            refine goG 9 hHeld ?_
            refine goG 10 hHeld ?_
            refine goG 11 hHeld ?_
            refine goG 12 hHeld ?_
            refine goG 13 hHeld ?_
            refine goG 14 hHeld ?_
            refine goG 15 hHeld ?_
            refine goG 16 hHeld ?_
            refine goG 17 hHeld ?_
            refine goG 18 hHeld ?_
            refine goG 19 hHeld ?_
            refine stepR (i := 20) rfl (by kernel_rfl) (by kernel_rfl) (fun K hK => ?_)
            go_simp
            (refine (Contains_int_c (HSUF.out.drewN 1)).mono ?_; rintro e w' ⟨rfl, rfl⟩; rw [HC.out])
            go_wp2_with fail
            refine hK.out _ _ (hHeld) (fun hHeld => ?_)
            clear hK K
            try simp only [Act.put, List.setIfInBounds_toArray, List.set_cons_zero, List.set_cons_succ]
            refine goR 21 hHeld ?_
            refine wpAnyH_done (by kernel_rfl) ?_ _
            refine NoPanic.normal ?_
            clear s1 s2 s3 s4
            have HRR := Lib.hid (fun t (ht : t < (nthU us k).reads.length) q => lvR_step (f := f) HG.out ht q)
            have HR0 := Lib.hid ((HROW.out.set k (.bool true)).congr (g := fun q => .bool (lvR us k f 0 q)) (fun q _ => by rw [lvR_0, HG.out]; by_cases e : q = k <;> simp [e]))
            have hrl : (nthU us k).reads.length ≤ 1000000 := by have := usr_len HV.out (t := k) (by rw [← HUS.out]; exact hlt); rwa [← HUS.out] at this
            have HSB := Lib.hid (fun c => srcF_bd us c k)
            have S0 : Below w.heap.size w ((wr.drew).setCell ⟨w.heap.size, k, none⟩ (.bool true)) := bel
            obtain ⟨RD, hRD⟩ : ∃ RD, RD = (nthU us k).reads := ⟨_, rfl⟩
            go_wp2_with fail
            refine (sources_c (HT.out.below S0) HV.out (by rw [← HUS.out]; exact hlt)).mono ?_
            rintro e w2 ⟨A6, n6, c6, bs6, rfl, r6, _, hb6, b6⟩
            have NB6 := Lib.hid (show ∀ y ∈ bs6, y ∉ [w.heap.size] from fun y hy hm => by have h1 := hb6 y hy; rw [List.mem_singleton] at hm; simp [World.setCell] at h1; omega)
            rw [← HUS.out, ← hRD] at r6
            rw [← hRD] at HRR hrl HST
            obtain ⟨rfl, _, _⟩ := r6.ints_len
            rw [List.length_map]
            have HR1 := Lib.hid (show w2.rowIs w.heap.size 4 us.length (fun q => .bool (lvR us k f 0 q)) from row_below (w := (wr.drew).setCell ⟨w.heap.size, k, none⟩ (.bool true)) (HR0.out.of_block rfl) b6)
            have S1 : Below w.heap.size w w2 := below_tr S0 b6
            have R6 := Lib.hid r6
            clear b6 r6 hRD hb6
            go_wp2
            go_loopw [52] (fun i wv => ∃ t : Nat, t ≤ RD.length ∧ i = .int .i64 t ∧ wv.rowIs w.heap.size 4 us.length (fun q => .bool (lvR us k f t q)) ∧ Touch [w.heap.size] w2 wv) (fun i _ => RD.length - (intOf i).toNat)
            case atStart => exact ⟨0, Nat.zero_le _, rfl, HR1.out, Touch.refl _ _⟩
            case round =>
              clear HR1 HROW hck hfz hlg hkw x2r x4r HR0
              obtain ⟨t, ht, rfl, hrow, htc⟩ := hrel
              have HRT := Lib.hid hrow; clear hrow
              have HTC := Lib.hid htc; clear htc
              have Sr : Below w.heap.size w wr := S1.trans (HTC.out.below S1.size (by simp))
              by_cases htt : t < RD.length
              case neg =>
                have htn : t = RD.length := by omega
                subst htn
                have HRF := Lib.hid (HRT.out.congr (g := fun q => .bool (liveT us (us.length - k) q)) (fun q _ => by rw [HST.out q]))
                go_wp2
                go_roundw
                case rel => exact ⟨k, by omega, rfl, HRF.out, Sr⟩
                case measure => simp [intOf]
              have RS := Lib.hid (Rep.keep _ R6.out (HTC.out.keeps fun y hy => ⟨Rep.lt _ R6.out y hy, NB6.out y hy⟩))
              obtain ⟨b7, o7, hA7, _, hl7, hc7, _⟩ := RS.out.ints_at (k := t) (by simpa using htt)
              rw [show gi (RD.map fun c => srcF us c k) t = srcF us RD[t] k by rw [gi_eq (by simpa using htt)]; simp] at hc7
              have hsb := HSB.out RD[t]
              have HRQ := Lib.hid (fun q => HRR.out t htt q)
              obtain ⟨v, hv⟩ : ∃ v, v = srcF us RD[t] k := ⟨_, rfl⟩
              rw [← hv] at hc7 hsb HRQ
              subst hA7
              clear hv
              by_cases h0 : 0 ≤ v
              case pos =>
                obtain ⟨s, rfl⟩ := Int.eq_ofNat_of_zero_le h0
                have hsl : s < us.length := by omega
                have hcs := HRT.out.cell hsl
                have hfs := HRT.out.frozen s
                have hls := HRT.out.lt
                have HR2 := Lib.hid ((HRT.out.set s (.bool true)).congr (g := fun q => .bool (lvR us k f (t + 1) q)) (fun q _ => by
                  rw [HRQ.out q]
                  by_cases e : q = s
                  · rw [if_pos e, if_pos (by omega)]
                  · rw [if_neg e, if_neg (by omega)]))
                go_wp2
                go_roundw
                case rel => exact ⟨t + 1, by omega, by go_num, HR2.out, HTC.out.setCell (by simp) _⟩
                case measure => simp [intOf]; omega
              case neg =>
                have HR2 := Lib.hid (HRT.out.congr (g := fun q => .bool (lvR us k f (t + 1) q)) (fun q _ => by rw [HRQ.out q, if_neg (by omega)]))
                go_wp2
                go_roundw
                case rel => exact ⟨t + 1, by omega, by go_num, HR2.out, HTC.out⟩
                case measure => simp [intOf]; omega
set_option maxRecDepth 100000 in
set_option maxHeartbeats 4000000 in
theorem implLiveInstances_c {w : World} {p : Pgm} {cs : List Value} {bs : List Nat} (h : Rep w p.d cs bs) :
    Calls Tryz.prog 21 #[.agg cs.toArray] w (MadeInts w (LiveF p)) := by
  have HP := Lib.hid h
  obtain ⟨A1, c1, A2, c2, d1, d2, rfl, rfl, g1, g2⟩ := Rep.pgm_iff.1 h
  have Garrays := Lib.hid g1
  have Gparts := Lib.hid g2
  clear h g1 g2
  cases hv : progOk p with
  | false =>
    rw [LiveF_n hv]
    have HV := Lib.hid hv; clear hv
    go_enter Tryz.func21, Tryz.ntmps21
    go_wp2_with fail
    refine (trace_n (HP.out.below bel) HV.out).mono ?_
    rintro e w1 ⟨rfl, b1⟩
    have S1 : Below w.heap.size w w1 := bel
    go_wp2
    go_ret
    exact MadeInts.nil S1
  | true =>
    rw [LiveF_y hv]
    have hul : (usesF p).length ≤ 120 := by rw [usesF_len]; exact (progOk_all hv).2.2
    have HV := Lib.hid hv; clear hv
    go_enter Tryz.func21, Tryz.ntmps21
    go_wp2_with fail
    refine (trace_y (HP.out.below bel) HV.out).mono ?_
    rintro e w1 ⟨g, rfl, ht1, _, b1⟩
    have S1 : Below w.heap.size w w1 := bel
    have HT := Lib.hid ht1
    clear ht1 b1
    go_wp2_with fail
    refine (live_c HT.out HV.out).mono ?_
    rintro e w2 ⟨rfl, hrow, b2⟩
    have HR := Lib.hid hrow; clear hrow
    go_wp2_with fail
    refine (chosen_c HR.out (by omega)).mono ?_
    rintro e w3 h3
    obtain ⟨A4, n4, c4, bs4, rfl, h4⟩ := h3.low (below_tr S1 b2)
    go_wp2
    go_ret
    exact ⟨A4, n4, c4, bs4, rfl, h4⟩
set_option maxRecDepth 100000 in
set_option maxHeartbeats 8000000 in
theorem specLiveInstances_c {w : World} {p : Pgm} {cs : List Value} {bs : List Nat} (h : Rep w p.d cs bs) :
    Calls Tryz.prog 20 #[.agg cs.toArray] w (MadeInts w (LiveF p)) := by
  have HP := Lib.hid h
  obtain ⟨A1, c1, A2, c2, d1, d2, rfl, rfl, g1, g2⟩ := Rep.pgm_iff.1 h
  have Garrays := Lib.hid g1
  have Gparts := Lib.hid g2
  clear h g1 g2
  go_enter Tryz.func20, Tryz.ntmps20
  go_wp2_with fail
  refine (specProgramValid_c (HP.out.below bel)).mono ?_
  rintro e w1 ⟨rfl, b1⟩
  have P1 : Box2 w1 w.heap.size (.slice A1 p.arrays.length c1) (.slice A2 p.parts.length c2) := by
    refine ⟨?_, ?_⟩ <;> (rw [b1.cell (by simp [World.setCell]; try omega)]; go_simp)
  have S1 : Below w.heap.size w w1 := bel
  clear b1
  cases hv : progOk p with
  | false =>
    have HE := Lib.hid (LiveF_n hv); clear hv
    go_wp2
    go_ret
    rw [HE.out]
    exact MadeInts.made S1 _
  | true =>
    have HE := Lib.hid (LiveF_y hv)
    have hul : (usesF p).length ≤ 120 := by rw [usesF_len]; exact (progOk_all hv).2.2
    have HRLX := Lib.hid (fun (k : Nat) (h2 : k < (usesF p).length) => usr_len hv h2)
    have HV := Lib.hid hv; clear hv
    go_wp2_with fail
    refine (l6Uses_c (HP.out.below bel) HV.out).mono ?_
    rintro e w2 ⟨A3, c3, bs3, rfl, r2, hb23, b2⟩
    have s2 : Below w1.heap.size w1 w2 := bel
    have P2 := P1.to s2; clear P1
    have S2 : Below w.heap.size w w2 := below_tr S1 s2
    clear s2
    have R2 := Lib.hid r2; clear r2 hb23 b2
    obtain ⟨us, hus⟩ : ∃ us, us = usesF p := ⟨_, rfl⟩
    rw [← hus] at R2 hul HE HRLX ⊢
    clear hus
    have hmk := fun W => run_make_row' (P := Tryz.prog) 69 4 (.bool false) 1 Tryz.underlying69 Tryz.infoBool rfl .i64 .i64 us.length (by omega) (by omega) W
    have hs2 := S2.size
    go_wp2
    clear hmk
    go_loopw [5] (fun i wr => ∃ k : Nat, k ≤ us.length ∧ i = .int .i64 ((k : Int) - 1) ∧ wr.rowIs w2.heap.size 4 us.length (fun q => .bool (liveT us (us.length - k) q)) ∧ Below w2.heap.size w2 wr) (fun i _ => (intOf i + 1).toNat)
    case atStart => exact ⟨us.length, Nat.le_refl _, rfl, (World.rowIs_made _ _ _ _).congr (fun q _ => by rw [Nat.sub_self]; rfl), bel⟩
    case round =>
      obtain ⟨k, hk, rfl, hrow, hb⟩ := hrel
      have HROW := Lib.hid hrow; clear hrow
      rcases k with _ | k
      case zero =>
        rw [show ((0 : Nat) : Int) - 1 = -1 from rfl]
        rw [Nat.sub_zero] at HROW
        go_wp2_with fail
        refine (l5Flagged_c HROW.out (by omega)).mono ?_
        rintro e w3 h3
        obtain ⟨A4, n4, c4, bs4, rfl, h4⟩ := h3.low (below_tr S2 hb)
        go_wp2
        go_ret
        rw [HE.out]
        exact ⟨A4, n4, c4, bs4, rfl, h4⟩
      case succ =>
        rw [show (((k + 1 : Nat) : Int) - 1) = (k : Int) by omega]
        have hlt : k < us.length := hk
        have HST := Lib.hid (fun q => liveT_step hlt q)
        obtain ⟨f, hf⟩ : ∃ f, f = liveT us (us.length - (k + 1)) := ⟨_, rfl⟩
        rw [← hf] at HROW HST
        clear hf
        have HGO := Lib.hid (show lvG us k f = (f k || lastB us k) from rfl)
        have HOFF := Lib.hid (fun h t q => lvR_off (us := us) (i := k) (f := f) h t q)
        have HRR := Lib.hid (fun (hg : lvG us k f = true) t (ht : t < (nthU us k).reads.length) q => lvR_step (f := f) hg ht q)
        have HLS := Lib.hid (fun j b (hj : j < us.length) h => last_step (us := us) (k := k) (j := j) (b := b) hj h)
        have HRL := HRLX.out k hlt
        have hcx := HROW.out.cell hlt
        have hfz := HROW.out.frozen k
        have hlg := HROW.out.lt
        obtain ⟨b4, o4, cs4, l4, he4, hl4, h4, _, _, hc4⟩ := R2.out.sls_at Us.d_size (k := k) hlt
        subst he4
        rw [← nthU_eq hlt] at h4
        obtain ⟨A6, c6, d6, rfl, rfl, r6, _⟩ := Rep.us_iff.1 h4
        have k0w := (hc4 0 _ rfl).1
        have k1w := (hc4 1 _ rfl).1
        rw [Nat.add_zero] at k0w
        have R6 := Lib.hid r6
        clear hc4 h4 r6
        obtain ⟨x, hx⟩ : ∃ x, x = (nthU us k).write := ⟨_, rfl⟩
        rw [← hx] at k1w HLS
        obtain ⟨RD, hRD⟩ : ∃ RD, RD = (nthU us k).reads := ⟨_, rfl⟩
        rw [← hRD] at k0w R6 HRL HST HRR
        have k0 := cell_to k0w hb
        have k1 := cell_to k1w hb
        have HL0 := Lib.hid (show lastB us k = (true && !((us.drop (k + 1)).any fun u => decide (u.write = x))) by rw [hx]; rfl)
        clear hx hRD
        obtain ⟨wo, rfl⟩ : ∃ wo : World, wo = wr := ⟨_, rfl⟩
        go_wp2
        go_loopw [6, 7] (fun u i wv => ∃ (j : Nat) (b : Bool), k + 1 ≤ j ∧ j ≤ us.length ∧ i = .int .i64 j ∧ u = .bool b ∧ lastB us k = (b && !((us.drop j).any fun u => decide (u.write = x))) ∧ ∃ nq, wv = wo.drewN nq) (fun _ i _ => us.length - (intOf i).toNat)
        case atStart => exact ⟨k + 1, true, Nat.le_refl _, hlt, by go_num, rfl, HL0.out, 0, rfl⟩
        case round =>
          obtain ⟨j, b, hkj, hj, rfl, rfl, hlb, nq, rfl⟩ := hrel
          have HLB := Lib.hid hlb; clear hlb
          by_cases hjt : j < us.length
          case pos =>
            obtain ⟨b7, o7, cs7, l7, he7, hl7, h7, _, _, hc7⟩ := R2.out.sls_at Us.d_size (k := j) hjt
            obtain ⟨rfl, rfl⟩ : b4 = b7 ∧ o4 = o7 := by simpa using he7
            rw [← nthU_eq hjt] at h7
            obtain ⟨A8, c8, d8, rfl, rfl, _⟩ := Rep.us_iff.1 h7
            have m1 := cell_to (hc7 1 _ rfl).1 hb
            clear hc7 h7 he7
            have HN := Lib.hid (HLS.out j b hjt HLB.out)
            cases b with
            | false =>
              go_wp2_with fail
              go_quiet (fail)
              go_wp2
              go_roundw
              case rel => exact ⟨j + 1, false, by omega, by omega, by go_num, rfl, HN.out, _, rfl⟩
              case measure => simp [intOf]; omega
            | true =>
              by_cases hw : (nthU us j).write = x
              case pos =>
                have q : ((nthU us j).write != x) = false := ine_f hw
                have HN2 := Lib.hid (HN.out.trans (by rw [decide_eq_true hw]; rfl : _ = (false && !((us.drop (j + 1)).any fun u => decide (u.write = x)))))
                clear hw
                go_wp2_with fail
                go_quiet (fail)
                go_wp2
                go_roundw
                case rel => exact ⟨j + 1, false, by omega, by omega, by go_num, rfl, HN2.out, _, rfl⟩
                case measure => simp [intOf]; omega
              case neg =>
                have q : ((nthU us j).write != x) = true := ine_t hw
                have HN2 := Lib.hid (HN.out.trans (by rw [decide_eq_false hw]; rfl : _ = (true && !((us.drop (j + 1)).any fun u => decide (u.write = x)))))
                clear hw
                go_wp2_with fail
                go_quiet (fail)
                go_wp2
                go_roundw
                case rel => exact ⟨j + 1, true, by omega, by omega, by go_num, rfl, HN2.out, _, rfl⟩
                case measure => simp [intOf]; omega
          have hjj : us.length = j := by omega
          have HB := Lib.hid (show lastB us k = b by rw [HLB.out, List.drop_of_length_le (by omega)]; cases b <;> rfl)
          have HGB := Lib.hid (show lvG us k f = (f k || b) by rw [HGO.out, HB.out])
          clear HLB HL0 HLS HB HGO hjj
          have hb0 : Below w2.heap.size w2 (wo.drewN nq) := below_drewN hb _
          cases hfk : f k with
          | true =>
            have HG := Lib.hid (show lvG us k f = true by rw [HGB.out, hfk]; rfl)
            rw [hfk] at hcx
            clear hfk
            go_wp2
            have HR0 := Lib.hid ((HROW.out.set k (.bool true)).congr (g := fun q => .bool (lvR us k f 0 q)) (fun q _ => by rw [lvR_0, HG.out]; by_cases e : q = k <;> simp [e]))
            have HRK := Lib.hid (fun t => show lvR us k f t k = true by unfold lvR; rw [if_pos rfl]; exact HG.out)
            go_loopw [8] (fun i wv => ∃ t : Nat, t ≤ RD.length ∧ i = .int .i64 t ∧ wv.rowIs w2.heap.size 4 us.length (fun q => .bool (lvR us k f t q)) ∧ Below w2.heap.size w2 wv) (fun i _ => RD.length - (intOf i).toNat)
            case atStart => exact ⟨0, Nat.zero_le _, rfl, HR0.out.of_block rfl, bel⟩
            case round =>
              clear HR0 HROW hcx hfz hlg k0 k1 hb0
              obtain ⟨t, ht, rfl, hrow, hbt⟩ := hrel
              have HRT := Lib.hid hrow; clear hrow
              have k0 := cell_to k0w hbt
              have hcx := HRT.out.cell hlt
              rw [HRK.out t] at hcx
              have hlg := HRT.out.lt
              by_cases htt : t < RD.length
              case neg =>
                have htn : t = RD.length := by omega
                subst htn
                have HRF := Lib.hid (HRT.out.congr (g := fun q => .bool (liveT us (us.length - k) q)) (fun q _ => by rw [HST.out q]))
                go_wp2
                go_roundw
                case rel => exact ⟨k, by omega, rfl, HRF.out, hbt⟩
                case measure => simp [intOf]
              obtain ⟨b9, o9, hA9, _, hl9, hc9, _⟩ := (R6.out.below hbt).ints_at (k := t) htt
              rw [gi_eq htt] at hc9
              subst hA9
              have hsb := srcF_bd us RD[t] k
              have HRQ := Lib.hid (fun q => HRR.out HG.out t htt q)
              obtain ⟨x, hx⟩ : ∃ x, x = RD[t] := ⟨_, rfl⟩
              rw [← hx] at hc9 hsb HRQ
              obtain ⟨v, hv⟩ : ∃ v, v = srcF us x k := ⟨_, rfl⟩
              rw [← hv] at hsb HRQ
              have HVV := Lib.hid hv
              clear hx hv
              by_cases h0 : 0 ≤ v
              case pos =>
                obtain ⟨s, rfl⟩ := Int.eq_ofNat_of_zero_le h0
                have hsl : s < us.length := by omega
                have hcs := HRT.out.cell hsl
                have hfs := HRT.out.frozen s
                have HR2 := Lib.hid ((HRT.out.set s (.bool true)).congr (g := fun q => .bool (lvR us k f (t + 1) q)) (fun q _ => by
                  rw [HRQ.out q]
                  by_cases e : q = s
                  · rw [if_pos e, if_pos (by omega)]
                  · rw [if_neg e, if_neg (by omega)]))
                go_wp2_with fail
                refine (l6Source_c (R2.out.below hbt) (by omega) hul).mono ?_
                rintro e w' ⟨rfl, rfl⟩
                rw [← HVV.out]
                go_wp2
                go_roundw
                case rel => exact ⟨t + 1, by omega, by go_num, HR2.out, bel⟩
                case measure => simp [intOf]; omega
              case neg =>
                have HR2 := Lib.hid (HRT.out.congr (g := fun q => .bool (lvR us k f (t + 1) q)) (fun q _ => by rw [HRQ.out q, if_neg (by omega)]))
                go_wp2_with fail
                refine (l6Source_c (R2.out.below hbt) (by omega) hul).mono ?_
                rintro e w' ⟨rfl, rfl⟩
                rw [← HVV.out]
                go_wp2
                go_roundw
                case rel => exact ⟨t + 1, by omega, by go_num, HR2.out, hbt⟩
                case measure => simp [intOf]; omega
          | false =>
            rw [hfk] at hcx
            cases b with
            | true =>
              have HG := Lib.hid (show lvG us k f = true by rw [HGB.out, hfk]; rfl)
              clear hfk
              go_wp2
              have HR0 := Lib.hid ((HROW.out.set k (.bool true)).congr (g := fun q => .bool (lvR us k f 0 q)) (fun q _ => by rw [lvR_0, HG.out]; by_cases e : q = k <;> simp [e]))
              have HRK := Lib.hid (fun t => show lvR us k f t k = true by unfold lvR; rw [if_pos rfl]; exact HG.out)
              go_loopw [8] (fun i wv => ∃ t : Nat, t ≤ RD.length ∧ i = .int .i64 t ∧ wv.rowIs w2.heap.size 4 us.length (fun q => .bool (lvR us k f t q)) ∧ Below w2.heap.size w2 wv) (fun i _ => RD.length - (intOf i).toNat)
              case atStart => exact ⟨0, Nat.zero_le _, rfl, HR0.out.of_block rfl, bel⟩
              case round =>
                clear HR0 HROW hcx hfz hlg k0 k1 hb0
                obtain ⟨t, ht, rfl, hrow, hbt⟩ := hrel
                have HRT := Lib.hid hrow; clear hrow
                have k0 := cell_to k0w hbt
                have hcx := HRT.out.cell hlt
                rw [HRK.out t] at hcx
                have hlg := HRT.out.lt
                by_cases htt : t < RD.length
                case neg =>
                  have htn : t = RD.length := by omega
                  subst htn
                  have HRF := Lib.hid (HRT.out.congr (g := fun q => .bool (liveT us (us.length - k) q)) (fun q _ => by rw [HST.out q]))
                  go_wp2
                  go_roundw
                  case rel => exact ⟨k, by omega, rfl, HRF.out, hbt⟩
                  case measure => simp [intOf]
                obtain ⟨b9, o9, hA9, _, hl9, hc9, _⟩ := (R6.out.below hbt).ints_at (k := t) htt
                rw [gi_eq htt] at hc9
                subst hA9
                have hsb := srcF_bd us RD[t] k
                have HRQ := Lib.hid (fun q => HRR.out HG.out t htt q)
                obtain ⟨x, hx⟩ : ∃ x, x = RD[t] := ⟨_, rfl⟩
                rw [← hx] at hc9 hsb HRQ
                obtain ⟨v, hv⟩ : ∃ v, v = srcF us x k := ⟨_, rfl⟩
                rw [← hv] at hsb HRQ
                have HVV := Lib.hid hv
                clear hx hv
                by_cases h0 : 0 ≤ v
                case pos =>
                  obtain ⟨s, rfl⟩ := Int.eq_ofNat_of_zero_le h0
                  have hsl : s < us.length := by omega
                  have hcs := HRT.out.cell hsl
                  have hfs := HRT.out.frozen s
                  have HR2 := Lib.hid ((HRT.out.set s (.bool true)).congr (g := fun q => .bool (lvR us k f (t + 1) q)) (fun q _ => by
                    rw [HRQ.out q]
                    by_cases e : q = s
                    · rw [if_pos e, if_pos (by omega)]
                    · rw [if_neg e, if_neg (by omega)]))
                  go_wp2_with fail
                  refine (l6Source_c (R2.out.below hbt) (by omega) hul).mono ?_
                  rintro e w' ⟨rfl, rfl⟩
                  rw [← HVV.out]
                  go_wp2
                  go_roundw
                  case rel => exact ⟨t + 1, by omega, by go_num, HR2.out, bel⟩
                  case measure => simp [intOf]; omega
                case neg =>
                  have HR2 := Lib.hid (HRT.out.congr (g := fun q => .bool (lvR us k f (t + 1) q)) (fun q _ => by rw [HRQ.out q, if_neg (by omega)]))
                  go_wp2_with fail
                  refine (l6Source_c (R2.out.below hbt) (by omega) hul).mono ?_
                  rintro e w' ⟨rfl, rfl⟩
                  rw [← HVV.out]
                  go_wp2
                  go_roundw
                  case rel => exact ⟨t + 1, by omega, by go_num, HR2.out, hbt⟩
                  case measure => simp [intOf]; omega
            | false =>
              have HG := Lib.hid (show lvG us k f = false by rw [HGB.out, hfk]; rfl)
              have HRF := Lib.hid ((HROW.out.set k (.bool false)).congr (g := fun q => .bool (liveT us (us.length - k) q)) (fun q _ => by
                rw [HST.out q, HOFF.out HG.out]
                by_cases e : q = k
                · rw [if_pos e, e, hfk]
                · rw [if_neg e]))
              clear hfk
              go_wp2
              go_loopw [8] (fun i wv => i = .int .i64 0 ∧ wv = (wo.drewN nq).setCell ⟨w2.heap.size, k, none⟩ (.bool false)) (fun _ _ => 0)
              case atStart => exact ⟨rfl, rfl⟩
              case round =>
                obtain ⟨rfl, rfl⟩ := hrel
                by_cases hl0 : 0 < RD.length
                case pos =>
                  go_wp2
                  go_roundw
                  case rel => exact ⟨k, by omega, rfl, HRF.out.of_block rfl, bel⟩
                  case measure => simp [intOf]
                case neg =>
                  go_wp2
                  go_roundw
                  case rel => exact ⟨k, by omega, rfl, HRF.out.of_block rfl, bel⟩
                  case measure => simp [intOf]
end Go.Proofs.YtimocdpfnncnlaaGreat

/- The law FnExactLiveInstances: its walk. Printed by lawgen.py. -/
namespace Go.Proofs.YtimocdpfnncnlaaGreat
open Go.ChangeShapes Go.WideShapes Go.ChangeAt Go.RowKit Go.Deep

set_option maxRecDepth 100000 in
set_option maxHeartbeats 2000000 in
theorem FnExactLiveInstances_walk {w : World} {x0 : Pgm} {A1_0 : Option Addr} {c1_0 : Nat} {A2_0 : Option Addr} {c2_0 : Nat} {bs0 : List Nat} (h0 : Rep w x0.d [.slice A1_0 x0.arrays.length c1_0, .slice A2_0 x0.parts.length c2_0] bs0) :
    Calls Tryz.prog 5 #[.agg #[.slice A1_0 x0.arrays.length c1_0, .slice A2_0 x0.parts.length c2_0]] w fun e w' => e = .returned (.bool true) ∧ Below w.heap.size w w' := by
  have H0 := Lib.hid h0; clear h0
  by_cases hs0 : (1048576 : Int) - ((szD x0.d : Nat) : Int) < 0
  · have HS0 := Lib.hid (szR_neg hs0)
    go_enter Tryz.func5, Tryz.ntmps5
    go_wp2_with fail
    refine (szProgram_t (H0.out.below bel) (by omega) (by omega)).mono ?_
    rintro e v1 ⟨rfl, bv1⟩
    rw [HS0.out]
    go_wp2
    go_ret
    exact ⟨rfl, bel⟩
  · have HS0 := Lib.hid (szR_pos (left := 1048576) (tot := szD x0.d) (by omega))
    have HN0 := Lib.hid (show szD x0.d ≤ 1048576 by omega)
    have hl0 : 0 ≤ (1048576 : Int) - ((szD x0.d : Nat) : Int) := by omega
    clear hs0
    have HL := Lib.hid (LiveF_len x0)
    go_enter Tryz.func5, Tryz.ntmps5
    have TA0 := Lib.hid (Rep.lt _ H0.out)
    go_wp2_with fail
    refine (szProgram_t (H0.out.below bel) (by omega) (by omega)).mono ?_
    rintro e w1 ⟨rfl, b1⟩
    rw [HS0.out]
    have P0_1n := (Box2.new w _ _ _).to b1
    have s1 : Below w.heap.size w w1 := bel
    have RA0_1 := Lib.hid (H0.out.below s1); clear H0
    have S1 : Below w.heap.size w w1 := s1
    have Z1 := Lib.hid (s1.size)
    have LP0 := Lib.hid (lt_of_cell P0_1n.1)
    go_wp2_with fail
    refine (toProgram_m (RA0_1.out.below bel) HN0.out).mono ?_
    rintro e w2 ⟨A1_2, c1_2, A2_2, c2_2, bs2, rfl, r2, nd2, hb2, b2⟩
    have Tc0 := Lib.hid (show ∀ y ∈ bs2, w1.heap.size + 0 ≤ y ∧ y < w2.heap.size from fun y hy => ⟨by have := hb2 y hy; (try simp at this); omega, Rep.lt _ r2 y hy⟩)
    have P0_2 := P0_1n.to b2; clear P0_1n
    have RA0_2 := Lib.hid (RA0_1.out.below b2); clear RA0_1
    have S2 : Below w.heap.size w w2 := below_tr S1 b2
    have Z2 := Lib.hid (b2.size)
    have r2h := Lib.hid r2; clear r2 hb2
    clear nd2
    go_wp2_with fail
    refine (specLiveInstances_c (r2h.out.below bel)).mono ?_
    rintro e w3 ⟨A3, n3, c3, bs3, rfl, r3, nd3, hb3, b3⟩
    have Tw0 := Lib.hid (show ∀ y ∈ bs3, y < w3.heap.size from Rep.lt _ r3)
    have P0_3 := P0_2.to b3; clear P0_2
    have RA0_3 := Lib.hid (RA0_2.out.below b3); clear RA0_2
    have Rc0_3 := Lib.hid (r2h.out.below b3); clear r2h
    have S3 : Below w.heap.size w w3 := below_tr S2 b3
    have Z3 := Lib.hid (b3.size)
    have r3h := Lib.hid r3; clear r3 hb3 nd3
    go_wp2_with fail
    refine (toProgram_m (RA0_3.out.below bel) HN0.out).mono ?_
    rintro e w4 ⟨A1_4, c1_4, A2_4, c2_4, bs4, rfl, r4, nd4, hb4, b4⟩
    have Tx0 := Lib.hid (show ∀ y ∈ bs4, w3.heap.size + 0 ≤ y ∧ y < w4.heap.size from fun y hy => ⟨by have := hb4 y hy; (try simp at this); omega, Rep.lt _ r4 y hy⟩)
    have P0_4 := P0_3.to b4; clear P0_3
    have RA0_4 := Lib.hid (RA0_3.out.below b4); clear RA0_3
    have Rw0_4 := Lib.hid (r3h.out.below b4); clear r3h
    have S4 : Below w.heap.size w w4 := below_tr S3 b4
    have Z4 := Lib.hid (b4.size)
    have r4h := Lib.hid r4; clear r4 hb4
    have ltP0_4 := lt_of_cell P0_4.1
    go_wp2_with fail
    refine (implLiveInstances_c (r4h.out.below bel)).mono ?_
    rintro e w5 ⟨A5, n5, c5, bs5, rfl, r5, nd5, hb5, b5⟩
    have Tg0 := Lib.hid (show ∀ y ∈ bs5, w4.heap.size + 1 ≤ y ∧ y < w5.heap.size from fun y hy => ⟨by have := hb5 y hy; (try simp at this); omega, Rep.lt _ r5 y hy⟩)
    have X0_5n := (Box2.new w4 _ _ _).to b5
    have s5 : Below w4.heap.size w4 w5 := bel
    have P0_5 := P0_4.to s5; clear P0_4
    have RA0_5 := Lib.hid (RA0_4.out.below s5); clear RA0_4
    have Rw0_5 := Lib.hid (Rw0_4.out.below s5); clear Rw0_4
    have Rx0_5 := Lib.hid (r4h.out.below s5); clear r4h
    have S5 : Below w.heap.size w w5 := below_tr S4 s5
    have Z5 := Lib.hid (s5.size)
    have LX0 := Lib.hid (lt_of_cell X0_5n.1)
    have r5h := Lib.hid r5; clear r5 hb5
    go_wp2_with fail
    refine (eqIntS_b (r5h.out.below bel) (Rw0_5.out.below bel)).mono ?_
    rintro e w6 ⟨rfl, b6⟩
    have P0_6 := P0_5.to b6; clear P0_5
    have X0_6 := X0_5n.to b6; clear X0_5n
    have RA0_6 := Lib.hid (RA0_5.out.below b6); clear RA0_5
    have Rw0_6 := Lib.hid (Rw0_5.out.below b6); clear Rw0_5
    have Rx0_6 := Lib.hid (Rx0_5.out.below b6); clear Rx0_5
    have Rg0_6 := Lib.hid (r5h.out.below b6); clear r5h
    have S6 : Below w.heap.size w w6 := below_tr S5 b6
    have Z6 := Lib.hid (b6.size)
    go_wp2_with fail
    go_region_held3 (fun w' => Box2 w' w.heap.size (.slice A1_0 x0.arrays.length c1_0) (.slice A2_0 x0.parts.length c2_0) ∧ Box2 w' w4.heap.size (.slice A1_4 x0.arrays.length c1_4) (.slice A2_4 x0.parts.length c2_4)) (first | exact ⟨P0_6, X0_6⟩ | exact ⟨P0_6.to (of_drew b7), X0_6.to (of_drew b7)⟩ | exact ⟨(P0_6.to (of_drew b7)).to b8, (X0_6.to (of_drew b7)).to b8⟩ | skip)
      (first | (go_at_call 11; refine (toProgram_m (RA0_6.out.below (Below.refl _ _).drew) HN0.out).mono ?_; rintro e w7 ⟨A1_7, c1_7, A2_7, c2_7, bs7, rfl, r7, nd7, hb7, b7⟩) | (go_at_call 13; refine (eqProgram_c (Rx0_6.out.below (of_drew b7)) r7).mono ?_; rintro e w8 ⟨rfl, b8⟩))
    have t8 : Below w6.heap.size w6 w8 := below_tr (of_drew b7) b8
    clear b7 b8 r7 hb7 nd7
    have P0_8 := P0_6.to t8; clear P0_6
    have X0_8 := X0_6.to t8; clear X0_6
    have RA0_8 := Lib.hid (RA0_6.out.below t8); clear RA0_6
    have Rw0_8 := Lib.hid (Rw0_6.out.below t8); clear Rw0_6
    have Rx0_8 := Lib.hid (Rx0_6.out.below t8); clear Rx0_6
    have Rg0_8 := Lib.hid (Rg0_6.out.below t8); clear Rg0_6
    have S8 : Below w.heap.size w w8 := below_tr S6 t8
    have Z8 := Lib.hid (t8.size)
    have hcnt : (LiveF x0).length ≤ 1000000 := HL.out
    have hn0c : Pgm.cntM x0 ≤ 10000000 := by have := HN0.out; have := Pgm.cntM_le x0; omega
    go_wp2_with fail
    refine (markProgram_n Rx0_8.out nd4 (q := 1) (by omega) (by omega)).mono ?_
    rintro e w9 ⟨rfl, r9, t9⟩
    have m9h := Lib.hid r9; clear r9
    have P0_9 := t9.box2 P0_8 (fun hm => by have h1 := Tx0.out _ hm; have q0 := Z1.out; have q1 := LP0.out; have q2 := Z2.out; have q3 := Z3.out; have q4 := Z4.out; have q5 := Z5.out; have q6 := LX0.out; have q7 := Z6.out; have q8 := Z8.out; omega); clear P0_8
    have X0_9 := t9.box2 X0_8 (fun hm => by have h1 := Tx0.out _ hm; have q0 := Z1.out; have q1 := LP0.out; have q2 := Z2.out; have q3 := Z3.out; have q4 := Z4.out; have q5 := Z5.out; have q6 := LX0.out; have q7 := Z6.out; have q8 := Z8.out; omega); clear X0_8
    have RA0_9 := Lib.hid (Rep.keep _ RA0_8.out (t9.keeps fun y hy => ⟨Rep.lt _ RA0_8.out y hy, fun hm => by have h1 := Tx0.out y hm; have h2 := TA0.out y hy; have q0 := Z1.out; have q1 := LP0.out; have q2 := Z2.out; have q3 := Z3.out; have q4 := Z4.out; have q5 := Z5.out; have q6 := LX0.out; have q7 := Z6.out; have q8 := Z8.out; omega⟩)); clear RA0_8
    have Rw0_9 := Lib.hid (Rep.keep _ Rw0_8.out (t9.keeps fun y hy => ⟨Rep.lt _ Rw0_8.out y hy, fun hm => by have h1 := Tx0.out y hm; have h2 := Tw0.out y hy; have q0 := Z1.out; have q1 := LP0.out; have q2 := Z2.out; have q3 := Z3.out; have q4 := Z4.out; have q5 := Z5.out; have q6 := LX0.out; have q7 := Z6.out; have q8 := Z8.out; omega⟩)); clear Rw0_8
    have Rg0_9 := Lib.hid (Rep.keep _ Rg0_8.out (t9.keeps fun y hy => ⟨Rep.lt _ Rg0_8.out y hy, fun hm => by have h1 := Tx0.out y hm; have h2 := Tg0.out y hy; have q0 := Z1.out; have q1 := LP0.out; have q2 := Z2.out; have q3 := Z3.out; have q4 := Z4.out; have q5 := Z5.out; have q6 := LX0.out; have q7 := Z6.out; have q8 := Z8.out; omega⟩)); clear Rg0_8
    have S9 : Below w.heap.size w w9 := S8.trans (t9.below S8.size (fun y hm => by have h1 := Tx0.out y hm; have q0 := Z1.out; have q1 := LP0.out; have q2 := Z2.out; have q3 := Z3.out; have q4 := Z4.out; have q5 := Z5.out; have q6 := LX0.out; have q7 := Z6.out; have q8 := Z8.out; omega))
    have Z9 := Lib.hid (show w8.heap.size ≤ w9.heap.size from t9.size)
    clear t9
    go_wp2_with fail
    refine (eqIntS_b (Rg0_9.out.below bel) (Rw0_9.out.below bel)).mono ?_
    rintro e w10 ⟨rfl, b10⟩
    have P0_10 := P0_9.to b10; clear P0_9
    have X0_10 := X0_9.to b10; clear X0_9
    have RA0_10 := Lib.hid (RA0_9.out.below b10); clear RA0_9
    have Rw0_10 := Lib.hid (Rw0_9.out.below b10); clear Rw0_9
    have Rg0_10 := Lib.hid (Rg0_9.out.below b10); clear Rg0_9
    have S10 : Below w.heap.size w w10 := below_tr S9 b10
    have Z10 := Lib.hid (b10.size)
    go_wp2_with fail
    refine (markIntS_n Rg0_10.out nd5 (q := 1) (by omega) (by omega)).mono ?_
    rintro e w11 ⟨rfl, r11, t11⟩
    have m11h := Lib.hid r11; clear r11
    have P0_11 := t11.box2 P0_10 (fun hm => by have h1 := Tg0.out _ hm; have q0 := Z1.out; have q1 := LP0.out; have q2 := Z2.out; have q3 := Z3.out; have q4 := Z4.out; have q5 := Z5.out; have q6 := LX0.out; have q7 := Z6.out; have q8 := Z8.out; have q9 := Z9.out; have q10 := Z10.out; omega); clear P0_10
    have X0_11 := t11.box2 X0_10 (fun hm => by have h1 := Tg0.out _ hm; have q0 := Z1.out; have q1 := LP0.out; have q2 := Z2.out; have q3 := Z3.out; have q4 := Z4.out; have q5 := Z5.out; have q6 := LX0.out; have q7 := Z6.out; have q8 := Z8.out; have q9 := Z9.out; have q10 := Z10.out; omega); clear X0_10
    have RA0_11 := Lib.hid (Rep.keep _ RA0_10.out (t11.keeps fun y hy => ⟨Rep.lt _ RA0_10.out y hy, fun hm => by have h1 := Tg0.out y hm; have h2 := TA0.out y hy; have q0 := Z1.out; have q1 := LP0.out; have q2 := Z2.out; have q3 := Z3.out; have q4 := Z4.out; have q5 := Z5.out; have q6 := LX0.out; have q7 := Z6.out; have q8 := Z8.out; have q9 := Z9.out; have q10 := Z10.out; omega⟩)); clear RA0_10
    have Rw0_11 := Lib.hid (Rep.keep _ Rw0_10.out (t11.keeps fun y hy => ⟨Rep.lt _ Rw0_10.out y hy, fun hm => by have h1 := Tg0.out y hm; have h2 := Tw0.out y hy; have q0 := Z1.out; have q1 := LP0.out; have q2 := Z2.out; have q3 := Z3.out; have q4 := Z4.out; have q5 := Z5.out; have q6 := LX0.out; have q7 := Z6.out; have q8 := Z8.out; have q9 := Z9.out; have q10 := Z10.out; omega⟩)); clear Rw0_10
    have S11 : Below w.heap.size w w11 := S10.trans (t11.below S10.size (fun y hm => by have h1 := Tg0.out y hm; have q0 := Z1.out; have q1 := LP0.out; have q2 := Z2.out; have q3 := Z3.out; have q4 := Z4.out; have q5 := Z5.out; have q6 := LX0.out; have q7 := Z6.out; have q8 := Z8.out; have q9 := Z9.out; have q10 := Z10.out; omega))
    have Z11 := Lib.hid (show w10.heap.size ≤ w11.heap.size from t11.size)
    clear t11
    have hmq : ((1 + (((LiveF x0).length : Nat) : Int)) != (1 + (((LiveF x0).length : Nat) : Int))) = false := by simp
    go_wp2_with fail
    refine (heldIntS_n m11h.out (q := 1) (by omega) (by omega)).mono ?_
    rintro e w12 ⟨rfl, b12⟩
    have P0_12 := P0_11.to b12; clear P0_11
    have X0_12 := X0_11.to b12; clear X0_11
    have RA0_12 := Lib.hid (RA0_11.out.below b12); clear RA0_11
    have Rw0_12 := Lib.hid (Rw0_11.out.below b12); clear Rw0_11
    have Rg0_12 := Lib.hid (m11h.out.below b12); clear m11h
    have S12 : Below w.heap.size w w12 := below_tr S11 b12
    have Z12 := Lib.hid (b12.size)
    go_wp2_with fail
    refine (toProgram_m (RA0_12.out.below bel) HN0.out).mono ?_
    rintro e w13 ⟨A1_13, c1_13, A2_13, c2_13, bs13, rfl, r13, nd13, hb13, b13⟩
    have Tz0 := Lib.hid (show ∀ y ∈ bs13, w12.heap.size + 0 ≤ y ∧ y < w13.heap.size from fun y hy => ⟨by have := hb13 y hy; (try simp at this); omega, Rep.lt _ r13 y hy⟩)
    have P0_13 := P0_12.to b13; clear P0_12
    have X0_13 := X0_12.to b13; clear X0_12
    have RA0_13 := Lib.hid (RA0_12.out.below b13); clear RA0_12
    have Rw0_13 := Lib.hid (Rw0_12.out.below b13); clear Rw0_12
    have Rg0_13 := Lib.hid (Rg0_12.out.below b13); clear Rg0_12
    have S13 : Below w.heap.size w w13 := below_tr S12 b13
    have Z13 := Lib.hid (b13.size)
    have r13h := Lib.hid r13; clear r13 hb13
    go_wp2_with fail
    refine (implLiveInstances_c (r13h.out.below bel)).mono ?_
    rintro e w14 ⟨A14, n14, c14, bs14, rfl, r14, nd14, hb14, b14⟩
    have P0_14 := P0_13.to b14; clear P0_13
    have X0_14 := X0_13.to b14; clear X0_13
    have RA0_14 := Lib.hid (RA0_13.out.below b14); clear RA0_13
    have Rw0_14 := Lib.hid (Rw0_13.out.below b14); clear Rw0_13
    have Rg0_14 := Lib.hid (Rg0_13.out.below b14); clear Rg0_13
    have Rz0_14 := Lib.hid (r13h.out.below b14); clear r13h
    have S14 : Below w.heap.size w w14 := below_tr S13 b14
    have Z14 := Lib.hid (b14.size)
    have r14h := Lib.hid r14; clear r14 hb14 nd14
    go_wp2_with fail
    refine (eqIntS_b (r14h.out.below bel) (Rw0_14.out.below bel)).mono ?_
    rintro e w15 ⟨rfl, b15⟩
    have P0_15 := P0_14.to b15; clear P0_14
    have X0_15 := X0_14.to b15; clear X0_14
    have RA0_15 := Lib.hid (RA0_14.out.below b15); clear RA0_14
    have Rw0_15 := Lib.hid (Rw0_14.out.below b15); clear Rw0_14
    have Rg0_15 := Lib.hid (Rg0_14.out.below b15); clear Rg0_14
    have Rh0_15 := Lib.hid (r14h.out.below b15); clear r14h
    have S15 : Below w.heap.size w w15 := below_tr S14 b15
    have Z15 := Lib.hid (b15.size)
    go_wp2_with fail
    refine (heldIntS_n Rg0_15.out (q := 1) (by omega) (by omega)).mono ?_
    rintro e w16 ⟨rfl, b16⟩
    have P0_16 := P0_15.to b16; clear P0_15
    have X0_16 := X0_15.to b16; clear X0_15
    have RA0_16 := Lib.hid (RA0_15.out.below b16); clear RA0_15
    have Rw0_16 := Lib.hid (Rw0_15.out.below b16); clear Rw0_15
    have Rg0_16 := Lib.hid (Rg0_15.out.below b16); clear Rg0_15
    have Rh0_16 := Lib.hid (Rh0_15.out.below b16); clear Rh0_15
    have S16 : Below w.heap.size w w16 := below_tr S15 b16
    have Z16 := Lib.hid (b16.size)
    go_wp2
    go_ret
    exact ⟨rfl, S16⟩
end Go.Proofs.YtimocdpfnncnlaaGreat
