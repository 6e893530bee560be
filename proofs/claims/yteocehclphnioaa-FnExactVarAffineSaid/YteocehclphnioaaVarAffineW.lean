/- The law FnExactVarAffine: its walk. -/
import Derived.Test.YteocehclphnioaaLaw
import Derived.Test.YteocehclphnioaaVar
namespace Go.Proofs.Yteocehclphnioaa
open Go.ChangeShapes Go.WideShapes Go.ChangeAt Go.RowKit Go.Deep

theorem VarAffineF_len (v : Int) : (VarAffineF v).coefs.length ≤ 4 := by
  unfold VarAffineF
  split
  · simp [affVar]
  · simp [affZero]

set_option maxHeartbeats 2000000 in
theorem FnExactVarAffine_walk {w : World} {x0 : Int} :
    Calls Try.prog 9 #[.int .i64 x0] w fun e w' => e = .returned (.bool true) ∧ Below w.heap.size w w' := by
  have hq : (isVarB x0 != isVarB x0) = false := by simp
  have HL := Lib.hid (VarAffineF_len x0)
  go_enter Try.func9, Try.ntmps9
  go_wp2_with fail
  refine (specVarAffine_c x0 _).mono ?_
  rintro e w1 ⟨A1, n1, c1, k1, bs1, rfl, r1, _, _, b1⟩
  have R1 := Lib.hid r1; clear r1
  have b1s := Lib.hid b1.size
  go_wp2_with fail
  refine (implVarAffine_c x0 _).mono ?_
  rintro e w2 ⟨A2, n2, c2, k2, bs2, rfl, r2, nd2, f2, b2⟩
  have X2 := (Box2.new w1 _ _ _).to b2
  have s2 : Below w1.heap.size w1 w2 := (by repeat (first | exact Below.refl _ _ | refine Below.setCell ?_ (by simp; try omega) _ | refine Below.alloc ?_ (by simp [World.setCell]; try omega) _ | refine below_drewN ?_ _ | refine Below.drew ?_ | refine below_tr ?_ ‹Below _ _ _›))
  have R1_2 := Lib.hid (R1.out.below s2)
  have hl1 := lt_of_cell X2.1
  have n2le : n2 ≤ 4 := by
    have h1 := r2.aff.2.1.ints_len.1
    have h2 := HL.out
    omega
  have f2' : ∀ x ∈ bs2, w1.heap.size < x ∧ x < w2.heap.size := fun x hx => ⟨by have := f2 x hx; simp at this; omega, Rep.lt _ r2 x hx⟩
  have S2 : Below w.heap.size w w2 := below_tr b1 s2
  have R2 := Lib.hid r2; clear r2 f2 b2 s2 b1 nd2
  have F2 := Lib.hid f2'; clear f2'
  go_wp2_with fail
  refine (eqAffine_c (R2.out.below (by repeat (first | exact Below.refl _ _ | refine Below.setCell ?_ (by simp; try omega) _ | refine Below.alloc ?_ (by simp [World.setCell]; try omega) _ | refine below_drewN ?_ _ | refine Below.drew ?_ | refine below_tr ?_ ‹Below _ _ _›))) (R1_2.out.below (by repeat (first | exact Below.refl _ _ | refine Below.setCell ?_ (by simp; try omega) _ | refine Below.alloc ?_ (by simp [World.setCell]; try omega) _ | refine below_drewN ?_ _ | refine Below.drew ?_ | refine below_tr ?_ ‹Below _ _ _›)))).mono ?_
  rintro e w3 ⟨rfl, b3⟩
  have Y3 := (Box2.new w2 _ _ _).to b3
  have s3 : Below w2.heap.size w2 w3 := (by repeat (first | exact Below.refl _ _ | refine Below.setCell ?_ (by simp; try omega) _ | refine Below.alloc ?_ (by simp [World.setCell]; try omega) _ | refine below_drewN ?_ _ | refine Below.drew ?_ | refine below_tr ?_ ‹Below _ _ _›))
  have X3 := X2.to s3; clear X2
  have R1_3 := Lib.hid (R1_2.out.below s3)
  have R2_3 := Lib.hid (R2.out.below s3)
  have S3 := below_tr S2 s3
  have hl3 := s3.size
  clear b3 s3
  go_wp2_with fail
  refine (markAffine_c R2_3.out (by omega) (by omega)).mono ?_
  rintro e w4 ⟨rfl, r4, t4⟩
  have hX : w1.heap.size ∉ bs2 := fun h => by have := F2.out _ h; omega
  have hY : w2.heap.size ∉ bs2 := fun h => by have := F2.out _ h; omega
  have X4 := t4.box2 X3 hX
  have Y4 := t4.box2 Y3 hY
  have R1_4 := Lib.hid (Rep.keep _ R1_3.out (t4.keeps fun x hx => ⟨Rep.lt _ R1_3.out x hx, fun h => by have h1 := F2.out _ h; have h2 := Rep.lt _ R1.out x hx; omega⟩))
  have hS2 := S2.size
  have hb1 := b1s.out
  have S4 : Below w.heap.size w w4 := S3.trans (t4.below (by omega) fun x hx => by have := F2.out _ hx; omega)
  have M4 := Lib.hid r4
  clear r4 t4 X3 Y3 hX hY
  go_wp2_with fail
  refine (heldAffine_c M4.out (by omega) (by omega)).mono ?_
  rintro e w5 ⟨rfl, b5⟩
  have X5 := X4.to b5; clear X4
  have Y5 := Y4.to b5; clear Y4
  have R1_5 := Lib.hid (R1_4.out.below b5)
  have M5 := Lib.hid (M4.out.below b5)
  have S5 := below_tr S4 b5
  clear b5
  have hq2 : ((1 : Int) + n2 != 1 + n2) = false := by simp
  go_wp2_with fail
  refine (implVarAffine_c x0 _).mono ?_
  rintro e w6 ⟨A6, n6, c6, k6, bs6, rfl, r6, _, _, b6⟩
  have X6 := X5.to b6; clear X5
  have Y6 := Y5.to b6; clear Y5
  have R1_6 := Lib.hid (R1_5.out.below b6)
  have M6 := Lib.hid (M5.out.below b6)
  have S6 := below_tr S5 b6
  have R6 := Lib.hid r6
  have hl6 := lt_of_cell X6.1
  have hl6' := lt_of_cell Y6.1
  clear b6 r6
  go_wp2_with fail
  refine (eqAffine_c (R6.out.below (by repeat (first | exact Below.refl _ _ | refine Below.setCell ?_ (by simp; try omega) _ | refine Below.alloc ?_ (by simp [World.setCell]; try omega) _ | refine below_drewN ?_ _ | refine Below.drew ?_ | refine below_tr ?_ ‹Below _ _ _›))) (R1_6.out.below (by repeat (first | exact Below.refl _ _ | refine Below.setCell ?_ (by simp; try omega) _ | refine Below.alloc ?_ (by simp [World.setCell]; try omega) _ | refine below_drewN ?_ _ | refine Below.drew ?_ | refine below_tr ?_ ‹Below _ _ _›)))).mono ?_
  rintro e w7 ⟨rfl, b7⟩
  have s7 : Below w6.heap.size w6 w7 := (by repeat (first | exact Below.refl _ _ | refine Below.setCell ?_ (by simp; try omega) _ | refine Below.alloc ?_ (by simp [World.setCell]; try omega) _ | refine below_drewN ?_ _ | refine Below.drew ?_ | refine below_tr ?_ ‹Below _ _ _›))
  have Y7 := Y6.to s7
  have M7 := Lib.hid (M6.out.below s7)
  have S7 := below_tr S6 s7
  clear b7 s7 Y6 X6
  go_wp2_with fail
  refine (heldAffine_c M7.out (by omega) (by omega)).mono ?_
  rintro e w8 ⟨rfl, b8⟩
  go_wp2
  go_ret
  exact ⟨rfl, below_tr S7 b8⟩
end Go.Proofs.Yteocehclphnioaa
