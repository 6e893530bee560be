/- Texts of this seat, joined: OpAffine, OpLoop, OpAccess, OpExpr, OpStmt, OpArray, OpPart, OpProgram, OpInstance. -/
import Derived.Test.YtimocdpfnncnlaaGreatLaw
import Derived.Test.YtimocdpfnncnlaaGreatTyAffine
import Derived.Test.YtimocdpfnncnlaaGreatTyLoop
import Derived.Test.YtimocdpfnncnlaaGreatTyAccess
import Derived.Test.YtimocdpfnncnlaaGreatTyExpr
import Derived.Test.YtimocdpfnncnlaaGreatTyStmt
import Derived.Test.YtimocdpfnncnlaaGreatTyArray
import Derived.Test.YtimocdpfnncnlaaGreatTyPart
import Derived.Test.YtimocdpfnncnlaaGreatTyProgram
import Derived.Test.YtimocdpfnncnlaaGreatBasic
/- Arguments of type Affine, []Affine: what the form's reading tells. Printed by tygen.py. -/
set_option linter.all false
set_option linter.unusedSimpArgs false
set_option linter.unusedVariables false
namespace Go.Proofs.YtimocdpfnncnlaaGreat
open Go.ChangeShapes Go.WideShapes Go.ChangeAt Go.RowKit Go.Deep

set_option maxRecDepth 100000 in
theorem hasTy_aff (d : D) (h : HasTy Tryz.prog 165 d) : ∃ x : Aff, d = x.d := by
  obtain ⟨fs, rfl, hq⟩ := hasTy_st Tryz.underlying165 h
  obtain ⟨d1, r1, rfl, q1, hq⟩ := hasTys_cons hq
  obtain ⟨d2, r2, rfl, q2, hq⟩ := hasTys_cons hq
  obtain rfl := hasTys_nil hq
  obtain ⟨x1, rfl⟩ := hasTy_ints Tryz.underlying35 Tryz.underlying3 q1
  obtain ⟨x2, rfl⟩ := hasTy_int Tryz.underlying3 q2
  exact ⟨⟨x1, x2⟩, rfl⟩
set_option maxRecDepth 100000 in
theorem opn_aff {H : Type} {enc : TypeId × Value → H} {W : World} {L : List TypeId} {base b0 : Nat} {spare : Nat → Bool} {held : Bool} {r : Reach} (hL : layB Tryz.prog L = true) (ht : 165 ∈ L) {v : Value} {d : DataW H} {p : List MemPlace}
    (hv : Value.okWide Tryz.prog W r b0 165 v) (h : DataW.Trod enc Tryz.prog W base spare held 165 v d p) (hz : W.noneFrozen p) :
    ∃ cs, ∃ y : Aff, ∃ bs, v = .agg cs.toArray ∧ Rep W y.d cs bs := by
  obtain ⟨cs, fs, bs, rfl, h1, h2⟩ := open_st hL ht Tryz.underlying165 hv h hz
  obtain ⟨y, hy⟩ := hasTy_aff (.st fs) ⟨_, Tryz.underlying165, h2⟩
  rw [hy] at h1
  exact ⟨cs, y, bs, rfl, h1⟩
set_option maxRecDepth 100000 in
theorem opn_affs {H : Type} {enc : TypeId × Value → H} {W : World} {L : List TypeId} {base b0 : Nat} {spare : Nat → Bool} {held : Bool} {r : Reach} (hL : layB Tryz.prog L = true) (ht : 159 ∈ L) {v : Value} {d : DataW H} {p : List MemPlace}
    (hv : Value.okWide Tryz.prog W r b0 159 v) (h : DataW.Trod enc Tryz.prog W base spare held 159 v d p) (hz : W.noneFrozen p) :
    ∃ A n c, ∃ ys : List Aff, ∃ bs, v = .slice A n c ∧ Rep W (sls Aff.d ys) [.slice A n c] bs := by
  obtain ⟨A, n, c, xs, bs, rfl, h1, h2⟩ := open_sl hL ht Tryz.underlying159 hv h hz
  obtain ⟨ys, rfl⟩ := hasTyE_of hasTy_aff xs h2
  exact ⟨A, n, c, ys, bs, rfl, h1⟩
end Go.Proofs.YtimocdpfnncnlaaGreat

/- Arguments of type Loop, []Loop: what the form's reading tells. Printed by tygen.py. -/
namespace Go.Proofs.YtimocdpfnncnlaaGreat
open Go.ChangeShapes Go.WideShapes Go.ChangeAt Go.RowKit Go.Deep

set_option maxRecDepth 100000 in
theorem hasTy_lp (d : D) (h : HasTy Tryz.prog 161 d) : ∃ x : Lp, d = x.d := by
  obtain ⟨fs, rfl, hq⟩ := hasTy_st Tryz.underlying161 h
  obtain ⟨d1, r1, rfl, q1, hq⟩ := hasTys_cons hq
  obtain ⟨d2, r2, rfl, q2, hq⟩ := hasTys_cons hq
  obtain rfl := hasTys_nil hq
  obtain ⟨x1, rfl⟩ := hasTy_sl Tryz.underlying159 hasTy_aff q1
  obtain ⟨x2, rfl⟩ := hasTy_sl Tryz.underlying159 hasTy_aff q2
  exact ⟨⟨x1, x2⟩, rfl⟩
set_option maxRecDepth 100000 in
theorem opn_lp {H : Type} {enc : TypeId × Value → H} {W : World} {L : List TypeId} {base b0 : Nat} {spare : Nat → Bool} {held : Bool} {r : Reach} (hL : layB Tryz.prog L = true) (ht : 161 ∈ L) {v : Value} {d : DataW H} {p : List MemPlace}
    (hv : Value.okWide Tryz.prog W r b0 161 v) (h : DataW.Trod enc Tryz.prog W base spare held 161 v d p) (hz : W.noneFrozen p) :
    ∃ cs, ∃ y : Lp, ∃ bs, v = .agg cs.toArray ∧ Rep W y.d cs bs := by
  obtain ⟨cs, fs, bs, rfl, h1, h2⟩ := open_st hL ht Tryz.underlying161 hv h hz
  obtain ⟨y, hy⟩ := hasTy_lp (.st fs) ⟨_, Tryz.underlying161, h2⟩
  rw [hy] at h1
  exact ⟨cs, y, bs, rfl, h1⟩
set_option maxRecDepth 100000 in
theorem opn_lps {H : Type} {enc : TypeId × Value → H} {W : World} {L : List TypeId} {base b0 : Nat} {spare : Nat → Bool} {held : Bool} {r : Reach} (hL : layB Tryz.prog L = true) (ht : 87 ∈ L) {v : Value} {d : DataW H} {p : List MemPlace}
    (hv : Value.okWide Tryz.prog W r b0 87 v) (h : DataW.Trod enc Tryz.prog W base spare held 87 v d p) (hz : W.noneFrozen p) :
    ∃ A n c, ∃ ys : List Lp, ∃ bs, v = .slice A n c ∧ Rep W (sls Lp.d ys) [.slice A n c] bs := by
  obtain ⟨A, n, c, xs, bs, rfl, h1, h2⟩ := open_sl hL ht Tryz.underlying87 hv h hz
  obtain ⟨ys, rfl⟩ := hasTyE_of hasTy_lp xs h2
  exact ⟨A, n, c, ys, bs, rfl, h1⟩
end Go.Proofs.YtimocdpfnncnlaaGreat

/- Arguments of type Access, []Access: what the form's reading tells. Printed by tygen.py. -/
namespace Go.Proofs.YtimocdpfnncnlaaGreat
open Go.ChangeShapes Go.WideShapes Go.ChangeAt Go.RowKit Go.Deep

set_option maxRecDepth 100000 in
theorem hasTy_acc (d : D) (h : HasTy Tryz.prog 164 d) : ∃ x : Acc, d = x.d := by
  obtain ⟨fs, rfl, hq⟩ := hasTy_st Tryz.underlying164 h
  obtain ⟨d1, r1, rfl, q1, hq⟩ := hasTys_cons hq
  obtain ⟨d2, r2, rfl, q2, hq⟩ := hasTys_cons hq
  obtain rfl := hasTys_nil hq
  obtain ⟨x1, rfl⟩ := hasTy_str Tryz.underlying9 q1
  obtain ⟨x2, rfl⟩ := hasTy_sl Tryz.underlying159 hasTy_aff q2
  exact ⟨⟨x1, x2⟩, rfl⟩
set_option maxRecDepth 100000 in
theorem opn_acc {H : Type} {enc : TypeId × Value → H} {W : World} {L : List TypeId} {base b0 : Nat} {spare : Nat → Bool} {held : Bool} {r : Reach} (hL : layB Tryz.prog L = true) (ht : 164 ∈ L) {v : Value} {d : DataW H} {p : List MemPlace}
    (hv : Value.okWide Tryz.prog W r b0 164 v) (h : DataW.Trod enc Tryz.prog W base spare held 164 v d p) (hz : W.noneFrozen p) :
    ∃ cs, ∃ y : Acc, ∃ bs, v = .agg cs.toArray ∧ Rep W y.d cs bs := by
  obtain ⟨cs, fs, bs, rfl, h1, h2⟩ := open_st hL ht Tryz.underlying164 hv h hz
  obtain ⟨y, hy⟩ := hasTy_acc (.st fs) ⟨_, Tryz.underlying164, h2⟩
  rw [hy] at h1
  exact ⟨cs, y, bs, rfl, h1⟩
end Go.Proofs.YtimocdpfnncnlaaGreat

/- Arguments of type Expr, []Expr: what the form's reading tells. Printed by tygen.py. -/
namespace Go.Proofs.YtimocdpfnncnlaaGreat
open Go.ChangeShapes Go.WideShapes Go.ChangeAt Go.RowKit Go.Deep

set_option maxRecDepth 100000 in
theorem hasTy_ex_n (n : Nat) : ∀ d : D, SizeOf.sizeOf d ≤ n → HasTy Tryz.prog 168 d → ∃ x : Ex, d = x.d := by
  induction n with
  | zero => intro d hd; cases d <;> simp at hd
  | succ n ih =>
  intro d hd h
  obtain ⟨fs, rfl, hq⟩ := hasTy_st Tryz.underlying168 h
  obtain ⟨d1, r1, rfl, q1, hq⟩ := hasTys_cons hq
  obtain ⟨d2, r2, rfl, q2, hq⟩ := hasTys_cons hq
  obtain ⟨d3, r3, rfl, q3, hq⟩ := hasTys_cons hq
  obtain ⟨d4, r4, rfl, q4, hq⟩ := hasTys_cons hq
  obtain ⟨d5, r5, rfl, q5, hq⟩ := hasTys_cons hq
  obtain rfl := hasTys_nil hq
  obtain ⟨x1, rfl⟩ := hasTy_int Tryz.underlying3 q1
  obtain ⟨x2, rfl⟩ := hasTy_int Tryz.underlying3 q2
  obtain ⟨x3, rfl⟩ := hasTy_aff _ q3
  obtain ⟨x4, rfl⟩ := hasTy_acc _ q4
  obtain ⟨x5, rfl⟩ := hasTy_sl_mem (f := Ex.d) Tryz.underlying166 (fun xs hxs y hy hty => ih y (by subst hxs; have := List.sizeOf_lt_of_mem hy; simp at hd; omega) hty) q5
  exact ⟨⟨x1, x2, x3, x4, x5⟩, by rw [Ex.d_eq]; rfl⟩
theorem hasTy_ex (d : D) (h : HasTy Tryz.prog 168 d) : ∃ x : Ex, d = x.d := hasTy_ex_n _ d (Nat.le_refl _) h
set_option maxRecDepth 100000 in
theorem opn_ex {H : Type} {enc : TypeId × Value → H} {W : World} {L : List TypeId} {base b0 : Nat} {spare : Nat → Bool} {held : Bool} {r : Reach} (hL : layB Tryz.prog L = true) (ht : 168 ∈ L) {v : Value} {d : DataW H} {p : List MemPlace}
    (hv : Value.okWide Tryz.prog W r b0 168 v) (h : DataW.Trod enc Tryz.prog W base spare held 168 v d p) (hz : W.noneFrozen p) :
    ∃ cs, ∃ y : Ex, ∃ bs, v = .agg cs.toArray ∧ Rep W y.d cs bs := by
  obtain ⟨cs, fs, bs, rfl, h1, h2⟩ := open_st hL ht Tryz.underlying168 hv h hz
  obtain ⟨y, hy⟩ := hasTy_ex (.st fs) ⟨_, Tryz.underlying168, h2⟩
  rw [hy] at h1
  exact ⟨cs, y, bs, rfl, h1⟩
set_option maxRecDepth 100000 in
theorem opn_exs {H : Type} {enc : TypeId × Value → H} {W : World} {L : List TypeId} {base b0 : Nat} {spare : Nat → Bool} {held : Bool} {r : Reach} (hL : layB Tryz.prog L = true) (ht : 166 ∈ L) {v : Value} {d : DataW H} {p : List MemPlace}
    (hv : Value.okWide Tryz.prog W r b0 166 v) (h : DataW.Trod enc Tryz.prog W base spare held 166 v d p) (hz : W.noneFrozen p) :
    ∃ A n c, ∃ ys : List Ex, ∃ bs, v = .slice A n c ∧ Rep W (sls Ex.d ys) [.slice A n c] bs := by
  obtain ⟨A, n, c, xs, bs, rfl, h1, h2⟩ := open_sl hL ht Tryz.underlying166 hv h hz
  obtain ⟨ys, rfl⟩ := hasTyE_of hasTy_ex xs h2
  exact ⟨A, n, c, ys, bs, rfl, h1⟩
end Go.Proofs.YtimocdpfnncnlaaGreat

/- Arguments of type Stmt, []Stmt: what the form's reading tells. Printed by tygen.py. -/
namespace Go.Proofs.YtimocdpfnncnlaaGreat
open Go.ChangeShapes Go.WideShapes Go.ChangeAt Go.RowKit Go.Deep

set_option maxRecDepth 100000 in
theorem hasTy_stm (d : D) (h : HasTy Tryz.prog 170 d) : ∃ x : Stm, d = x.d := by
  obtain ⟨fs, rfl, hq⟩ := hasTy_st Tryz.underlying170 h
  obtain ⟨d1, r1, rfl, q1, hq⟩ := hasTys_cons hq
  obtain ⟨d2, r2, rfl, q2, hq⟩ := hasTys_cons hq
  obtain rfl := hasTys_nil hq
  obtain ⟨x1, rfl⟩ := hasTy_acc _ q1
  obtain ⟨x2, rfl⟩ := hasTy_ex _ q2
  exact ⟨⟨x1, x2⟩, rfl⟩
set_option maxRecDepth 100000 in
theorem opn_stm {H : Type} {enc : TypeId × Value → H} {W : World} {L : List TypeId} {base b0 : Nat} {spare : Nat → Bool} {held : Bool} {r : Reach} (hL : layB Tryz.prog L = true) (ht : 170 ∈ L) {v : Value} {d : DataW H} {p : List MemPlace}
    (hv : Value.okWide Tryz.prog W r b0 170 v) (h : DataW.Trod enc Tryz.prog W base spare held 170 v d p) (hz : W.noneFrozen p) :
    ∃ cs, ∃ y : Stm, ∃ bs, v = .agg cs.toArray ∧ Rep W y.d cs bs := by
  obtain ⟨cs, fs, bs, rfl, h1, h2⟩ := open_st hL ht Tryz.underlying170 hv h hz
  obtain ⟨y, hy⟩ := hasTy_stm (.st fs) ⟨_, Tryz.underlying170, h2⟩
  rw [hy] at h1
  exact ⟨cs, y, bs, rfl, h1⟩
set_option maxRecDepth 100000 in
theorem opn_stms {H : Type} {enc : TypeId × Value → H} {W : World} {L : List TypeId} {base b0 : Nat} {spare : Nat → Bool} {held : Bool} {r : Reach} (hL : layB Tryz.prog L = true) (ht : 88 ∈ L) {v : Value} {d : DataW H} {p : List MemPlace}
    (hv : Value.okWide Tryz.prog W r b0 88 v) (h : DataW.Trod enc Tryz.prog W base spare held 88 v d p) (hz : W.noneFrozen p) :
    ∃ A n c, ∃ ys : List Stm, ∃ bs, v = .slice A n c ∧ Rep W (sls Stm.d ys) [.slice A n c] bs := by
  obtain ⟨A, n, c, xs, bs, rfl, h1, h2⟩ := open_sl hL ht Tryz.underlying88 hv h hz
  obtain ⟨ys, rfl⟩ := hasTyE_of hasTy_stm xs h2
  exact ⟨A, n, c, ys, bs, rfl, h1⟩
end Go.Proofs.YtimocdpfnncnlaaGreat

/- Arguments of type Array, []Array: what the form's reading tells. Printed by tygen.py. -/
namespace Go.Proofs.YtimocdpfnncnlaaGreat
open Go.ChangeShapes Go.WideShapes Go.ChangeAt Go.RowKit Go.Deep

set_option maxRecDepth 100000 in
theorem hasTy_ar (d : D) (h : HasTy Tryz.prog 85 d) : ∃ x : Ar, d = x.d := by
  obtain ⟨fs, rfl, hq⟩ := hasTy_st Tryz.underlying85 h
  obtain ⟨d1, r1, rfl, q1, hq⟩ := hasTys_cons hq
  obtain ⟨d2, r2, rfl, q2, hq⟩ := hasTys_cons hq
  obtain rfl := hasTys_nil hq
  obtain ⟨x1, rfl⟩ := hasTy_str Tryz.underlying9 q1
  obtain ⟨x2, rfl⟩ := hasTy_ints Tryz.underlying35 Tryz.underlying3 q2
  exact ⟨⟨x1, x2⟩, rfl⟩
set_option maxRecDepth 100000 in
theorem opn_ar {H : Type} {enc : TypeId × Value → H} {W : World} {L : List TypeId} {base b0 : Nat} {spare : Nat → Bool} {held : Bool} {r : Reach} (hL : layB Tryz.prog L = true) (ht : 85 ∈ L) {v : Value} {d : DataW H} {p : List MemPlace}
    (hv : Value.okWide Tryz.prog W r b0 85 v) (h : DataW.Trod enc Tryz.prog W base spare held 85 v d p) (hz : W.noneFrozen p) :
    ∃ cs, ∃ y : Ar, ∃ bs, v = .agg cs.toArray ∧ Rep W y.d cs bs := by
  obtain ⟨cs, fs, bs, rfl, h1, h2⟩ := open_st hL ht Tryz.underlying85 hv h hz
  obtain ⟨y, hy⟩ := hasTy_ar (.st fs) ⟨_, Tryz.underlying85, h2⟩
  rw [hy] at h1
  exact ⟨cs, y, bs, rfl, h1⟩
set_option maxRecDepth 100000 in
theorem opn_ars {H : Type} {enc : TypeId × Value → H} {W : World} {L : List TypeId} {base b0 : Nat} {spare : Nat → Bool} {held : Bool} {r : Reach} (hL : layB Tryz.prog L = true) (ht : 22 ∈ L) {v : Value} {d : DataW H} {p : List MemPlace}
    (hv : Value.okWide Tryz.prog W r b0 22 v) (h : DataW.Trod enc Tryz.prog W base spare held 22 v d p) (hz : W.noneFrozen p) :
    ∃ A n c, ∃ ys : List Ar, ∃ bs, v = .slice A n c ∧ Rep W (sls Ar.d ys) [.slice A n c] bs := by
  obtain ⟨A, n, c, xs, bs, rfl, h1, h2⟩ := open_sl hL ht Tryz.underlying22 hv h hz
  obtain ⟨ys, rfl⟩ := hasTyE_of hasTy_ar xs h2
  exact ⟨A, n, c, ys, bs, rfl, h1⟩
end Go.Proofs.YtimocdpfnncnlaaGreat

/- Arguments of type Part, []Part: what the form's reading tells. Printed by tygen.py. -/
namespace Go.Proofs.YtimocdpfnncnlaaGreat
open Go.ChangeShapes Go.WideShapes Go.ChangeAt Go.RowKit Go.Deep

set_option maxRecDepth 100000 in
theorem hasTy_prt (d : D) (h : HasTy Tryz.prog 90 d) : ∃ x : Prt, d = x.d := by
  obtain ⟨fs, rfl, hq⟩ := hasTy_st Tryz.underlying90 h
  obtain ⟨d1, r1, rfl, q1, hq⟩ := hasTys_cons hq
  obtain ⟨d2, r2, rfl, q2, hq⟩ := hasTys_cons hq
  obtain rfl := hasTys_nil hq
  obtain ⟨x1, rfl⟩ := hasTy_sl Tryz.underlying87 hasTy_lp q1
  obtain ⟨x2, rfl⟩ := hasTy_sl Tryz.underlying88 hasTy_stm q2
  exact ⟨⟨x1, x2⟩, rfl⟩
set_option maxRecDepth 100000 in
theorem opn_prt {H : Type} {enc : TypeId × Value → H} {W : World} {L : List TypeId} {base b0 : Nat} {spare : Nat → Bool} {held : Bool} {r : Reach} (hL : layB Tryz.prog L = true) (ht : 90 ∈ L) {v : Value} {d : DataW H} {p : List MemPlace}
    (hv : Value.okWide Tryz.prog W r b0 90 v) (h : DataW.Trod enc Tryz.prog W base spare held 90 v d p) (hz : W.noneFrozen p) :
    ∃ cs, ∃ y : Prt, ∃ bs, v = .agg cs.toArray ∧ Rep W y.d cs bs := by
  obtain ⟨cs, fs, bs, rfl, h1, h2⟩ := open_st hL ht Tryz.underlying90 hv h hz
  obtain ⟨y, hy⟩ := hasTy_prt (.st fs) ⟨_, Tryz.underlying90, h2⟩
  rw [hy] at h1
  exact ⟨cs, y, bs, rfl, h1⟩
set_option maxRecDepth 100000 in
theorem opn_prts {H : Type} {enc : TypeId × Value → H} {W : World} {L : List TypeId} {base b0 : Nat} {spare : Nat → Bool} {held : Bool} {r : Reach} (hL : layB Tryz.prog L = true) (ht : 23 ∈ L) {v : Value} {d : DataW H} {p : List MemPlace}
    (hv : Value.okWide Tryz.prog W r b0 23 v) (h : DataW.Trod enc Tryz.prog W base spare held 23 v d p) (hz : W.noneFrozen p) :
    ∃ A n c, ∃ ys : List Prt, ∃ bs, v = .slice A n c ∧ Rep W (sls Prt.d ys) [.slice A n c] bs := by
  obtain ⟨A, n, c, xs, bs, rfl, h1, h2⟩ := open_sl hL ht Tryz.underlying23 hv h hz
  obtain ⟨ys, rfl⟩ := hasTyE_of hasTy_prt xs h2
  exact ⟨A, n, c, ys, bs, rfl, h1⟩
end Go.Proofs.YtimocdpfnncnlaaGreat

/- Arguments of type Program, []Program: what the form's reading tells. Printed by tygen.py. -/
namespace Go.Proofs.YtimocdpfnncnlaaGreat
open Go.ChangeShapes Go.WideShapes Go.ChangeAt Go.RowKit Go.Deep

set_option maxRecDepth 100000 in
theorem hasTy_pgm (d : D) (h : HasTy Tryz.prog 25 d) : ∃ x : Pgm, d = x.d := by
  obtain ⟨fs, rfl, hq⟩ := hasTy_st Tryz.underlying25 h
  obtain ⟨d1, r1, rfl, q1, hq⟩ := hasTys_cons hq
  obtain ⟨d2, r2, rfl, q2, hq⟩ := hasTys_cons hq
  obtain rfl := hasTys_nil hq
  obtain ⟨x1, rfl⟩ := hasTy_sl Tryz.underlying22 hasTy_ar q1
  obtain ⟨x2, rfl⟩ := hasTy_sl Tryz.underlying23 hasTy_prt q2
  exact ⟨⟨x1, x2⟩, rfl⟩
set_option maxRecDepth 100000 in
theorem opn_pgm {H : Type} {enc : TypeId × Value → H} {W : World} {L : List TypeId} {base b0 : Nat} {spare : Nat → Bool} {held : Bool} {r : Reach} (hL : layB Tryz.prog L = true) (ht : 25 ∈ L) {v : Value} {d : DataW H} {p : List MemPlace}
    (hv : Value.okWide Tryz.prog W r b0 25 v) (h : DataW.Trod enc Tryz.prog W base spare held 25 v d p) (hz : W.noneFrozen p) :
    ∃ cs, ∃ y : Pgm, ∃ bs, v = .agg cs.toArray ∧ Rep W y.d cs bs := by
  obtain ⟨cs, fs, bs, rfl, h1, h2⟩ := open_st hL ht Tryz.underlying25 hv h hz
  obtain ⟨y, hy⟩ := hasTy_pgm (.st fs) ⟨_, Tryz.underlying25, h2⟩
  rw [hy] at h1
  exact ⟨cs, y, bs, rfl, h1⟩
end Go.Proofs.YtimocdpfnncnlaaGreat

/- Arguments of type Instance, []Instance: what the form's reading tells. Printed by tygen.py. -/
namespace Go.Proofs.YtimocdpfnncnlaaGreat
open Go.ChangeShapes Go.WideShapes Go.ChangeAt Go.RowKit Go.Deep

end Go.Proofs.YtimocdpfnncnlaaGreat
