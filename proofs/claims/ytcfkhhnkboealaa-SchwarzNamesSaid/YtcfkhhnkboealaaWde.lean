/- Whole numbers by powers of two: set, and what builds on it. Whole numbers by powers of two: a float's figures, times a power of two, and back. The document's power of two times a float, by big numbers: the float of it. -/
import Derived.Test.YtcfkhhnkboealaaWdd
import Derived.Deep.RegionHeld3
import Derived.StillTailTactics
import Derived.Test.YtcfkhhnkboealaaPara
namespace Go.Proofs.Ytcfkhhnkboealaa
open Go.RowKit
set_option linter.unusedVariables false
set_option linter.unusedSimpArgs false
set_option maxRecDepth 100000
set_option maxHeartbeats 4000000
/-- the fields of a number. -/
structure FlAt (w : World) (g : Nat) (b : Bool) (v : Value) (E most : Int) (far : Bool) : Prop where
  c0 : w.cell? ⟨g, 0, none⟩ = some (.bool b)
  c1 : w.cell? ⟨g, 1, none⟩ = some v
  c2 : w.cell? ⟨g, 2, none⟩ = some (.int .i64 E)
  c3 : w.cell? ⟨g, 3, none⟩ = some (.int .i64 most)
  c4 : w.cell? ⟨g, 4, none⟩ = some (.bool far)
  lt : g < w.heap.size
theorem FlAt.grown {w w' : World} {g : Nat} {b : Bool} {v : Value} {E most : Int} {far : Bool} (h : FlAt w g b v E most far) (k : Grown w w') : FlAt w' g b v E most far :=
  ⟨by rw [grown_cell k h.lt]; exact h.c0, by rw [grown_cell k h.lt]; exact h.c1, by rw [grown_cell k h.lt]; exact h.c2, by rw [grown_cell k h.lt]; exact h.c3, by rw [grown_cell k h.lt]; exact h.c4, Nat.lt_of_lt_of_le h.lt k.2.2⟩
theorem isW_setNe {w : World} {b off n cap g i : Nat} {l : List Nat} (x : Value) (h : IsW w (.slice (some ⟨b, off, none⟩) n cap) l) (hne : b ≠ g) : IsW (w.setCell ⟨g, i, none⟩ x) (.slice (some ⟨b, off, none⟩) n cap) l := by
  obtain ⟨s, c, e, h1, h2, h3⟩ := h
  injection e with e1 e2 e3
  subst e1; subst e2; subst e3
  refine ⟨_, _, rfl, h1, h2, fun hl => ?_⟩
  obtain ⟨b', off', e, hb, hc⟩ := h3 hl
  injection e with e
  injection e with e1 e2
  subst e1; subst e2
  refine ⟨_, _, rfl, by rw [size_setCell]; exact hb, fun j hj => ?_⟩
  rw [World.cell?_setCell_other _ _ _ _ (by intro e; injection e with e1 e2; exact hne e1.symm)]
  exact hc j hj
theorem FlAt.s0 {w : World} {g : Nat} {b : Bool} {v : Value} {E most : Int} {far : Bool} (h : FlAt w g b v E most far) (b' : Bool) : FlAt (w.setCell ⟨g, 0, none⟩ (.bool b')) g b' v E most far :=
  ⟨World.cell?_setCell_same _ _ _ h.c0, (World.cell?_setCell_other _ _ _ _ (by intro e; injection e with e1 e2; cases e2)).trans h.c1, (World.cell?_setCell_other _ _ _ _ (by intro e; injection e with e1 e2; cases e2)).trans h.c2, (World.cell?_setCell_other _ _ _ _ (by intro e; injection e with e1 e2; cases e2)).trans h.c3, (World.cell?_setCell_other _ _ _ _ (by intro e; injection e with e1 e2; cases e2)).trans h.c4, by rw [size_setCell]; exact h.lt⟩
theorem FlAt.s1 {w : World} {g : Nat} {b : Bool} {v : Value} {E most : Int} {far : Bool} (h : FlAt w g b v E most far) (v' : Value) : FlAt (w.setCell ⟨g, 1, none⟩ (v')) g b v' E most far :=
  ⟨(World.cell?_setCell_other _ _ _ _ (by intro e; injection e with e1 e2; cases e2)).trans h.c0, World.cell?_setCell_same _ _ _ h.c1, (World.cell?_setCell_other _ _ _ _ (by intro e; injection e with e1 e2; cases e2)).trans h.c2, (World.cell?_setCell_other _ _ _ _ (by intro e; injection e with e1 e2; cases e2)).trans h.c3, (World.cell?_setCell_other _ _ _ _ (by intro e; injection e with e1 e2; cases e2)).trans h.c4, by rw [size_setCell]; exact h.lt⟩
theorem FlAt.s2 {w : World} {g : Nat} {b : Bool} {v : Value} {E most : Int} {far : Bool} (h : FlAt w g b v E most far) (E' : Int) : FlAt (w.setCell ⟨g, 2, none⟩ (.int .i64 E')) g b v E' most far :=
  ⟨(World.cell?_setCell_other _ _ _ _ (by intro e; injection e with e1 e2; cases e2)).trans h.c0, (World.cell?_setCell_other _ _ _ _ (by intro e; injection e with e1 e2; cases e2)).trans h.c1, World.cell?_setCell_same _ _ _ h.c2, (World.cell?_setCell_other _ _ _ _ (by intro e; injection e with e1 e2; cases e2)).trans h.c3, (World.cell?_setCell_other _ _ _ _ (by intro e; injection e with e1 e2; cases e2)).trans h.c4, by rw [size_setCell]; exact h.lt⟩
theorem FlAt.s3 {w : World} {g : Nat} {b : Bool} {v : Value} {E most : Int} {far : Bool} (h : FlAt w g b v E most far) (most' : Int) : FlAt (w.setCell ⟨g, 3, none⟩ (.int .i64 most')) g b v E most' far :=
  ⟨(World.cell?_setCell_other _ _ _ _ (by intro e; injection e with e1 e2; cases e2)).trans h.c0, (World.cell?_setCell_other _ _ _ _ (by intro e; injection e with e1 e2; cases e2)).trans h.c1, (World.cell?_setCell_other _ _ _ _ (by intro e; injection e with e1 e2; cases e2)).trans h.c2, World.cell?_setCell_same _ _ _ h.c3, (World.cell?_setCell_other _ _ _ _ (by intro e; injection e with e1 e2; cases e2)).trans h.c4, by rw [size_setCell]; exact h.lt⟩
theorem FlAt.s4 {w : World} {g : Nat} {b : Bool} {v : Value} {E most : Int} {far : Bool} (h : FlAt w g b v E most far) (far' : Bool) : FlAt (w.setCell ⟨g, 4, none⟩ (.bool far')) g b v E most far' :=
  ⟨(World.cell?_setCell_other _ _ _ _ (by intro e; injection e with e1 e2; cases e2)).trans h.c0, (World.cell?_setCell_other _ _ _ _ (by intro e; injection e with e1 e2; cases e2)).trans h.c1, (World.cell?_setCell_other _ _ _ _ (by intro e; injection e with e1 e2; cases e2)).trans h.c2, (World.cell?_setCell_other _ _ _ _ (by intro e; injection e with e1 e2; cases e2)).trans h.c3, World.cell?_setCell_same _ _ _ h.c4, by rw [size_setCell]; exact h.lt⟩
def RetFl (g A : Nat) (below : Bool) (E : Int) (w0 w : World) (e : Ending) (w' : World) : Prop :=
  ∃ (k : Nat) (v : Value), e = .returned (.pointer (some ⟨g, 0, none⟩)) ∧ 2 ^ k ∣ A ∧ IsW w' v (digs (A / 2 ^ k)) ∧ FlAt w' g below v (E + k) 53 false ∧ Grown w0 w'
theorem fl_len {A k : Nat} (hA : A ≠ 0) (hk : 2 ^ k ∣ A) : ((((digs (A / 2 ^ k)).length : Nat) : Int) == 0) = false := by
  have h1 : A / 2 ^ k ≠ 0 := by
    intro e
    have := Nat.div_mul_cancel hk
    rw [e, Nat.zero_mul] at this
    exact hA this.symm
  have := digs_len_pos h1
  rw [beq_eq_false_iff_ne]; omega
end Go.Proofs.Ytcfkhhnkboealaa
namespace Go.Proofs.Ytcfkhhnkboealaa
open Go.RowKit
set_option linter.unusedVariables false
set_option linter.unusedSimpArgs false
set_option maxRecDepth 100000
set_option maxHeartbeats 4000000
/-- a float's figures and their power. -/
structure FlIs (f A : Nat) (E : Int) : Prop where
  ne : A ≠ 0
  bl : bl A ≤ 53
  lo : -1100 ≤ E
  hi : E ≤ 1100
  val : ∀ t, rndE A (E + 1074 + t) = rndE (mval (rung f)) t
theorem mant_bits (r : Nat) (h : r < 18446744073709551616) : bits .and .u64 (r : Int) 4503599627370495 = ((r % 4503599627370496 : Nat) : Int) := by
  have := u64_and_nat r 4503599627370495 h (by decide)
  rw [show (4503599627370495 : Nat) = 2 ^ 52 - 1 from rfl, Nat.and_two_pow_sub_one_eq_mod] at this
  exact this
theorem lead_bits (m : Nat) (h : m < 4503599627370496) : bits .or .u64 (m : Int) 4503599627370496 = ((4503599627370496 + m : Nat) : Int) := by
  have := u64_or_nat m 4503599627370496 (by omega) (by decide)
  rw [Nat.or_comm, nat_join 52 4503599627370496 m (by decide) h] at this
  exact this
theorem bl_le_of {A n : Nat} (h : A < 2 ^ n) : bl A ≤ n := by
  by_cases h0 : A = 0
  · subst h0; rw [bl_zero]; exact Nat.zero_le _
  · have h1 := bl_ge h0
    have h3 := (Nat.pow_lt_pow_iff_right (show 1 < 2 by decide)).1 (Nat.lt_of_le_of_lt h1 h)
    omega
theorem flIs_of {f m k e : Nat} (hm : m ≠ 0) (hb : m < 9007199254740992) (hk : 2 ^ k ∣ m) (hv : mval (rung f) = m * 2 ^ e) (he : e ≤ 2045) : FlIs f (m / 2 ^ k) ((e : Int) - 1074 + k) := by
  have hd := Nat.div_mul_cancel hk
  have h0 : m / 2 ^ k ≠ 0 := by intro e; rw [e, Nat.zero_mul] at hd; exact hm hd.symm
  have hk53 : k ≤ 53 := by
    have h1 := Nat.le_of_dvd (Nat.pos_of_ne_zero hm) hk
    have h3 := (Nat.pow_lt_pow_iff_right (show 1 < 2 by decide)).1 (Nat.lt_of_le_of_lt h1 (show m < 2 ^ 53 from hb))
    omega
  refine ⟨h0, bl_le_of (Nat.lt_of_le_of_lt (Nat.div_le_self _ _) hb), by omega, by omega, fun t => ?_⟩
  rw [hv, rndE_shift, ← hd, rndE_shift, hd]
  congr 1; omega
theorem flIs_shift {f A k : Nat} {E n : Int} (h : FlIs f A E) (hk : 2 ^ k ∣ A) (t : Int) : rndE (A / 2 ^ k) (E + n + k + 1074 + t) = rndE (mval (rung f)) (n + t) := by
  have hd := Nat.div_mul_cancel hk
  rw [← h.val, ← hd, rndE_shift, hd]
  congr 1; omega
def RetSF (f g : Nat) (w0 w : World) (e : Ending) (w' : World) : Prop :=
  ∃ (A : Nat) (E : Int) (v : Value), e = .returned (.pointer (some ⟨g, 0, none⟩)) ∧ FlIs f A E ∧ IsW w' v (digs A) ∧ FlAt w' g (sgn f) v E 53 false ∧ Grown w0 w'
theorem digs_len_pow {A k m : Nat} (h : bl A + k ≤ 32 * m) : (digs (A * 2 ^ k)).length ≤ m := by
  apply digs_len_le
  rw [show (4294967296 : Nat) = 2 ^ 32 by decide, ← Nat.pow_mul]
  exact Nat.lt_of_lt_of_le (Nat.mul_lt_mul_of_pos_right (bl_lt A) (Nat.two_pow_pos k)) (by rw [← Nat.pow_add]; exact Nat.pow_le_pow_right (by decide) h)
theorem sgn_ite {b : Bool} {x : Nat} (h : x ≤ 9218868437227405312) : (if b = true then fneg x else x) = wd b x := by
  have h1 := wd_neg (s := false) h
  rw [wd_false', Bool.not_false] at h1
  cases b
  · rw [wd_false', if_neg (by decide)]
  · rw [if_pos rfl, h1]
/-- hands back a float and a whole number; the world has grown. -/
def RetFG2 (f : Nat) (w : World) (e : Ending) (w' : World) : Prop := ∃ r, e = .returned (.tuple #[.float .f64 r, .int .i64 0]) ∧ Rep r f ∧ Grown w w'
end Go.Proofs.Ytcfkhhnkboealaa
namespace Go.Proofs.Ytcfkhhnkboealaa
open Go.RowKit
set_option linter.unusedVariables false
set_option linter.unusedSimpArgs false
set_option maxRecDepth 100000
set_option maxHeartbeats 4000000
/-- hands back a float; the world has grown. -/
def RetFG (f : Nat) (w : World) (e : Ending) (w' : World) : Prop := ∃ r, e = .returned (.float .f64 r) ∧ Rep r f ∧ Grown w w'
theorem flNew (w : World) (t : TypeId) : FlAt (w.alloc (.cells #[.bool false, .slice none 0 0, .int .i64 0, .int .i64 0, .bool false] t)) w.heap.size false (.slice none 0 0) 0 0 false :=
  ⟨World.cell?_alloc_new .., World.cell?_alloc_new .., World.cell?_alloc_new .., World.cell?_alloc_new .., World.cell?_alloc_new .., by rw [size_alloc]; exact Nat.lt_succ_self _⟩
theorem clamp_min (n : Int) : (if -5000 < (if n < 5000 then n else 5000) then (if n < 5000 then n else 5000) else -5000) = clampN n := rfl
theorem clamp_bd (n : Int) : -5000 ≤ clampN n ∧ clampN n ≤ 5000 := by unfold clampN; split <;> split <;> omega
theorem div_ok {A k : Nat} (hA : A ≠ 0) (hb : bl A ≤ 53) (hk : 2 ^ k ∣ A) : A / 2 ^ k ≠ 0 ∧ bl (A / 2 ^ k) ≤ 53 ∧ k ≤ 53 := by
  have hd := Nat.div_mul_cancel hk
  have hlt := Nat.lt_of_lt_of_le (bl_lt A) (Nat.pow_le_pow_right (show 0 < 2 by decide) hb)
  refine ⟨fun e => ?_, bl_le_of (Nat.lt_of_le_of_lt (Nat.div_le_self _ _) hlt), ?_⟩
  · rw [e, Nat.zero_mul] at hd; exact hA hd.symm
  · have h1 := Nat.le_of_dvd (Nat.pos_of_ne_zero hA) hk
    have h3 := (Nat.pow_lt_pow_iff_right (show 1 < 2 by decide)).1 (Nat.lt_of_le_of_lt h1 hlt)
    omega
end Go.Proofs.Ytcfkhhnkboealaa
