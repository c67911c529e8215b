/- Fractions in memory by their values: sums, differences, products, squares, comparisons. -/
import Derived.Test.YtcfkhhnkboealaaFrc
import Derived.Test.YtcfkhhnkboealaaQv
namespace Go.Proofs.Ytcfkhhnkboealaa
open Go.RowKit
set_option linter.unusedVariables false
set_option linter.unusedSimpArgs false
set_option maxRecDepth 100000
set_option maxHeartbeats 4000000
/-- a fraction's value in memory; its size in digits. -/
def RatQ (w : World) (g : Nat) (r : Rat) (m : Nat) : Prop := ∃ (n : Int) (d : Nat), RatAt w g n d ∧ d ≠ 0 ∧ (n : Rat) / (d : Rat) = r ∧ (digs n.natAbs).length ≤ m ∧ (digs d).length ≤ m
theorem RatQ.grown {w w' : World} {g m : Nat} {r : Rat} (h : RatQ w g r m) (k : Grown w w') : RatQ w' g r m := by
  obtain ⟨n, d, h1, h2⟩ := h; exact ⟨n, d, h1.grown k, h2⟩
theorem RatQ.kept {w w' : World} {g g' m : Nat} {r : Rat} (h : RatQ w g r m) (k : GrB g' w w') (hne : g ≠ g') (hn : NoInt w g') : RatQ w' g r m := by
  obtain ⟨n, d, h1, h2⟩ := h; exact ⟨n, d, h1.kept k hne hn, h2⟩
theorem RatQ.z {w : World} {g m : Nat} {r : Rat} (h : RatQ w g r m) : RatZ w g := by obtain ⟨n, d, h1, h2⟩ := h; exact h1.z
theorem RatQ.lt {w : World} {g m : Nat} {r : Rat} (h : RatQ w g r m) : g < w.heap.size := h.z.lt
/-- what hands back a new fraction; what sets one that was there. -/
def RetNV (r : Rat) (m : Nat) (w : World) (e : Ending) (w' : World) : Prop := ∃ g, e = .returned (.pointer (some ⟨g, 0, none⟩)) ∧ RatQ w' g r m ∧ Grown w w' ∧ w.heap.size ≤ g
def RetSV (g : Nat) (r : Rat) (m : Nat) (w : World) (e : Ending) (w' : World) : Prop := e = .returned (.pointer (some ⟨g, 0, none⟩)) ∧ RatQ w' g r m ∧ ∃ w1, Grown w w1 ∧ GrB g w1 w'
theorem GrB2 {w w1 w' : World} {g : Nat} (h : Grown w w1) (k : GrB g w1 w') : True := trivial
theorem dQ_ne {d : Nat} (h : d ≠ 0) : (d : Rat) ≠ 0 := by
  intro e
  have : ((d : Nat) : Rat) = ((0 : Nat) : Rat) := e
  have h1 := cast_le.1 (show ((d : Nat) : Rat) ≤ ((0 : Nat) : Rat) by rw [this]; exact Rat.le_refl)
  omega
theorem q_add {n1 n2 : Int} {d1 d2 : Nat} (h1 : d1 ≠ 0) (h2 : d2 ≠ 0) : ((n1 * (d2 : Int) + n2 * (d1 : Int) : Int) : Rat) / ((d1 * d2 : Nat) : Rat) = (n1 : Rat) / (d1 : Rat) + (n2 : Rat) / (d2 : Rat) := by
  have a := dQ_ne h1
  have b := dQ_ne h2
  rw [cast_mul, Rat.intCast_add, Rat.intCast_mul, Rat.intCast_mul, icast, icast]
  grind
theorem q_mul {n1 n2 : Int} {d1 d2 : Nat} (h1 : d1 ≠ 0) (h2 : d2 ≠ 0) : ((n1 * n2 : Int) : Rat) / ((d1 * d2 : Nat) : Rat) = (n1 : Rat) / (d1 : Rat) * ((n2 : Rat) / (d2 : Rat)) := by
  have a := dQ_ne h1
  have b := dQ_ne h2
  rw [cast_mul, Rat.intCast_mul]
  grind
theorem q_neg (n : Int) (d : Nat) : ((-n : Int) : Rat) / (d : Rat) = -((n : Rat) / (d : Rat)) := by
  rw [Rat.intCast_neg]; grind
theorem len_prod {a b : Nat} {m k : Nat} (h1 : (digs a).length ≤ m) (h2 : (digs b).length ≤ k) : (digs (a * b)).length ≤ m + k := Nat.le_trans (digs_len_mul _ _) (by omega)
theorem len_iprod {a b : Int} {m k : Nat} (h1 : (digs a.natAbs).length ≤ m) (h2 : (digs b.natAbs).length ≤ k) : (digs (a * b).natAbs).length ≤ m + k := by
  rw [Int.natAbs_mul]; exact len_prod h1 h2
theorem len_isum {n1 n2 : Int} {d1 d2 m k : Nat} (h1 : (digs n1.natAbs).length ≤ m) (h2 : (digs d2).length ≤ k) (h3 : (digs n2.natAbs).length ≤ k) (h4 : (digs d1).length ≤ m) : (digs (n1 * (d2 : Int) + n2 * (d1 : Int)).natAbs).length ≤ m + k + 1 := by
  refine digs_len_iadd _ _ ?_ ?_
  · exact len_iprod h1 (by rw [Int.natAbs_natCast]; exact h2)
  · rw [Nat.add_comm m k]; exact len_iprod h3 (by rw [Int.natAbs_natCast]; exact h4)
/-- how a comparison tells. -/
def CmpS (c : Int) (r s : Rat) : Prop := (c ≤ 0 ↔ r ≤ s) ∧ (0 ≤ c ↔ s ≤ r)
theorem cmpQ_s {n1 n2 : Int} {d1 d2 : Nat} (h1 : d1 ≠ 0) (h2 : d2 ≠ 0) : CmpS (cmpQ n1 d1 n2 d2) ((n1 : Rat) / (d1 : Rat)) ((n2 : Rat) / (d2 : Rat)) := by
  have p1 : (0 : Rat) < (d1 : Rat) := by have := cast_nn d1; have := dQ_ne h1; grind
  have p2 : (0 : Rat) < (d2 : Rat) := by have := cast_nn d2; have := dQ_ne h2; grind
  have key : ∀ {n1 n2 : Int} {d1 d2 : Nat}, (0 : Rat) < (d1 : Rat) → (0 : Rat) < (d2 : Rat) → ((n1 : Rat) / (d1 : Rat) ≤ (n2 : Rat) / (d2 : Rat) ↔ n1 * d2 ≤ n2 * d1) := by
    intro n1 n2 d1 d2 p1 p2
    rw [div_le p1, ← cast_le', Rat.intCast_mul, Rat.intCast_mul, icast, icast]
    have e : (n2 : Rat) / (d2 : Rat) * (d1 : Rat) = ((n2 : Rat) * (d1 : Rat)) / (d2 : Rat) := by grind
    rw [e, le_div p2]
  unfold CmpS
  rw [key p1 p2, key p2 p1]
  unfold cmpQ
  constructor
  · split
    · omega
    · split <;> omega
  · split
    · omega
    · split <;> omega
theorem addV_c {g gx gy m k : Nat} {r s : Rat} {w : World} (hz : RatZ w g) (hx : RatQ w gx r m) (hy : RatQ w gy s k) (hm : m ≤ 10000) (hk : k ≤ 10000) :
    Calls Try.prog 21 #[.pointer (some ⟨g, 0, none⟩), .pointer (some ⟨gx, 0, none⟩), .pointer (some ⟨gy, 0, none⟩)] w (RetSV g (r + s) (m + k + 1) w) := by
  obtain ⟨n1, d1, a1, a2, rfl, a4, a5⟩ := hx
  obtain ⟨n2, d2, b1, b2, rfl, b4, b5⟩ := hy
  refine (rAdd_c hz a1 b1 (Nat.le_trans a4 hm) (Nat.le_trans a5 hm) (Nat.le_trans b4 hk) (Nat.le_trans b5 hk)).mono ?_
  rintro e w' ⟨w1, g1, rfl, hr, hg⟩
  exact ⟨rfl, ⟨_, _, hr, Nat.mul_ne_zero a2 b2, q_add a2 b2, len_isum a4 b5 b4 a5, Nat.le_succ_of_le (len_prod a5 b5)⟩, w1, g1, hg⟩
theorem subV_c {g gx gy m k : Nat} {r s : Rat} {w : World} (hz : RatZ w g) (hx : RatQ w gx r m) (hy : RatQ w gy s k) (hm : m ≤ 10000) (hk : k ≤ 10000) :
    Calls Try.prog 45 #[.pointer (some ⟨g, 0, none⟩), .pointer (some ⟨gx, 0, none⟩), .pointer (some ⟨gy, 0, none⟩)] w (RetSV g (r - s) (m + k + 1) w) := by
  obtain ⟨n1, d1, a1, a2, rfl, a4, a5⟩ := hx
  obtain ⟨n2, d2, b1, b2, rfl, b4, b5⟩ := hy
  refine (rSub_c hz a1 b1 (Nat.le_trans a4 hm) (Nat.le_trans a5 hm) (Nat.le_trans b4 hk) (Nat.le_trans b5 hk)).mono ?_
  rintro e w' ⟨w1, g1, rfl, hr, hg⟩
  exact ⟨rfl, ⟨_, _, hr, Nat.mul_ne_zero a2 b2, by rw [q_add a2 b2, q_neg]; grind, len_isum a4 b5 (by rw [Int.natAbs_neg]; exact b4) a5, Nat.le_succ_of_le (len_prod a5 b5)⟩, w1, g1, hg⟩
theorem mulV_c {g gx gy m k : Nat} {r s : Rat} {w : World} (hz : RatZ w g) (hx : RatQ w gx r m) (hy : RatQ w gy s k) (hgx : gx ≠ g) (hgy : gy ≠ g) (hm : m ≤ 10000) (hk : k ≤ 10000) :
    Calls Try.prog 32 #[.pointer (some ⟨g, 0, none⟩), .pointer (some ⟨gx, 0, none⟩), .pointer (some ⟨gy, 0, none⟩)] w (RetSV g (r * s) (m + k) w) := by
  obtain ⟨n1, d1, a1, a2, rfl, a4, a5⟩ := hx
  obtain ⟨n2, d2, b1, b2, rfl, b4, b5⟩ := hy
  refine (rMul_c hz a1 b1 hgx hgy (Nat.le_trans a4 hm) (Nat.le_trans a5 hm) (Nat.le_trans b4 hk) (Nat.le_trans b5 hk)).mono ?_
  rintro e w' ⟨w1, g1, rfl, hr, hg⟩
  exact ⟨rfl, ⟨_, _, hr, Nat.mul_ne_zero a2 b2, q_mul a2 b2, len_iprod a4 b4, len_prod a5 b5⟩, w1, g1, hg⟩
/-- a comparison's answer; a sign's. -/
def RetCmp (r s : Rat) (w : World) (e : Ending) (w' : World) : Prop := ∃ c : Int, e = .returned (.int .i64 c) ∧ CmpS c r s ∧ Grown w w'
theorem cmpV_c {gx gy m k : Nat} {r s : Rat} {w : World} (hx : RatQ w gx r m) (hy : RatQ w gy s k) (hm : m ≤ 10000) (hk : k ≤ 10000) :
    Calls Try.prog 25 #[.pointer (some ⟨gx, 0, none⟩), .pointer (some ⟨gy, 0, none⟩)] w (RetCmp r s w) := by
  obtain ⟨n1, d1, a1, a2, rfl, a4, a5⟩ := hx
  obtain ⟨n2, d2, b1, b2, rfl, b4, b5⟩ := hy
  refine (rcmp_c a1 b1 (Nat.le_trans a4 hm) (Nat.le_trans a5 hm) (Nat.le_trans b4 hk) (Nat.le_trans b5 hk)).mono ?_
  rintro e w' ⟨rfl, hg⟩
  exact ⟨_, rfl, cmpQ_s a2 b2, hg⟩
theorem signV_c {gx m : Nat} {r : Rat} {w : World} (hx : RatQ w gx r m) : Calls Try.prog 43 #[.pointer (some ⟨gx, 0, none⟩)] w (RetCmp r 0 w) := by
  obtain ⟨n1, d1, a1, a2, rfl, a4, a5⟩ := hx
  refine (rsign_c a1).mono ?_
  rintro e w' ⟨k, rfl, rfl⟩
  have h := cmpQ_s (n1 := n1) (n2 := 0) (d1 := d1) (d2 := 1) a2 (by decide)
  have e0 : ((0 : Int) : Rat) / ((1 : Nat) : Rat) = 0 := by decide +kernel
  rw [e0] at h
  refine ⟨_, rfl, ?_, gr_drewN _ (Grown.refl w)⟩
  have : cmpQ n1 d1 0 1 = (if n1 < 0 then -1 else if 0 < n1 then 1 else 0) := by
    unfold cmpQ
    simp
  rw [← this]; exact h
theorem fracV_c {f : Nat} (w : World) (hl : f < 18446744073709551616) (hf : fin f = true) : Calls Try.prog 37 #[.float .f64 f] w (RetNV (qv f) 100 w) := by
  refine (fracQ_c w hl hf).mono ?_
  rintro e w' ⟨g, rfl, hr, hg, hge⟩
  exact ⟨g, rfl, ⟨_, _, hr, Nat.ne_of_gt (Nat.two_pow_pos _), rfl, digs_sval hf, digs_U⟩, hg, hge⟩
theorem squareV_c {gx m : Nat} {r : Rat} {w : World} (hx : RatQ w gx r m) (hm : m ≤ 10000) : Calls Try.prog 40 #[.pointer (some ⟨gx, 0, none⟩)] w (RetNV (r * r) (m + m) w) := by
  obtain ⟨n1, d1, a1, a2, rfl, a4, a5⟩ := hx
  refine (squareQ_c a1 (Nat.le_trans a4 hm) (Nat.le_trans a5 hm)).mono ?_
  rintro e w' ⟨g, rfl, hr, hg, hge⟩
  exact ⟨g, rfl, ⟨_, _, hr, Nat.mul_ne_zero a2 a2, q_mul a2 a2, len_iprod a4 a4, len_prod a5 a5⟩, hg, hge⟩
theorem normV_c {gx gy m k : Nat} {r s : Rat} {w : World} (hx : RatQ w gx r m) (hy : RatQ w gy s k) (hm : m ≤ 5000) (hk : k ≤ 5000) :
    Calls Try.prog 38 #[.pointer (some ⟨gx, 0, none⟩), .pointer (some ⟨gy, 0, none⟩)] w (RetNV (r * r + s * s) (m + m + (k + k) + 1) w) := by
  obtain ⟨n1, d1, a1, a2, rfl, a4, a5⟩ := hx
  obtain ⟨n2, d2, b1, b2, rfl, b4, b5⟩ := hy
  have c1 := len_iprod a4 a4
  have c2 := len_iprod b4 b4
  have c3 := len_prod a5 a5
  have c4 := len_prod b5 b5
  refine (normQ_c a1 b1 (Nat.le_trans a4 hm) (Nat.le_trans a5 hm) (Nat.le_trans b4 hk) (Nat.le_trans b5 hk) (by omega) (by omega) (by omega) (by omega)).mono ?_
  rintro e w' ⟨g, rfl, hr, hg, hge⟩
  have z1 := Nat.mul_ne_zero a2 a2
  have z2 := Nat.mul_ne_zero b2 b2
  exact ⟨g, rfl, ⟨_, _, hr, Nat.mul_ne_zero z1 z2, by rw [q_add z1 z2, q_mul a2 a2, q_mul b2 b2], len_isum c1 c4 c2 c3, Nat.le_succ_of_le (len_prod c3 c4)⟩, hg, hge⟩
theorem underV_c {l : Nat} (w : World) (hl : l < 9218868437227405312) : Calls Try.prog 41 #[.float .f64 l, .int .i64 4] w (RetNV (qv (l - 4)) 100 w) := by
  refine (under_c w hl).mono ?_
  rintro e w' ⟨g, rfl, hr, hg, hge⟩
  exact ⟨g, rfl, ⟨_, _, hr, Nat.ne_of_gt (Nat.two_pow_pos _), rfl, digs_sval (fin_pos (by omega)).1, digs_U⟩, hg, hge⟩
theorem aboveV_c {l : Nat} (w : World) (hl : l < 9218868437227405312) : Calls Try.prog 42 #[.float .f64 l, .int .i64 4] w (RetNV ((abN l : Rat) / (U : Rat)) 200 w) := by
  refine (above_c w hl).mono ?_
  rintro e w' ⟨g, rfl, hr, hg, hge⟩
  refine ⟨g, rfl, ⟨_, _, hr, Nat.ne_of_gt (Nat.two_pow_pos _), rfl, ?_, Nat.le_trans digs_U (by decide)⟩, hg, hge⟩
  unfold abN
  split
  · rename_i h; exact Nat.le_trans (digs_sval (fin_pos h).1) (by decide)
  · exact Nat.le_trans (len_iprod (digs_sval (f := 9218868437227405311) (by decide +kernel)) (show (digs (2 : Int).natAbs).length ≤ 100 by decide +kernel)) (by decide)
end Go.Proofs.Ytcfkhhnkboealaa
