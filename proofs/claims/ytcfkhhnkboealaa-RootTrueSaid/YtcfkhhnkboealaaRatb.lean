/- Fractions: of floats, sums, products, quotients, how they compare, and the float of one. -/
import Derived.Test.YtcfkhhnkboealaaRat
import Derived.Test.YtcfkhhnkboealaaWde
namespace Go.Proofs.Ytcfkhhnkboealaa
open Go.RowKit
set_option linter.unusedVariables false
set_option linter.unusedSimpArgs false
set_option maxRecDepth 100000
set_option maxHeartbeats 4000000
theorem RatV.scale {n : Int} {d N D c : Nat} {b : Bool} (h : RatV n d b N D) (hc : c ≠ 0) : RatV (n * c) (d * c) b N D := by
  obtain ⟨k, h0, h1, h2⟩ := h.ex
  refine ⟨⟨k * c, Nat.mul_ne_zero h0 hc, by rw [h1]; ac_rfl, by rw [h2, Int.natCast_mul]; ac_rfl⟩, h.nz⟩
theorem RatAt.scale {w : World} {g d : Nat} {n : Int} (h : RatAt w g n d) {c : Nat} (hc : c ≠ 0) : RatAt w g (n * c) (d * c) := by
  obtain ⟨b, v1, v2, N, D, h1, h2, h3, h4⟩ := h
  exact ⟨b, v1, v2, N, D, h1, h2, h3, h4.scale hc⟩
theorem RetR.scale {g d : Nat} {n : Int} {w w' : World} {e : Ending} (h : RetR g n d w e w') {c : Nat} (hc : c ≠ 0) : RetR g (n * c) (d * c) w e w' := ⟨h.1, h.2.1.scale hc, h.2.2⟩
theorem RetR.eq {g d d' : Nat} {n n' : Int} {w w' : World} {e : Ending} (h : RetR g n d w e w') (h1 : n = n') (h2 : d = d') : RetR g n' d' w e w' := by subst h1 h2; exact h
theorem sg_natAbs (b : Bool) (N : Nat) : (sg b N).natAbs = N := by unfold sg; cases b <;> simp
theorem sg_neg (b : Bool) (N : Nat) : decide (sg b N < 0) = (b && decide (N ≠ 0)) := by
  unfold sg; cases b
  · simp
  · have : decide (-(N : Int) < 0) = decide (N ≠ 0) := by rw [decide_eq_decide]; omega
    simpa using this
theorem RatV.le {n : Int} {d N D : Nat} {b : Bool} (h : RatV n d b N D) : N ≤ n.natAbs ∧ dd D ≤ d := by
  obtain ⟨k, h0, h1, h2⟩ := h.ex
  constructor
  · rw [h2, Int.natAbs_mul, sg_natAbs, Int.natAbs_natCast]; exact Nat.le_mul_of_pos_left _ (Nat.pos_of_ne_zero h0)
  · rw [h1]; exact Nat.le_mul_of_pos_left _ (Nat.pos_of_ne_zero h0)
theorem RatV.dne {n : Int} {d N D : Nat} {b : Bool} (h : RatV n d b N D) : d ≠ 0 := by
  obtain ⟨k, h0, h1, h2⟩ := h.ex
  rw [h1]; exact Nat.mul_ne_zero h0 (dd_ne D)
theorem digs_len_mul (A B : Nat) : (digs (A * B)).length ≤ (digs A).length + (digs B).length := by
  apply digs_len_le
  rw [Nat.pow_add]
  by_cases h : B = 0
  · subst h; rw [Nat.mul_zero]; exact Nat.mul_pos (Nat.pow_pos (by decide)) (Nat.pow_pos (by decide))
  · exact Nat.lt_of_lt_of_le (Nat.mul_lt_mul_of_pos_right (digs_lt A) (Nat.pos_of_ne_zero h)) (Nat.mul_le_mul_left _ (Nat.le_of_lt (digs_lt B)))
theorem digs_len_add (A B : Nat) {n : Nat} (h1 : (digs A).length ≤ n) (h2 : (digs B).length ≤ n) : (digs (A + B)).length ≤ n + 1 := by
  apply digs_len_le
  have a := digs_lt A
  have b := digs_lt B
  have a2 : 4294967296 ^ (digs A).length ≤ 4294967296 ^ n := Nat.pow_le_pow_right (by decide) h1
  have b2 : 4294967296 ^ (digs B).length ≤ 4294967296 ^ n := Nat.pow_le_pow_right (by decide) h2
  rw [Nat.pow_succ]
  omega
theorem below_c {g D : Nat} {b : Bool} {v1 v2 : Value} {w : World} (h : RatC w g b v1 v2) (hd : IsW w v2 (digs D)) : Calls Try.prog 97 #[.pointer (some ⟨g, 0, none⟩)] w (RetW (dd D) w) := by
  have c2 := h.c2
  have HD := Lib.hid hd
  obtain ⟨s, c, rfl, _, _, _⟩ := hd
  by_cases hz : D = 0
  · subst hz
    have hl : (digs 0).length = 0 := rfl
    go_enter Try.func97, Try.ntmps97
    go_wp2
    go_ret
    exact ⟨_, rfl, isW_new1 _ 1 _, (Grown.refl w).alloc _ _⟩
  · have h0 := digs_len_pos hz
    have hl : (((digs D).length : Int) == 0) = false := by rw [beq_eq_false_iff_ne]; omega
    have HE := Lib.hid (show dd D = D from by unfold dd; rw [if_neg hz])
    go_enter Try.func97, Try.ntmps97
    go_wp2
    go_ret
    exact ⟨_, rfl, by rw [HE.out]; exact HD.out, Grown.refl w⟩
theorem isign_c {g N : Nat} {b : Bool} {v : Value} {w : World} (h : IntC w g b v) (hd : IsW w v (digs N)) (hz : N = 0 → b = false) : Calls Try.prog 109 #[.pointer (some ⟨g, 0, none⟩)] w (RetZ (if sg b N < 0 then -1 else if 0 < sg b N then 1 else 0) w) := by
  have c0 := h.c0
  have c1 := h.c1
  obtain ⟨r, hr⟩ : ∃ r : Int, (if sg b N < 0 then -1 else if 0 < sg b N then 1 else 0) = r := ⟨_, rfl⟩
  rw [hr]
  have HR := Lib.hid hr
  clear hr
  obtain ⟨s, c, rfl, _, _, _⟩ := hd
  by_cases h0 : N = 0
  · subst h0
    have hb := hz rfl
    subst hb
    have hl : (digs 0).length = 0 := rfl
    go_enter Try.func109, Try.ntmps109
    go_wp2
    go_ret
    exact RetZ.mk0 (by rw [← HR.out]; rfl)
  · have h1 := digs_len_pos h0
    have hl : (((digs N).length : Int) == 0) = false := by rw [beq_eq_false_iff_ne]; omega
    have H0 := Lib.hid h0
    cases b
    all_goals
      go_enter Try.func109, Try.ntmps109
      go_wp2
      go_ret
      have := H0.out
      exact RetZ.mk0 (by rw [← HR.out]; unfold sg; simp; omega)
theorem rsign_c {g d : Nat} {n : Int} {w : World} (h : RatAt w g n d) : Calls Try.prog 43 #[.pointer (some ⟨g, 0, none⟩)] w (RetZ (if n < 0 then -1 else if 0 < n then 1 else 0) w) := by
  obtain ⟨b, v1, v2, N, D, h1, h2, h3, h4⟩ := h
  have HS := Lib.hid (isign_c h1.i h2 h4.nz)
  have HE : RowKit.Hid ((if sg b N < 0 then (-1 : Int) else if 0 < sg b N then 1 else 0) = (if n < 0 then -1 else if 0 < n then 1 else 0)) := Lib.hid (by
    obtain ⟨k, k0, _, e⟩ := h4.ex
    have k1 : (0 : Int) < k := by omega
    rw [e]
    rcases Int.lt_trichotomy (sg b N) 0 with p | p | p
    · have := Int.mul_neg_of_pos_of_neg k1 p
      rw [if_pos p, if_pos this]
    · rw [p, Int.mul_zero]
    · have := Int.mul_pos k1 p
      rw [if_neg (by omega), if_pos p, if_neg (by omega), if_pos this])
  obtain ⟨r, hr⟩ : ∃ r : Int, (if n < 0 then -1 else if 0 < n then 1 else 0) = r := ⟨_, rfl⟩
  rw [hr] at HE ⊢
  clear h1 h2 h3 h4 hr
  go_enter Try.func43, Try.ntmps43
  go_wp2_with (first
    | (go_at_call 109; (with_reducible refine HS.out.mono ?_); rw [HE.out]; rintro e w' ⟨n1, rfl, rfl⟩)
    | fail)
  go_ret
  exact RetZ.mk _ rfl
/-- a whole number, set. -/
def RetIS (g : Nat) (S : Int) (w : World) (e : Ending) (w' : World) : Prop :=
  ∃ v, e = .returned (.pointer (some ⟨g, 0, none⟩)) ∧ IsW w' v (digs S.natAbs) ∧ IntC w' g (decide (S < 0)) v ∧ GrB g w w' ∧ ∀ j, 2 ≤ j → w'.cell? ⟨g, j, none⟩ = w.cell? ⟨g, j, none⟩
theorem RetI2.to {g A : Nat} {below : Bool} {S : Int} {w w' : World} {e : Ending} (h : RetI2 g below A w e w') (hS : S = sg below A) : RetIS g S w e w' := by
  obtain ⟨v, h1, h2, h3, h4, h5⟩ := h
  subst hS
  exact ⟨v, h1, by rw [sg_natAbs]; exact h2, by rw [sg_neg]; exact h3, h4, h5⟩
theorem iadded_c {g A B : Nat} {b0 below other : Bool} {v0 va vb : Value} {w : World} (hI : IntC w g b0 v0) (ha : IsW w va (digs A)) (hb : IsW w vb (digs B)) (lA : (digs A).length ≤ 100000) (lB : (digs B).length ≤ 100000) :
    Calls Try.prog 169 #[.pointer (some ⟨g, 0, none⟩), va, .bool below, vb, .bool other] w (RetIS g (sg below A + sg other B) w) := by
  have HI := Lib.hid hI
  have HA := Lib.hid ha
  have HB := Lib.hid hb
  have HS := Lib.hid digs_sm
  have HW := Lib.hid wv_digs
  by_cases hbo : below = other
  · subst hbo
    have HAD := Lib.hid (addW_c ha hb (by omega) (by omega))
    have HE := Lib.hid (show sg below A + sg below B = sg below (A + B) from by unfold sg; cases below <;> simp <;> omega)
    clear hI ha hb
    cases below
    all_goals
      go_enter Try.func169, Try.ntmps169
      go_wp2_with (first
        | (go_at_call 182; (with_reducible refine HAD.out.mono ?_); rintro e w1 ⟨v1, rfl, hv1, hg1⟩; have HV1 := Lib.hid hv1; have HG1 := Lib.hid hg1; clear hv1 hg1)
        | (go_at_call 100; (with_reducible refine (iset_c (HI.out.grown HG1.out) HV1.out (HS.out _) (HW.out _)).mono ?_); rintro e w2 ⟨v2, rfl, hv2, hi2, hg2, hk2⟩)
        | fail)
      go_ret
      exact RetI2.to ⟨v2, rfl, hv2, hi2, (GrB.of HG1.out).trans hg2, fun j hj => (hk2 j hj).trans (grown_cell HG1.out HI.out.lt)⟩ HE.out
  · have hbo2 : (below == other) = false := by simpa using hbo
    by_cases hle : B ≤ A
    · have HSB := Lib.hid (fun n => subW_c (ha.drewN n) (hb.drewN n) hle (by omega))
      have HE := Lib.hid (show sg below A + sg other B = sg below (A - B) from by unfold sg; cases below <;> cases other <;> simp at hbo ⊢ <;> omega)
      have HCM := Lib.hid (cmp_c ha hb)
      have HC := Lib.hid (cmpI_ge' hle)
      clear hI ha hb
      obtain ⟨c, hc⟩ : ∃ c, cmpI A B = c := ⟨_, rfl⟩
      have HCC := Lib.hid hc
      have hc0 : (0 : Int) ≤ c := by rw [← hc]; rcases HC.out with e | e <;> rw [e] <;> decide
      have hc1 : c ≤ 1 := by rw [← hc]; rcases HC.out with e | e <;> rw [e] <;> decide
      clear hc
      cases below <;> cases other <;> simp at hbo
      all_goals
        go_enter Try.func169, Try.ntmps169
        go_wp2_with (first
          | (go_at_call 95; (with_reducible refine HCM.out.mono ?_); rw [HCC.out]; rintro e w0 ⟨n0, rfl, rfl⟩)
          | (go_at_call 183; (with_reducible refine (HSB.out _).mono ?_); rintro e w1 ⟨v1, rfl, hv1, hg1⟩; have HV1 := Lib.hid hv1; have HG1 := Lib.hid (gr_trans (gr_drewN _ (Grown.refl w)) hg1); clear hv1 hg1)
          | (go_at_call 100; (with_reducible refine (iset_c (HI.out.grown HG1.out) HV1.out (HS.out _) (HW.out _)).mono ?_); rintro e w2 ⟨v2, rfl, hv2, hi2, hg2, hk2⟩)
          | fail)
        go_ret
        exact RetI2.to ⟨v2, rfl, hv2, hi2, (GrB.of HG1.out).trans hg2, fun j hj => (hk2 j hj).trans (grown_cell HG1.out HI.out.lt)⟩ HE.out
    · have HSB := Lib.hid (fun n => subW_c (hb.drewN n) (ha.drewN n) (by omega) (by omega))
      have HE := Lib.hid (show sg below A + sg other B = sg other (B - A) from by unfold sg; cases below <;> cases other <;> simp at hbo ⊢ <;> omega)
      have HCM := Lib.hid (cmp_c ha hb)
      have HC := Lib.hid (cmpI_lt (A := A) (B := B) (by omega))
      clear hI ha hb
      cases below <;> cases other <;> simp at hbo
      all_goals
        go_enter Try.func169, Try.ntmps169
        go_wp2_with (first
          | (go_at_call 95; (with_reducible refine HCM.out.mono ?_); rw [HC.out]; rintro e w0 ⟨n0, rfl, rfl⟩)
          | (go_at_call 183; (with_reducible refine (HSB.out _).mono ?_); rintro e w1 ⟨v1, rfl, hv1, hg1⟩; have HV1 := Lib.hid hv1; have HG1 := Lib.hid (gr_trans (gr_drewN _ (Grown.refl w)) hg1); clear hv1 hg1)
          | (go_at_call 100; (with_reducible refine (iset_c (HI.out.grown HG1.out) HV1.out (HS.out _) (HW.out _)).mono ?_); rintro e w2 ⟨v2, rfl, hv2, hi2, hg2, hk2⟩)
          | fail)
        go_ret
        exact RetI2.to ⟨v2, rfl, hv2, hi2, (GrB.of HG1.out).trans hg2, fun j hj => (hk2 j hj).trans (grown_cell HG1.out HI.out.lt)⟩ HE.out
theorem iadd_c {g gx gy A B : Nat} {b0 bx by' : Bool} {v0 vx vy : Value} {w : World} (hI : IntC w g b0 v0) (hx : IntC w gx bx vx) (hy : IntC w gy by' vy) (ha : IsW w vx (digs A)) (hb : IsW w vy (digs B)) (lA : (digs A).length ≤ 100000) (lB : (digs B).length ≤ 100000) :
    Calls Try.prog 144 #[.pointer (some ⟨g, 0, none⟩), .pointer (some ⟨gx, 0, none⟩), .pointer (some ⟨gy, 0, none⟩)] w (RetIS g (sg bx A + sg by' B) w) := by
  have x0 := hx.c0
  have x1 := hx.c1
  have y0 := hy.c0
  have y1 := hy.c1
  have HAD := Lib.hid (fun (W : World) (hg : Grown w W) => iadded_c (below := bx) (other := by') (hI.grown hg) (ha.grown hg) (hb.grown hg) lA lB)
  clear hI hx hy ha hb
  go_enter Try.func144, Try.ntmps144
  go_upto_region 1 with fail
  go_region_with (first
    | (go_at_call 169; (with_reducible refine (HAD.out _ (gr_drew1 (Grown.refl w))).mono ?_); rintro e w1 ⟨v1, rfl, hv1, hi1, hg1, hk1⟩)
    | fail)
  all_goals
    go_wp2_with fail
    go_ret
    exact ⟨v1, rfl, hv1, hi1, hg1, hk1⟩
end Go.Proofs.Ytcfkhhnkboealaa
