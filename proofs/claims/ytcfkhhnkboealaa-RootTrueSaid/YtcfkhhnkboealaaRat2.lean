/- Fractions: of floats, sums, products, quotients, how they compare, and the float of one. -/
import Derived.Test.YtcfkhhnkboealaaRatb
namespace Go.Proofs.Ytcfkhhnkboealaa
open Go.RowKit
set_option linter.unusedVariables false
set_option linter.unusedSimpArgs false
set_option maxRecDepth 100000
set_option maxHeartbeats 4000000
theorem intNew {w0 w : World} (h : Grown w0 w) (t : TypeId) : IntC (w.alloc (.cells #[.bool false, .slice none 0 0] t)) w.heap.size false (.slice none 0 0) := by
  refine ⟨World.cell?_alloc_new .., World.cell?_alloc_new .., fun j x e => ?_, by rw [size_alloc]; exact Nat.lt_succ_self _, fun j => Row.free ((Grown.refl w).alloc _ _) (Nat.le_refl _)⟩
  rw [World.cell?_alloc_new] at e
  match j, e with
  | 0, e => simp at e
  | 1, e => simp at e
  | k + 2, e => simp at e
theorem sg_of (S : Int) : sg (decide (S < 0)) S.natAbs = S := by
  unfold sg
  by_cases h : S < 0
  · rw [if_pos (by simpa using h)]; omega
  · rw [if_neg (by simpa using h)]; omega
theorem bne_eq (a b : Bool) : (!a == b) = (a != b) := by cases a <;> cases b <;> rfl
theorem sg_and (b : Bool) (N : Nat) : sg (b && decide (N ≠ 0)) N = sg b N := by
  by_cases h : N = 0
  · subst h; cases b <;> rfl
  · simp [h]
theorem radded_c {g gx gy d1 d2 : Nat} {n1 n2 m2 : Int} {turned : Bool} {w : World} (hm : (if turned then -n2 else n2) = m2) (hz : RatZ w g) (hx : RatAt w gx n1 d1) (hy : RatAt w gy n2 d2)
    (ln1 : (digs n1.natAbs).length ≤ 10000) (ld1 : (digs d1).length ≤ 10000) (ln2 : (digs n2.natAbs).length ≤ 10000) (ld2 : (digs d2).length ≤ 10000) :
    Calls Try.prog 93 #[.pointer (some ⟨g, 0, none⟩), .pointer (some ⟨gx, 0, none⟩), .pointer (some ⟨gy, 0, none⟩), .bool turned] w (fun e w' => ∃ w1, Grown w w1 ∧ RetR g (n1 * d2 + m2 * d1) (d1 * d2) w1 e w') := by
  obtain ⟨bx, vx1, vx2, Nx, Dx, hx1, hx2, hx3, hx4⟩ := hx
  obtain ⟨by', vy1, vy2, Ny, Dy, hy1, hy2, hy3, hy4⟩ := hy
  have lNx : (digs Nx).length ≤ 10000 := Nat.le_trans (digs_mono hx4.le.1) ln1
  have lDx : (digs (dd Dx)).length ≤ 10000 := Nat.le_trans (digs_mono hx4.le.2) ld1
  have lNy : (digs Ny).length ≤ 10000 := Nat.le_trans (digs_mono hy4.le.1) ln2
  have lDy : (digs (dd Dy)).length ≤ 10000 := Nat.le_trans (digs_mono hy4.le.2) ld2
  have lA : (digs (Nx * dd Dy)).length ≤ 20000 := Nat.le_trans (digs_len_mul _ _) (by omega)
  have lB : (digs (Ny * dd Dx)).length ≤ 20000 := Nat.le_trans (digs_len_mul _ _) (by omega)
  have lD : (digs (dd Dx * dd Dy)).length ≤ 20000 := Nat.le_trans (digs_len_mul _ _) (by omega)
  have hlt : ∀ x, x < w.heap.size → x ≠ w.heap.size := fun x h => by omega
  have HZ := Lib.hid hz
  have HX1 := Lib.hid hx1
  have HX2 := Lib.hid hx2
  have HX3 := Lib.hid hx3
  have HY1 := Lib.hid hy1
  have HY2 := Lib.hid hy2
  have HY3 := Lib.hid hy3
  have HS := Lib.hid digs_sm
  have HW := Lib.hid wv_digs
  obtain ⟨S, hS⟩ : ∃ S : Int, sg bx (Nx * dd Dy) + sg (by' != turned) (Ny * dd Dx) = S := ⟨_, rfl⟩
  have HSS := Lib.hid hS
  have lS : (digs S.natAbs).length ≤ 20001 := by
    rw [← hS]
    refine Nat.le_trans (digs_mono (Int.natAbs_add_le _ _)) ?_
    rw [sg_natAbs, sg_natAbs]
    exact digs_len_add _ _ lA lB
  have HV : RowKit.Hid (∃ c : Nat, c ≠ 0 ∧ n1 * d2 + m2 * d1 = S * c ∧ d1 * d2 = dd Dx * dd Dy * c) := Lib.hid (by
    obtain ⟨k, k0, e1, e2⟩ := hx4.ex
    obtain ⟨m, m0, f1, f2⟩ := hy4.ex
    refine ⟨k * m, Nat.mul_ne_zero k0 m0, ?_, by rw [e1, f1]; ac_rfl⟩
    rw [← hS, ← hm, e1, e2, f1, f2]
    unfold sg
    cases bx <;> cases by' <;> cases turned <;> simp <;> grind)
  have x0 := hx1.i.c0
  have x1 := hx1.i.c1
  have HLT := Lib.hid (And.intro hx1.i.lt (And.intro hy1.i.lt hz.lt))
  clear hz hx1 hx2 hx3 hx4 hy1 hy2 hy3 hy4 hS hm
  go_enter Try.func93, Try.ntmps93
  go_upto_region 3 with fail
  obtain ⟨W, eW⟩ : ∃ W, ((w.alloc (.cells #[.bool false, .slice none 0 0] 38)).alloc (.cells #[.bool false, .slice none 0 0] 38)) = W := ⟨_, rfl⟩
  rw [eW]
  have HG : RowKit.Hid (Grown w W) := Lib.hid (by rw [← eW]; exact ((Grown.refl w).alloc _ _).alloc _ _)
  have HIA : RowKit.Hid (IntC W w.heap.size false (.slice none 0 0)) := Lib.hid (by
    rw [← eW]; exact (intNew (Grown.refl w) _).grown ((Grown.refl _).alloc _ _))
  have HIB : RowKit.Hid (IntC W (w.heap.size + 1) false (.slice none 0 0)) := Lib.hid (by
    have := intNew (Grown.refl (w.alloc (.cells #[.bool false, .slice none 0 0] 38))) 38
    rw [size_alloc] at this
    rw [← eW]; exact this)
  clear eW
  have x0 := (HX1.out.grown HG.out).i.c0
  have x1 := (HX1.out.grown HG.out).i.c1
  go_region_held3 (fun w' => w'.cell? ⟨gx, 0, none⟩ = some (.bool bx) ∧ w'.cell? ⟨gx, 1, none⟩ = some vx1) (first | exact ⟨by assumption, by assumption⟩ | go_keep) (first
    | (go_at_call 97; (with_reducible refine (below_c (HY1.out.grown (gr_drew1 HG.out)) (HY3.out.grown (gr_drew1 HG.out))).mono ?_); rintro e W1 ⟨u1, rfl, hv, hg⟩; have HU1 := Lib.hid hv; have HG1 := Lib.hid (gr_trans (gr_drew1 (Grown.refl W)) hg); have y0 := (HX1.out.grown (gr_trans HG.out HG1.out)).i.c0; have y1 := (HX1.out.grown (gr_trans HG.out HG1.out)).i.c1; clear hv hg)
    | (go_at_call 96; (with_reducible refine (mulW_c (HX2.out.grown (gr_trans HG.out HG1.out)) HU1.out (Nat.le_trans lNx (by decide)) (Nat.le_trans lDy (by decide))).mono ?_); rintro e W2 ⟨u2, rfl, hv, hg⟩; have HU2 := Lib.hid hv; have HG2 := Lib.hid (gr_trans HG1.out hg); have z0 := (HX1.out.grown (gr_trans HG.out HG2.out)).i.c0; have z1 := (HX1.out.grown (gr_trans HG.out HG2.out)).i.c1; clear hv hg)
    | (go_at_call 100; (with_reducible refine (iset_c (HIA.out.grown HG2.out) HU2.out (HS.out _) (HW.out _)).mono ?_); rintro e W3 ⟨va, rfl, hv, hi, hg, _⟩; have HVA := Lib.hid hv; have HIA3 := Lib.hid hi; have HG3 := Lib.hid (hg.grown (gr_trans HG.out HG2.out) (Nat.le_refl _)); have HIB3 := Lib.hid ((HIB.out.grown HG2.out).kept hg (by omega)); have t0 := (HX1.out.grown HG3.out).i.c0; have t1 := (HX1.out.grown HG3.out).i.c1; clear hv hi hg)
    | fail)
  go_upto_region 4 with fail
  have p0 := (HY1.out.grown HG3.out).i.c0
  have p1 := (HY1.out.grown HG3.out).i.c1
  go_region_held3 (fun w' => w'.cell? ⟨gy, 0, none⟩ = some (.bool by') ∧ w'.cell? ⟨gy, 1, none⟩ = some vy1) (first | exact ⟨by assumption, by assumption⟩ | go_keep) (first
    | (go_at_call 97; (with_reducible refine (below_c (HX1.out.grown (gr_drew1 HG3.out)) (HX3.out.grown (gr_drew1 HG3.out))).mono ?_); rintro e W4 ⟨u3, rfl, hv, hg⟩; have HU3 := Lib.hid hv; have HG4 := Lib.hid (gr_trans (gr_drew1 (Grown.refl W3)) hg); have y0 := (HY1.out.grown (gr_trans HG3.out HG4.out)).i.c0; have y1 := (HY1.out.grown (gr_trans HG3.out HG4.out)).i.c1; clear hv hg)
    | (go_at_call 96; (with_reducible refine (mulW_c (HY2.out.grown (gr_trans HG3.out HG4.out)) HU3.out (Nat.le_trans lNy (by decide)) (Nat.le_trans lDx (by decide))).mono ?_); rintro e W5 ⟨u4, rfl, hv, hg⟩; have HU4 := Lib.hid hv; have HG5 := Lib.hid (gr_trans HG4.out hg); have z0 := (HY1.out.grown (gr_trans HG3.out HG5.out)).i.c0; have z1 := (HY1.out.grown (gr_trans HG3.out HG5.out)).i.c1; clear hv hg)
    | (go_at_call 100; (with_reducible refine (iset_c (HIB3.out.grown HG5.out) HU4.out (HS.out _) (HW.out _)).mono ?_); rintro e W6 ⟨vb, rfl, hv, hi, hg, _⟩; have HVB := Lib.hid hv; have HIB6 := Lib.hid hi; have HG6 := Lib.hid (hg.grown (gr_trans HG3.out HG5.out) (Nat.le_succ _)); have HIA6 := Lib.hid ((HIA3.out.grown HG5.out).kept hg (by omega)); have HVA6 := Lib.hid ((HVA.out.grown HG5.out).kept hg (HIB3.out.grown HG5.out).no); have t0 := (HY1.out.grown HG6.out).i.c0; have t1 := (HY1.out.grown HG6.out).i.c1; clear hv hi hg)
    | fail)
  have HSE := HSS.out
  have HL := HLT.out
  go_upto_region 7 with (first
    | (go_at_call_of 97 (Value.pointer (some (Addr.mk gx 0 none))); (with_reducible refine (below_c (HX1.out.grown HG6.out) (HX3.out.grown HG6.out)).mono ?_); rintro e W7 ⟨u5, rfl, hv, hg⟩; have HU5 := Lib.hid hv; have HG7 := Lib.hid hg; clear hv hg)
    | (go_at_call 97; (with_reducible refine (below_c (HY1.out.grown (gr_trans HG6.out HG7.out)) (HY3.out.grown (gr_trans HG6.out HG7.out))).mono ?_); rintro e W8 ⟨u6, rfl, hv, hg⟩; have HU6 := Lib.hid hv; have HU5' := Lib.hid (HU5.out.grown hg); have HG8 := Lib.hid (gr_trans HG7.out hg); clear hv hg)
    | (go_at_call 96; (with_reducible refine (mulW_c HU5'.out HU6.out (Nat.le_trans lDx (by decide)) (Nat.le_trans lDy (by decide))).mono ?_); rintro e W9 ⟨ud, rfl, hv, hg⟩; have HUD := Lib.hid hv; have HG9 := Lib.hid (gr_trans HG8.out hg); clear hv hg)
    | (go_at_call 144; (with_reducible refine (iadd_c (HIA6.out.grown HG9.out) (HIA6.out.grown HG9.out) (HIB6.out.grown HG9.out) (HVA6.out.grown HG9.out) (HVB.out.grown HG9.out) (Nat.le_trans lA (by decide)) (Nat.le_trans lB (by decide))).mono ?_); rw [sg_and, sg_and, bne_eq, HSE]; rintro e W10 ⟨vs, rfl, hv, hi, hg, _⟩; have HVS := Lib.hid hv; have HIS := Lib.hid hi; have HUDX := Lib.hid (HUD.out.kept hg (HIA6.out.grown HG9.out).no); have HG10 := Lib.hid (hg.grown (gr_trans HG6.out HG9.out) (Nat.le_refl _)); clear hv hi hg)
    | fail)
  have a0 := HIS.out.c0
  have a1 := HIS.out.c1
  have hga : w.heap.size ≠ g := by have := HL.2.2; omega
  go_region_held3 (fun w' => w'.cell? ⟨w.heap.size, 0, none⟩ = some (.bool (decide (S < 0))) ∧ w'.cell? ⟨w.heap.size, 1, none⟩ = some vs) (first | exact ⟨by assumption, by assumption⟩ | go_keep) (first
    | (go_at_call 103; (with_reducible refine (rset_c (HZ.out.grown (gr_drew1 HG10.out)) (HVS.out.grown (gr_drew1 (Grown.refl W10))) (HUDX.out.grown (gr_drew1 (Grown.refl W10))) (Nat.mul_ne_zero (dd_ne Dx) (dd_ne Dy)) (Nat.le_trans lS (by decide)) (Nat.le_trans lD (by decide))).mono ?_); rw [sg_of]; rintro e W11 ⟨rfl, hr, hg⟩; have HR := Lib.hid hr; have HG11 := Lib.hid hg; have q0 := (hg.cell (i := 0) HIS.out.lt hga).trans a0; have q1 := (hg.cell (i := 1) HIS.out.lt hga).trans a1; clear hr hg)
    | fail)
  go_wp2_with fail
  go_ret
  obtain ⟨c, hc, e1, e2⟩ := HV.out
  refine ⟨W10, HG10.out, rfl, ?_, HG11.out⟩
  rw [e1, e2]
  exact HR.out.scale hc
theorem rAdd_c {g gx gy d1 d2 : Nat} {n1 n2 : Int} {w : World} (hz : RatZ w g) (hx : RatAt w gx n1 d1) (hy : RatAt w gy n2 d2)
    (ln1 : (digs n1.natAbs).length ≤ 10000) (ld1 : (digs d1).length ≤ 10000) (ln2 : (digs n2.natAbs).length ≤ 10000) (ld2 : (digs d2).length ≤ 10000) :
    Calls Try.prog 21 #[.pointer (some ⟨g, 0, none⟩), .pointer (some ⟨gx, 0, none⟩), .pointer (some ⟨gy, 0, none⟩)] w (fun e w' => ∃ w1, Grown w w1 ∧ RetR g (n1 * d2 + n2 * d1) (d1 * d2) w1 e w') := by
  have H := Lib.hid (radded_c (turned := false) rfl hz hx hy ln1 ld1 ln2 ld2)
  clear hz hx hy
  go_enter Try.func21, Try.ntmps21
  go_wp2_with (first
    | (go_at_call 93; (with_reducible refine H.out.mono ?_); rintro e w' ⟨w1, hg1, rfl, hr, hg⟩)
    | fail)
  go_ret
  exact ⟨w1, hg1, rfl, hr, hg⟩
theorem rSub_c {g gx gy d1 d2 : Nat} {n1 n2 : Int} {w : World} (hz : RatZ w g) (hx : RatAt w gx n1 d1) (hy : RatAt w gy n2 d2)
    (ln1 : (digs n1.natAbs).length ≤ 10000) (ld1 : (digs d1).length ≤ 10000) (ln2 : (digs n2.natAbs).length ≤ 10000) (ld2 : (digs d2).length ≤ 10000) :
    Calls Try.prog 45 #[.pointer (some ⟨g, 0, none⟩), .pointer (some ⟨gx, 0, none⟩), .pointer (some ⟨gy, 0, none⟩)] w (fun e w' => ∃ w1, Grown w w1 ∧ RetR g (n1 * d2 + (-n2) * d1) (d1 * d2) w1 e w') := by
  have H := Lib.hid (radded_c (turned := true) rfl hz hx hy ln1 ld1 ln2 ld2)
  clear hz hx hy
  go_enter Try.func45, Try.ntmps45
  go_wp2_with (first
    | (go_at_call 93; (with_reducible refine H.out.mono ?_); rintro e w' ⟨w1, hg1, rfl, hr, hg⟩)
    | fail)
  go_ret
  exact ⟨w1, hg1, rfl, hr, hg⟩
theorem pow2_split : ∀ (K k y : Nat), k * y = 2 ^ K → ∃ j, j ≤ K ∧ y = 2 ^ j ∧ k = 2 ^ (K - j)
  | 0, k, y, h => by
    have h1 : k * y = 1 := h
    have h2 := Nat.eq_one_of_mul_eq_one_left h1
    have h3 := Nat.eq_one_of_mul_eq_one_right h1
    first
      | exact ⟨0, Nat.le_refl _, h2, h3⟩
      | exact ⟨0, Nat.le_refl _, h3, h2⟩
  | K + 1, k, y, h => by
    rw [Nat.pow_succ] at h
    rcases Nat.mod_two_eq_zero_or_one y with e | e
    · obtain ⟨z, rfl⟩ : ∃ z, y = 2 * z := ⟨y / 2, by omega⟩
      obtain ⟨j, h1, h2, h3⟩ := pow2_split K k z (by
        have : 2 * (k * z) = 2 * 2 ^ K := by rw [Nat.mul_left_comm] at h; omega
        omega)
      exact ⟨j + 1, by omega, by rw [h2, Nat.pow_succ, Nat.mul_comm], by rw [h3]; congr 1; omega⟩
    · rcases Nat.mod_two_eq_zero_or_one k with f | f
      · obtain ⟨z, rfl⟩ : ∃ z, k = 2 * z := ⟨k / 2, by omega⟩
        obtain ⟨j, h1, h2, h3⟩ := pow2_split K z y (by rw [Nat.mul_assoc] at h; omega)
        have hj : j = 0 := by
          rcases Nat.eq_zero_or_pos j with q | q
          · exact q
          · obtain ⟨i, rfl⟩ : ∃ i, j = i + 1 := ⟨j - 1, by omega⟩
            rw [Nat.pow_succ] at h2
            omega
        subst hj
        exact ⟨0, by omega, h2, by rw [h3, Nat.sub_zero, Nat.sub_zero, Nat.pow_succ, Nat.mul_comm]⟩
      · exfalso
        have : (k * y) % 2 = 1 := by rw [Nat.mul_mod, e, f]
        rw [h] at this
        omega
theorem ratV_pow {n : Int} {K N D : Nat} {b : Bool} (h : RatV n (2 ^ K) b N D) (hn : n ≠ 0) : N ≠ 0 ∧ b = decide (n < 0) ∧ ∃ j : Nat, dd D = 2 ^ j ∧ rndE N (1074 - (j : Int)) = rndE n.natAbs (1074 - (K : Int)) := by
  obtain ⟨k, h0, h1, h2⟩ := h.ex
  obtain ⟨j, hj, e1, e2⟩ := pow2_split K k (dd D) h1.symm
  have hN : N ≠ 0 := by
    rintro rfl
    apply hn
    rw [h2]
    unfold sg
    cases b <;> simp
  refine ⟨hN, ?_, j, e1, ?_⟩
  · rw [h2]
    have k0 : (0 : Int) < k := by omega
    have n0 : (0 : Int) < N := by omega
    have p := Int.mul_pos k0 n0
    unfold sg
    cases b
    · simp; omega
    · simp [Int.mul_neg]; omega
  · have e3 : n.natAbs = N * 2 ^ (K - j) := by rw [h2, Int.natAbs_mul, sg_natAbs, Int.natAbs_natCast, e2, Nat.mul_comm]
    rw [e3, rndE_shift]
    congr 1
    omega
theorem nearest0_c {v1 v2 : Value} {w : World} (b : Bool) (h1 : IsW w v1 (digs 0)) : Calls Try.prog 143 #[.bool b, v1, v2] w (RetNr 0 w) := by
  have hl : (digs 0).length = 0 := rfl
  obtain ⟨s, c, rfl, _, _, _⟩ := h1
  go_enter Try.func143, Try.ntmps143
  go_wp2_with fail
  go_ret2
  exact ⟨_, _, rfl, Rep.c0, Grown.refl w⟩
theorem rfloat_c {g K : Nat} {n : Int} {w : World} (h : RatAt w g n (2 ^ K)) (ln : (digs n.natAbs).length ≤ 500) (lK : K ≤ 10000) :
    Calls Try.prog 91 #[.pointer (some ⟨g, 0, none⟩)] w (RetNr (if n = 0 then 0 else wd (decide (n < 0)) (rndE n.natAbs (1074 - (K : Int)))) w) := by
  obtain ⟨b, v1, v2, N, D, h1, h2, h3, h4⟩ := h
  have c0 := h1.i.c0
  have c1 := h1.i.c1
  have H1 := Lib.hid h1
  have H2 := Lib.hid h2
  have H3 := Lib.hid h3
  have lN : (digs N).length ≤ 500 := Nat.le_trans (digs_mono h4.le.1) ln
  have lD : (digs (dd D)).length ≤ 500 := Nat.le_trans (digs_mono h4.le.2) (by
    have := digs_len_pow (A := 1) (k := K) (m := 500) (by have : bl 1 = 1 := rfl; omega)
    rwa [Nat.one_mul] at this)
  have HNr : RowKit.Hid (∀ (W : World) (v3 : Value), Grown w W → IsW W v3 (digs (dd D)) → Calls Try.prog 143 #[.bool b, v1, v3] W (RetNr (if n = 0 then 0 else wd (decide (n < 0)) (rndE n.natAbs (1074 - (K : Int)))) W)) := Lib.hid (by
    intro W v3 hg hv
    by_cases hn : n = 0
    · rw [if_pos hn]
      obtain ⟨k, k0, _, e2⟩ := h4.ex
      have hN : N = 0 := by
        rw [hn] at e2
        have : sg b N = 0 := by
          rcases Int.mul_eq_zero.1 e2.symm with q | q
          · omega
          · exact q
        have := congrArg Int.natAbs this
        rwa [sg_natAbs] at this
      rw [hN] at h2
      exact nearest0_c b (h2.grown hg)
    · rw [if_neg hn]
      obtain ⟨hN, hb, j, hj, e⟩ := ratV_pow h4 hn
      have := nearest_c b (h2.grown hg) hv hN (dd_ne D) lN lD
      rw [hj, scale_ofInt (nrN_le hN (by rw [← hj]; exact dd_ne D))] at this
      obtain ⟨q, q1, q2⟩ := near_pow (j := j) hN
      rw [q1, q2, e, sgn_ite (rndE_le _ _), hb] at this
      rw [← hb] at this ⊢
      exact this)
  generalize (if n = 0 then 0 else wd (decide (n < 0)) (rndE n.natAbs (1074 - (K : Int)))) = F at *
  clear h1 h2 h3 h4
  go_enter Try.func91, Try.ntmps91
  go_upto_region 1 with fail
  go_region_held3 (fun w' => w'.cell? ⟨g, 0, none⟩ = some (.bool b) ∧ w'.cell? ⟨g, 1, none⟩ = some v1) (first | exact ⟨by assumption, by assumption⟩ | go_keep) (first
    | (go_at_call 97; (with_reducible refine (below_c (H1.out.grown (gr_drew1 (Grown.refl w))) (H3.out.grown (gr_drew1 (Grown.refl w)))).mono ?_); rintro e W1 ⟨u1, rfl, hv, hg⟩; have HU1 := Lib.hid hv; have HG1 := Lib.hid (gr_trans (gr_drew1 (Grown.refl w)) hg); have y0 := (H1.out.grown HG1.out).i.c0; have y1 := (H1.out.grown HG1.out).i.c1; clear hv hg)
    | (go_at_call 143; (with_reducible refine (HNr.out _ _ HG1.out HU1.out).mono ?_); rintro e W2 ⟨r, c, rfl, hr, hg⟩; have HR := Lib.hid hr; have HG2 := Lib.hid (gr_trans HG1.out hg); have z0 := (H1.out.grown HG2.out).i.c0; have z1 := (H1.out.grown HG2.out).i.c1; clear hr hg)
    | fail)
  go_wp2_with fail
  go_ret2
  exact ⟨r, c, rfl, HR.out, HG2.out⟩
end Go.Proofs.Ytcfkhhnkboealaa
