/- Between, walked: a logarithm that is near answers true. Condition: the table of the places of bits stands. -/
import Derived.Test.YtcfkhhnkboealaaDoorLh
import Derived.Test.YtcfkhhnkboealaaDoorEt
namespace Go.Proofs.YtcfkhhnkboealaaDoor
open Go.RowKit
set_option linter.unusedVariables false
set_option linter.unusedSimpArgs false
set_option maxRecDepth 100000
set_option maxHeartbeats 4000000
open Turns Sizes
theorem gap_norm2 {f : Nat} {a : Rat} (hf : V f a) (h : pw (-300) ≤ ab a) : gapq (rung f) ≤ 2 * uu * ab a := by
  have hs := hf.size
  rw [hs] at h ⊢
  refine gap_up ?_
  rcases Nat.lt_or_ge (rung f) 4503599627370496 with q | q
  · exfalso
    have h3 := cast_le.2 (mval_le_iff.2 (Nat.le_of_lt q))
    have hU := UQ_pos
    rw [le_div hU] at h
    obtain ⟨k, hk⟩ : ∃ k : Nat, k = 301 := ⟨_, rfl⟩
    have h4 : mval 4503599627370496 * 2 ^ k ≤ U := by rw [hk]; decide +kernel
    have h5 := cast_le.2 h4
    rw [cast_mul] at h5
    have e5 : pw (-300) * ((2 ^ k : Nat) : Rat) = 2 := by rw [hk]; decide +kernel
    have p := pw_pos (-300)
    have k0 : (0 : Rat) < ((2 ^ k : Nat) : Rat) := by rw [hk]; decide +kernel
    have m := Rat.mul_le_mul_of_nonneg_right (Rat.le_trans h h3) (Rat.le_of_lt k0)
    have : pw (-300) * (U : Rat) * ((2 ^ k : Nat) : Rat) = 2 * (U : Rat) := by
      have : pw (-300) * (U : Rat) * ((2 ^ k : Nat) : Rat) = pw (-300) * ((2 ^ k : Nat) : Rat) * (U : Rat) := by grind
      rw [this, e5]
    rw [this] at m
    grind
  · exact q
theorem room_sz {L : Nat} {l R : Rat} (hL : V L l) (hl : ab l ≤ 900) (hz : l = 0 ∨ pw (-210) ≤ ab l) (h1 : 1 / 2 * gapq (rung L) ≤ R) (h2 : R ≤ 34 * gapq (rung L)) : Sz 1100 (l - R) ∧ Sz 1100 (l + R) := by
  have hg := gap_pos (rung L)
  have R0 : 0 ≤ R := by grind
  rcases hz with hz | hz
  · have hr : rung L = 0 := rung_zero (by rw [← hz]; exact hL)
    have eg : gapq (rung L) = pw (-1074) := by
      rw [hr, gap_pw, e1_eq]
      rfl
    rw [eg] at h1 h2
    rw [hz, show (0 : Rat) - R = -R by grind, show (0 : Rat) + R = R by grind]
    have b1 : pw (-((1100 : Nat) : Int)) ≤ 1 / 2 * pw (-1074) := by
      have e : pw (-1074) = 2 * pw (-1075) := by
        rw [show (-1074 : Int) = 1 + -1075 by omega, pw_add]
        have : pw 1 = 2 := by decide +kernel
        rw [this]
      have : pw (-((1100 : Nat) : Int)) ≤ pw (-1075) := pw_mono (by decide)
      grind
    have b2 : 34 * pw (-1074) ≤ pw ((1100 : Nat) : Int) := by
      have c1 : pw (-1074) ≤ pw (-10) := pw_mono (by decide)
      have c2 : pw 0 ≤ pw ((1100 : Nat) : Int) := pw_mono (by decide)
      have c3 : 34 * pw (-10) ≤ pw 0 := by decide +kernel
      grind
    constructor
    · right; rw [ab_neg, ab_pos R0]; constructor <;> grind
    · right; rw [ab_pos R0]; constructor <;> grind
  · have p : pw (-300) ≤ pw (-210) := pw_mono (by decide)
    have g := gap_norm2 hL (Rat.le_trans p hz)
    have huu : 0 < uu ∧ uu ≤ 1 / 1000000 := by decide +kernel
    have k := Rat.mul_le_mul_of_nonneg_right huu.2 (ab_nn l)
    have R1 : R ≤ 1 / 1000 * ab l := by
      have e : 2 * uu * ab l = 2 * (uu * ab l) := by grind
      rw [e] at g
      grind
    have b1 : pw (-((1100 : Nat) : Int)) ≤ 9 / 10 * pw (-210) := by
      have c1 : pw (-((1100 : Nat) : Int)) ≤ pw (-211) := pw_mono (by decide)
      have c3 : pw (-211) ≤ 9 / 10 * pw (-210) := by decide +kernel
      exact Rat.le_trans c1 c3
    have b2 : 1000 ≤ pw ((1100 : Nat) : Int) := by
      have c1 : pw 10 ≤ pw ((1100 : Nat) : Int) := pw_mono (by decide)
      have c3 : 1000 ≤ pw 10 := by decide +kernel
      exact Rat.le_trans c3 c1
    have s1 := ab_sub l R
    have s2 := ab_add l R
    have s3 := ab_add (l - R) R
    rw [show l - R + R = l by grind] at s3
    have s4 := ab_sub (l + R) R
    rw [show l + R - R = l by grind] at s4
    rw [ab_pos R0] at s1 s2 s3 s4
    have p3 := pw_pos (-210)
    have n3 := ab_nn l
    clear g h1 h2 k hg p
    refine ⟨.inr ⟨Rat.le_trans b1 ?_, Rat.le_trans ?_ b2⟩, .inr ⟨Rat.le_trans b1 ?_, Rat.le_trans ?_ b2⟩⟩ <;> clear b1 b2 <;> grind
theorem room_size {l y u G R : Rat} (hG : 0 < G) (hu1 : 1 ≤ u) (hu2 : u ≤ 16) (hy1 : (1 - uu) * G ≤ y) (hy2 : y ≤ 21 / 10 * G) (hR : ab (R - y * u) ≤ u4 * ab (y * u)) : 1 / 2 * G ≤ R ∧ R ≤ 34 * G := by
  have huu : 0 < uu ∧ uu ≤ 1 / 1000000 := by decide +kernel
  have t : 0 < u4 ∧ u4 ≤ 1 / 1000000 := ⟨u4_pos, by decide +kernel⟩
  have uG := Rat.mul_le_mul_of_nonneg_right huu.2 (Rat.le_of_lt hG)
  have y0 : 0 ≤ y := by grind
  have yu1 := mul_mono (by decide +kernel : (0 : Rat) ≤ 1) hu1 y0 (Rat.le_refl)
  have yu2 := mul_mono y0 hy2 (show 0 ≤ u by grind) hu2
  have yu0 := Rat.mul_nonneg y0 (show 0 ≤ u by grind)
  rw [ab_pos yu0] at hR
  have k1 := Rat.mul_le_mul_of_nonneg_right t.2 yu0
  have hR' := ab_le.1 hR
  constructor <;> grind
theorem lo_size {l R lo : Rat} (hl : ab l ≤ 900) (hR0 : 0 ≤ R) (hR : R ≤ 1) (h : ab (lo - (l - R)) ≤ u4 * ab (l - R)) : ab lo ≤ 1024 := by
  have t : u4 ≤ 1 / 1000000 := by decide +kernel
  have a := ab_sub l R
  rw [ab_pos hR0] at a
  have k := Rat.mul_le_mul_of_nonneg_right t (ab_nn (l - R))
  have b := ab_tri lo (l - R) 0
  rw [show lo - 0 = lo by grind, show l - R - 0 = l - R by grind] at b
  grind
theorem hi_size {l R hi : Rat} (hl : ab l ≤ 900) (hR0 : 0 ≤ R) (hR : R ≤ 1) (h : ab (hi - (l + R)) ≤ u4 * ab (l + R)) : ab hi ≤ 1024 := by
  have t : u4 ≤ 1 / 1000000 := by decide +kernel
  have a := ab_add l R
  rw [ab_pos hR0] at a
  have k := Rat.mul_le_mul_of_nonneg_right t (ab_nn (l + R))
  have b := ab_tri hi (l + R) 0
  rw [show hi - 0 = hi by grind, show l + R - 0 = l + R by grind] at b
  grind
theorem sub_sz {w1 w2 : World} {g1 g2 : Nat} {p t : Rat} {n : Nat} (h1 : FV w1 g1 p) (h2 : FV w2 g2 t) (s1 : Sz 4097 p) (s2 : Sz n t) (hn : n ≤ 9300) : Sz 10000 (p - t) ∧ Sz 10000 (p + t) := by
  obtain ⟨a, ha⟩ := h1.grid s1
  obtain ⟨b, hb⟩ := h2.grid s2
  obtain ⟨a', ha'⟩ := grid_up ha (show 4097 + 402 ≤ 9702 by omega)
  obtain ⟨b', hb'⟩ := grid_up hb (show n + 402 ≤ 9702 by omega)
  have up : ∀ {k : Nat} {x : Rat}, k ≤ 9300 → Sz k x → ab x ≤ pw ((9300 : Nat) : Int) := by
    intro k x hk h
    rcases h with h | h
    · rw [h, show ab (0 : Rat) = 0 by decide +kernel]; exact Rat.le_of_lt (pw_pos _)
    · exact Rat.le_trans h.2 (pw_mono (by omega))
  have u1 := up (by omega) s1
  have u2 := up hn s2
  have e : pw ((9301 : Nat) : Int) = 2 * pw ((9300 : Nat) : Int) := by
    rw [show ((9301 : Nat) : Int) = 1 + ((9300 : Nat) : Int) by omega, pw_add]
    have : pw 1 = 2 := by decide +kernel
    rw [this]
  constructor
  · refine Sz.grid (z := a' - b') (K := 9702) (M := 9301) ?_ ?_ (by omega) (by omega)
    · rw [ha', hb']
      have : ((a' - b' : Int) : Rat) = (a' : Rat) - (b' : Rat) := by exact_mod_cast rfl
      rw [this]; grind
    · have := ab_sub p t
      generalize pw ((9301 : Nat) : Int) = P at *
      generalize pw ((9300 : Nat) : Int) = P2 at *
      grind
  · refine Sz.grid (z := a' + b') (K := 9702) (M := 9301) ?_ ?_ (by omega) (by omega)
    · rw [ha', hb']
      have : ((a' + b' : Int) : Rat) = (a' : Rat) + (b' : Rat) := by exact_mod_cast rfl
      rw [this]; grind
    · have := ab_add p t
      generalize pw ((9301 : Nat) : Int) = P at *
      generalize pw ((9300 : Nat) : Int) = P2 at *
      grind
theorem Sz.down {n : Nat} {r : Rat} (h : Sz n r) : Sz (n + 250) (r * pw (-250)) := by
  have e : ab (pw (-250)) = pw (-250) := ab_pos (Rat.le_of_lt (pw_pos _))
  rcases h with h | ⟨h1, h2⟩
  · left; rw [h, Rat.zero_mul]
  · right
    rw [ab_mul, e]
    have p := pw_pos (-250)
    have q := pw_pos (n : Int)
    constructor
    · have m := Rat.mul_le_mul_of_nonneg_right h1 (Rat.le_of_lt p)
      rw [← pw_add] at m
      exact Rat.le_trans (pw_mono (by omega)) m
    · have m := Rat.mul_le_mul_of_nonneg_right h2 (Rat.le_of_lt p)
      rw [← pw_add] at m
      exact Rat.le_trans m (pw_mono (by omega))
theorem le_cmp {c : Int} {r s : Rat} (h : CmpV c r s) (k : r ≤ s) : c ≤ 0 := h.1.2 k
theorem between_c {L uf gv n : Nat} {l u v : Rat} {w : World} {μ η : Rat} (hT : TB w) (hL : V L l) (hl : ab l ≤ 900) (hz : l = 0 ∨ pw (-210) ≤ ab l) (hU : V uf u) (hu1 : 1 ≤ u) (hu2 : u ≤ 16) (hV : FV w gv v) (hS : Sz n v) (hn : n ≤ 9000) (hv : 0 < v)
    (hμ : Rl (XX μ) v η) (h0 : 0 ≤ η) (h1 : η ≤ 1 / 1000) (hm : ab μ ≤ 1024) (hd : ab (l - μ) + 2 * η ≤ (u - 1 / 100) * gapq (rung L)) :
    Calls Tryd.prog 14 #[.float .f64 L, .pointer (some ⟨gv, 0, none⟩), .float .f64 uf] w (RetT w) := by
  have HT := Lib.hid hT
  have HL := Lib.hid hL
  have HU := Lib.hid hU
  have HV := Lib.hid hV
  have HS := Lib.hid hS
  have HN := Lib.hid hn
  have hr : Rep L L := Rep.self hL.lt (nrm_of_not (fin_notN hL.fin))
  have HRF := Lib.hid (fin_rung hL.fin)
  obtain ⟨gs, gk⟩ := gap_small hL hl
  have hG := gap_pos (rung L)
  have hlG : ab l ≤ 9007199254740992 * gapq (rung L) := by have := mval_gap (rung L); rw [← hL.size] at this; exact this
  have FY : Hid (∀ y R, (1 - uu) * gapq (rung L) ≤ y → y ≤ 21 / 10 * gapq (rung L) → ab (R - y * u) ≤ u4 * ab (y * u) → (1 / 2 * gapq (rung L) ≤ R ∧ R ≤ 34 * gapq (rung L)) ∧ (Sz 1100 (l - R) ∧ Sz 1100 (l + R))) := Lib.hid (fun y R a b c => by
    have k := room_size (l := l) hG hu1 hu2 a b c
    exact ⟨k, room_sz hL hl hz k.1 k.2⟩)
  have FL : Hid (∀ R lo, (1 / 2 * gapq (rung L) ≤ R ∧ R ≤ 34 * gapq (rung L)) → ab (lo - (l - R)) ≤ u4 * ab (l - R) → ab lo ≤ 1024) := Lib.hid (fun R lo a b => lo_size hl (by grind) (by grind) b)
  have FH : Hid (∀ R lo, (1 / 2 * gapq (rung L) ≤ R ∧ R ≤ 34 * gapq (rung L)) → ab (lo - (l + R)) ≤ u4 * ab (l + R) → ab lo ≤ 1024) := Lib.hid (fun R lo a b => hi_size hl (by grind) (by grind) b)
  have FE : Hid (∀ y R lo hi p1 p2 t le mo, (1 - uu) * gapq (rung L) ≤ y → y ≤ 21 / 10 * gapq (rung L) → ab (R - y * u) ≤ u4 * ab (y * u) → ab (lo - (l - R)) ≤ u4 * ab (l - R) → ab (hi - (l + R)) ≤ u4 * ab (l + R) → Rl p1 (XX lo) (tw 300) → Rl p2 (XX hi) (tw 300) → ab (t - v * pw (-250)) ≤ u4 * ab (v * pw (-250)) → ab (le - (p1 - t)) ≤ u4 * ab (p1 - t) → ab (mo - (p2 + t)) ≤ u4 * ab (p2 + t) → le ≤ v ∧ v ≤ mo) := Lib.hid (fun y R lo hi p1 p2 t le mo a b c d e f g h i j => by
    obtain ⟨z1, z2, z3, z4, z5, z6⟩ := room_ends hl hlG hG (by grind) hu1 hu2 a b c d e h0 hd
    exact between_end hv f g (end_low hμ h0 h1 rfl z1 z2 z5) (end_high hμ h0 h1 rfl z3 z4 hm z6) h i j (by grind))
  have GK := Lib.hid gk
  clear hT hU hV hS hn hl hz hu1 hu2 hv hμ h0 h1 hm hd gs gk hG hlG hL
  go_enter Tryd.func14, Tryd.ntmps14
  go_wp2_with (first
    | (go_at_call 13; (with_reducible refine (abs_c hr _).mono ?_); rintro e1 w1 ⟨q, n1, rfl, h1, rfl⟩; have hq := fabs_word HL.out h1; subst hq; clear h1)
    | (go_at_call 53; (with_reducible refine (unit_c _ HRF.out).mono ?_); rintro e2 w2 ⟨q, n2, rfl, ⟨y, y1, y2, y3, y4⟩, rfl⟩; have HY := Lib.hid y1; have Y2 := Lib.hid y2; have Y4 := Lib.hid (y4 GK.out); clear y1 y2 y3 y4)
    | (go_at_call 15; (with_reducible refine (wide04_c (by first | exact HT.out.dr _ | exact (HT.out.dr _).dr _) HY.out.lt HY.out.fin).mono ?_); rw [HY.out.val]; rintro e3 w3 ⟨g3, rfl, h1, h2, h3⟩; have A3 := Lib.hid h1; have G3 : Hid (Grown w w3) := Lib.hid (gr_trans (by first | exact gr_drewN _ (Grown.refl w) | exact gr_drewN _ (gr_drewN _ (Grown.refl w))) h2); have T3 := Lib.hid (HT.out.grown G3.out); have V3 := Lib.hid (HV.out.grown G3.out); have X3 : Hid (gv ≠ g3 ∧ w.heap.size ≤ g3) := Lib.hid ⟨Nat.ne_of_lt (Nat.lt_of_lt_of_le HV.out.lt h3), h3⟩; clear h1 h2 h3)
    | (go_at_call 15; (with_reducible refine (wide04_c T3.out HU.out.lt HU.out.fin).mono ?_); rw [HU.out.val]; rintro e4 w4 ⟨g4, rfl, h1, h2, h3⟩; have B4 := Lib.hid h1; have A4 := Lib.hid (A3.out.grown h2); have G4 := Lib.hid (gr_trans G3.out h2); have T4 := Lib.hid (T3.out.grown h2); have V4 := Lib.hid (V3.out.grown h2); clear h1 h2 h3)
    | (go_at_call 54; (with_reducible refine (fmul_c T4.out A4.out.z A4.out B4.out HY.out.sz HU.out.sz (by decide)).mono ?_); rintro e5 w5 ⟨R, k1, rfl, h1, h2⟩; have KR := Lib.hid k1; have R5 := Lib.hid h1; have RB := Lib.hid (FY.out _ _ Y2.out Y4.out k1); have SR := Lib.hid (Sz.near (Sz.mul HY.out.sz HU.out.sz) k1 u4_small); have G5 := Lib.hid (h2.grown G4.out X3.out.2); have T5 := Lib.hid (T4.out.kept A4.out.z h2); have V5 := Lib.hid (V4.out.kept h2 X3.out.1 A4.out.z.no); have HG6 : Hid (Grown w5 (w5.alloc (.cells #[.bool false, .slice none 0 0, .int .i64 0, .int .i64 0, .bool false] 37))) := Lib.hid ((Grown.refl w5).alloc _ _); have Z6 := Lib.hid (flcNew w5 37); have T6 := Lib.hid (T5.out.grown HG6.out); clear k1 h1 h2)
    | (go_at_call 21; (with_reducible refine (fprec_c T6.out Z6.out).mono ?_); rintro e7 w7 ⟨rfl, h1, h2⟩; have C7 := Lib.hid h1; have X := h2.grown HG6.out (Nat.le_refl _); have G7 := Lib.hid (gr_trans G5.out X); have T7 := Lib.hid (T6.out.keptC Z6.out h2); have R7 := Lib.hid (R5.out.grown X); have V7 := Lib.hid (V5.out.grown X); clear h1 h2 X)
    | (go_at_call 15; (with_reducible refine (wide04_c T7.out HL.out.lt HL.out.fin).mono ?_); rw [HL.out.val]; rintro e8 w8 ⟨g8, rfl, h1, h2, h3⟩; have A8 := Lib.hid h1; have G8 := Lib.hid (gr_trans G7.out h2); have T8 := Lib.hid (T7.out.grown h2); have R8 := Lib.hid (R7.out.grown h2); have V8 := Lib.hid (V7.out.grown h2); have C8 := Lib.hid (C7.out.grown h2); clear h1 h2 h3)
    | (go_at_call 22; (with_reducible refine (fsub_c T8.out C8.out.z A8.out R8.out HL.out.sz SR.out (by decide)).mono ?_); rintro e9 w9 ⟨lo, k1, rfl, h1, h2⟩; have KL := Lib.hid k1; have L9 := Lib.hid h1; have SL := Lib.hid ((Sz.near RB.out.2.1 k1 u4_small).mono (show 1101 ≤ 1200 by omega)); have G9 := Lib.hid (h2.grown G8.out G5.out.2.2); have T9 := Lib.hid (T8.out.kept C8.out.z h2); have R9 := Lib.hid (R8.out.kept h2 (Nat.ne_of_lt R5.out.lt) C8.out.z.no); have V9 := Lib.hid (V8.out.kept h2 (Nat.ne_of_lt V5.out.lt) C8.out.z.no); have HG10 : Hid (Grown w9 (w9.alloc (.cells #[.bool false, .slice none 0 0, .int .i64 0, .int .i64 0, .bool false] 37))) := Lib.hid ((Grown.refl w9).alloc _ _); have Z10 := Lib.hid (flcNew w9 37); have T10 := Lib.hid (T9.out.grown HG10.out); clear k1 h1 h2)
    | (go_at_call 21; (with_reducible refine (fprec_c T10.out Z10.out).mono ?_); rintro e11 w11 ⟨rfl, h1, h2⟩; have C11 := Lib.hid h1; have X := h2.grown HG10.out (Nat.le_refl _); have G11 := Lib.hid (gr_trans G9.out X); have T11 := Lib.hid (T10.out.keptC Z10.out h2); have R11 := Lib.hid (R9.out.grown X); have V11 := Lib.hid (V9.out.grown X); have L11 := Lib.hid (L9.out.grown X); clear h1 h2 X)
    | (go_at_call 15; (with_reducible refine (wide04_c T11.out HL.out.lt HL.out.fin).mono ?_); rw [HL.out.val]; rintro e12 w12 ⟨g12, rfl, h1, h2, h3⟩; have A12 := Lib.hid h1; have G12 := Lib.hid (gr_trans G11.out h2); have T12 := Lib.hid (T11.out.grown h2); have R12 := Lib.hid (R11.out.grown h2); have V12 := Lib.hid (V11.out.grown h2); have C12 := Lib.hid (C11.out.grown h2); have L12 := Lib.hid (L11.out.grown h2); clear h1 h2 h3)
    | (go_at_call 16; (with_reducible refine (fadd_c T12.out C12.out.z A12.out R12.out HL.out.sz SR.out (by decide)).mono ?_); rintro e13 w13 ⟨hi, k1, rfl, h1, h2⟩; have KH := Lib.hid k1; have H13 := Lib.hid h1; have SH := Lib.hid ((Sz.near RB.out.2.2 k1 u4_small).mono (show 1101 ≤ 1200 by omega)); have G13 := Lib.hid (h2.grown G12.out G9.out.2.2); have T13 := Lib.hid (T12.out.kept C12.out.z h2); have V13 := Lib.hid (V12.out.kept h2 (Nat.ne_of_lt V9.out.lt) C12.out.z.no); have L13 := Lib.hid (L12.out.kept h2 (Nat.ne_of_lt L9.out.lt) C12.out.z.no); have HG14 : Hid (Grown w13 (w13.alloc (.cells #[.bool false, .slice none 0 0, .int .i64 0, .int .i64 0, .bool false] 37))) := Lib.hid ((Grown.refl w13).alloc _ _); have Z14 := Lib.hid (flcNew w13 37); have T14 := Lib.hid (T13.out.grown HG14.out); clear k1 h1 h2)
    | (go_at_call 21; (with_reducible refine (fprec_c T14.out Z14.out).mono ?_); rintro e15 w15 ⟨rfl, h1, h2⟩; have C15 := Lib.hid h1; have X := h2.grown HG14.out (Nat.le_refl _); have G15 := Lib.hid (gr_trans G13.out X); have T15 := Lib.hid (T14.out.keptC Z14.out h2); have V15 := Lib.hid (V13.out.grown X); have L15 := Lib.hid (L13.out.grown X); have H15 := Lib.hid (H13.out.grown X); clear h1 h2 X)
    | (go_at_call 28; (with_reducible refine (fmant_c T15.out.at' T15.out.lt C15.out.z V15.out HS.out (Nat.le_trans HN.out (by decide)) (by decide) (by decide)).mono ?_); rintro e16 w16 ⟨t, k1, rfl, h1, h2⟩; have KT := Lib.hid k1; have S16 := Lib.hid h1; have ST := Lib.hid (Sz.near (Sz.down HS.out) k1 u4_small); have G16 := Lib.hid (h2.grown G15.out G13.out.2.2); have T16 := Lib.hid (T15.out.kept C15.out.z h2); have V16 := Lib.hid (V15.out.kept h2 (Nat.ne_of_lt V13.out.lt) C15.out.z.no); have L16 := Lib.hid (L15.out.kept h2 (Nat.ne_of_lt L13.out.lt) C15.out.z.no); have H16 := Lib.hid (H15.out.kept h2 (Nat.ne_of_lt H13.out.lt) C15.out.z.no); have HG17 : Hid (Grown w16 (w16.alloc (.cells #[.bool false, .slice none 0 0, .int .i64 0, .int .i64 0, .bool false] 37))) := Lib.hid ((Grown.refl w16).alloc _ _); have Z17 := Lib.hid (flcNew w16 37); have T17 := Lib.hid (T16.out.grown HG17.out); clear k1 h1 h2)
    | (go_at_call 21; (with_reducible refine (fprec_c T17.out Z17.out).mono ?_); rintro e18 w18 ⟨rfl, h1, h2⟩; have C18 := Lib.hid h1; have X := h2.grown HG17.out (Nat.le_refl _); have G18 := Lib.hid (gr_trans G16.out X); have T18 := Lib.hid (T17.out.keptC Z17.out h2); have V18 := Lib.hid (V16.out.grown X); have L18 := Lib.hid (L16.out.grown X); have H18 := Lib.hid (H16.out.grown X); have S18 := Lib.hid (S16.out.grown X); clear h1 h2 X)
    | (go_at_call 20; (with_reducible refine (raised_c T18.out L18.out SL.out (by decide) (FL.out _ _ RB.out.1 KL.out)).mono ?_); rintro e19 w19 ⟨p1, k1, k2, g19, rfl, h1, h2, h3⟩; have P19 := Lib.hid h1; have R1 := Lib.hid (raised_rl k1); have SP1 := Lib.hid k2; have G19 := Lib.hid (gr_trans G18.out h2); have T19 := Lib.hid (T18.out.grown h2); have V19 := Lib.hid (V18.out.grown h2); have H19 := Lib.hid (H18.out.grown h2); have S19 := Lib.hid (S18.out.grown h2); have C19 := Lib.hid (C18.out.grown h2); clear h1 h2 h3 k1 k2)
    | (go_at_call 22; (with_reducible refine (fsub_c T19.out C19.out.z P19.out S19.out SP1.out ST.out (by have := HN.out; omega)).mono ?_); rintro e20 w20 ⟨le, k1, rfl, h1, h2⟩; have KE := Lib.hid k1; have E20 := Lib.hid h1; have SE := Lib.hid (Sz.near (sub_sz P19.out S19.out SP1.out ST.out (by have := HN.out; omega)).1 k1 u4_small); have G20 := Lib.hid (h2.grown G19.out G16.out.2.2); have T20 := Lib.hid (T19.out.kept C19.out.z h2); have V20 := Lib.hid (V19.out.kept h2 (Nat.ne_of_lt V16.out.lt) C19.out.z.no); have H20 := Lib.hid (H19.out.kept h2 (Nat.ne_of_lt H16.out.lt) C19.out.z.no); have S20 := Lib.hid (S19.out.kept h2 (Nat.ne_of_lt S16.out.lt) C19.out.z.no); have HG21 : Hid (Grown w20 (w20.alloc (.cells #[.bool false, .slice none 0 0, .int .i64 0, .int .i64 0, .bool false] 37))) := Lib.hid ((Grown.refl w20).alloc _ _); have Z21 := Lib.hid (flcNew w20 37); have T21 := Lib.hid (T20.out.grown HG21.out); clear k1 h1 h2)
    | (go_at_call 21; (with_reducible refine (fprec_c T21.out Z21.out).mono ?_); rintro e22 w22 ⟨rfl, h1, h2⟩; have C22 := Lib.hid h1; have X := h2.grown HG21.out (Nat.le_refl _); have G22 := Lib.hid (gr_trans G20.out X); have T22 := Lib.hid (T21.out.keptC Z21.out h2); have V22 := Lib.hid (V20.out.grown X); have H22 := Lib.hid (H20.out.grown X); have S22 := Lib.hid (S20.out.grown X); have E22 := Lib.hid (E20.out.grown X); clear h1 h2 X)
    | (go_at_call 20; (with_reducible refine (raised_c T22.out H22.out SH.out (by decide) (FH.out _ _ RB.out.1 KH.out)).mono ?_); rintro e23 w23 ⟨p2, k1, k2, g23, rfl, h1, h2, h3⟩; have P23 := Lib.hid h1; have R2 := Lib.hid (raised_rl k1); have SP2 := Lib.hid k2; have G23 := Lib.hid (gr_trans G22.out h2); have T23 := Lib.hid (T22.out.grown h2); have V23 := Lib.hid (V22.out.grown h2); have S23 := Lib.hid (S22.out.grown h2); have C23 := Lib.hid (C22.out.grown h2); have E23 := Lib.hid (E22.out.grown h2); clear h1 h2 h3 k1 k2)
    | (go_at_call 16; (with_reducible refine (fadd_c T23.out C23.out.z P23.out S23.out SP2.out ST.out (by have := HN.out; omega)).mono ?_); rintro e24 w24 ⟨mo, k1, rfl, h1, h2⟩; have M24 := Lib.hid h1; have SM := Lib.hid (Sz.near (sub_sz P23.out S23.out SP2.out ST.out (by have := HN.out; omega)).2 k1 u4_small); have FIN := Lib.hid (FE.out _ _ _ _ _ _ _ _ _ Y2.out Y4.out KR.out KL.out KH.out R1.out R2.out KT.out KE.out k1); have G24 := Lib.hid (h2.grown G23.out G20.out.2.2); have V24 := Lib.hid (V23.out.kept h2 (Nat.ne_of_lt V20.out.lt) C23.out.z.no); have E24 := Lib.hid (E23.out.kept h2 (Nat.ne_of_lt E20.out.lt) C23.out.z.no); clear k1 h1 h2)
    | (go_at_call 23; (with_reducible refine (fcmp_c E24.out V24.out SE.out HS.out (by have := HN.out; omega)).mono ?_); rintro e25 w25 ⟨c1, rfl, h1, h2⟩; have hc1 := le_cmp h1 FIN.out.1; have G25 := Lib.hid (gr_trans G24.out h2); have V25 := Lib.hid (V24.out.grown h2); have M25 := Lib.hid (M24.out.grown h2); clear h1 h2)
    | (go_at_call 23; (with_reducible refine (fcmp_c V25.out M25.out HS.out SM.out (by have := HN.out; omega)).mono ?_); rintro e26 w26 ⟨c2, rfl, h1, h2⟩; have hc2 := le_cmp h1 FIN.out.2; have G26 := Lib.hid (gr_trans G25.out h2); clear h1 h2)
    | fail)
  go_ret
  exact ⟨by simp [hc2], G26.out⟩
end Go.Proofs.YtcfkhhnkboealaaDoor
