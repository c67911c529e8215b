/- The law's wide floats, and its exponential by a series: near to the sum of the series. The law's unit: at least the gap behind a float. The law's nearness: a float and a big float at most so many units apart. -/
import Derived.Test.YtcfkhhnkboealaaDoorFgh
import Derived.Test.YtcfkhhnkboealaaDoorRda
import Derived.Test.YtcfkhhnkboealaaDoorRsx
import Derived.Test.YtcfkhhnkboealaaDoorExl
namespace Go.Proofs.YtcfkhhnkboealaaDoor
open Go.RowKit
set_option linter.unusedVariables false
set_option linter.unusedSimpArgs false
set_option maxRecDepth 100000
set_option maxHeartbeats 4000000
/-- what hands back a new big float. -/
def RetNF (r : Rat) (w : World) (e : Ending) (w' : World) : Prop := ∃ g, e = .returned (.pointer (some ⟨g, 0, none⟩)) ∧ FV w' g r ∧ Grown w w' ∧ w.heap.size ≤ g
theorem TB.keptC {w w' : World} {g : Nat} {b far : Bool} {v : Value} {E most : Int} (h : TB w) (hz : FlC w g b v E most far) (k : GrB g w w') : TB w' := by
  have hne := h.ne hz.at'.c0
  exact ⟨fun j hj => by rw [k.cell h.lt hne]; exact h.at' j hj, Nat.lt_of_lt_of_le h.lt k.2.2⟩
theorem wide04_c {f : Nat} {w : World} (hT : TB w) (hl : f < 18446744073709551616) (hf : fin f = true) : Calls Tryd.prog 15 #[.float .f64 f] w (RetNF (qv f) w) := by
  have HZ := Lib.hid (flcNew w 37)
  have HG0 : RowKit.Hid (Grown w (w.alloc (.cells #[.bool false, .slice none 0 0, .int .i64 0, .int .i64 0, .bool false] 37))) := Lib.hid ((Grown.refl w).alloc _ _)
  have HT := Lib.hid (hT.grown HG0.out)
  clear hT
  go_enter Tryd.func15, Tryd.ntmps15
  go_wp2_with (first
    | (go_at_call 21; go_loud ((with_reducible refine (fprec_c HT.out HZ.out).mono ?_); rintro e1 w1 ⟨rfl, h1, h2⟩; have H1 := Lib.hid h1; have HB := Lib.hid h2; have HT1 := Lib.hid (HT.out.keptC HZ.out h2); clear h1 h2))
    | (go_at_call 55; go_loud ((with_reducible refine (fflt_c HT1.out H1.out.z hl hf).mono ?_); rintro e2 w2 ⟨rfl, h1, h2⟩; have H2 := Lib.hid h1; have HB2 := Lib.hid h2; clear h1 h2))
    | fail)
  go_ret
  exact ⟨_, rfl, H2.out, (HB.out.trans HB2.out).grown HG0.out (Nat.le_refl _), Nat.le_refl _⟩
theorem qv_one : qv 4607182418800017408 = 1 := by
  rw [(V.pos (r := 4607182418800017408) (by decide)).val, mval_one]
  have := UQ_ne
  grind
theorem V.ofNat {k : Nat} (h : k < 9007199254740992) : V (ofInt k) (k : Rat) := by
  obtain ⟨h1, h2⟩ := rnd_whole h
  have e : ofInt (k : Int) = rndN (k * U) := by
    rw [ofInt_eq, decide_eq_false (by omega)]
    exact wd_false' _
  rw [e]
  have hv := V.pos h1
  rw [h2, cast_mul] at hv
  have e2 : (k : Rat) * (U : Rat) / (U : Rat) = (k : Rat) := by have := UQ_ne; grind
  rwa [e2] at hv
theorem u4_tiny : u4 ≤ 1 / 1000000 := by
  have h : u4 ≤ pw (-20) := pw_mono (by decide)
  have e : pw (-20) ≤ 1 / 1000000 := by decide +kernel
  exact Rat.le_trans h e
theorem ee_61 : 2 * ee (1 / 60 + 1 / 60 : Rat) 61 ≤ u4 := by
  have h : pw (-410) ≤ u4 := pw_mono (by decide)
  have e : 2 * ee (1 / 60 + 1 / 60 : Rat) 61 ≤ pw (-410) := by decide +kernel
  exact Rat.le_trans e h
/-- sizes of products, of quotients by small numbers. -/
theorem Sz.mono {m n : Nat} {r : Rat} (h : Sz m r) (k : m ≤ n) : Sz n r := by
  rcases h with h | ⟨h1, h2⟩
  · exact .inl h
  · exact .inr ⟨Rat.le_trans (pw_mono (by omega)) h1, Rat.le_trans h2 (pw_mono (by omega))⟩
theorem Sz.near {m : Nat} {a c d : Rat} (h : Sz m a) (hc : ab (c - a) ≤ d * ab a) (hd : d ≤ 1 / 4) : Sz (m + 1) c := by
  have h0 := ab_nn a
  have hda := Rat.mul_le_mul_of_nonneg_right hd h0
  rcases h with h | ⟨h1, h2⟩
  · left
    subst h
    have e : ab (0 : Rat) = 0 := by decide +kernel
    rw [e] at hda
    rw [e] at hc
    have : ab (c - 0) ≤ 0 := by grind
    have := (ab_le.1 this)
    grind
  · right
    have k1 := ab_tri c a 0
    have k2 := ab_tri a c 0
    rw [show c - 0 = c by grind, show a - 0 = a by grind] at k1 k2
    rw [ab_comm a c] at k2
    have e1 : pw (-((m + 1 : Nat) : Int)) * 2 = pw (-(m : Int)) := by
      rw [← pw_one, ← pw_add]; congr 1; omega
    have e2 : pw ((m + 1 : Nat) : Int) = pw (m : Int) * 2 := by rw [← pw_one, ← pw_add]; congr 1
    rw [e2]
    constructor <;> grind
theorem Sz.mul {m n : Nat} {a b : Rat} (h : Sz m a) (k : Sz n b) : Sz (m + n) (a * b) := by
  rcases h with h | ⟨h1, h2⟩
  · left; rw [h, Rat.zero_mul]
  · rcases k with k | ⟨k1, k2⟩
    · left; rw [k, Rat.mul_zero]
    · right
      rw [ab_mul]
      have e1 : pw (-((m + n : Nat) : Int)) = pw (-(m : Int)) * pw (-(n : Int)) := by rw [← pw_add]; congr 1; omega
      have e2 : pw ((m + n : Nat) : Int) = pw (m : Int) * pw (n : Int) := by rw [← pw_add]; congr 1
      rw [e1, e2]
      exact ⟨mul_mono (Rat.le_of_lt (pw_pos _)) h1 (Rat.le_of_lt (pw_pos _)) k1, mul_mono (ab_nn _) h2 (ab_nn _) k2⟩
theorem Sz.inv {k : Nat} (h : k < 64) : Sz 6 (1 / ((k + 1 : Nat) : Rat)) := by
  right
  rw [ab_pos (inv_nn k)]
  have h0 := nQ_pos k
  have h1 : ((k + 1 : Nat) : Rat) ≤ ((64 : Nat) : Rat) := cast_le.2 (by omega)
  have h2 : ((1 : Nat) : Rat) ≤ ((k + 1 : Nat) : Rat) := cast_le.2 (by omega)
  have e1 : pw (-((6 : Nat) : Int)) = 1 / 64 := by decide +kernel
  have e2 : pw ((6 : Nat) : Int) = 64 := by decide +kernel
  have e3 : ((64 : Nat) : Rat) = 64 := rfl
  have e4 : ((1 : Nat) : Rat) = 1 := rfl
  rw [e3] at h1
  rw [e4] at h2
  rw [e1, e2]
  constructor
  · rw [le_div h0]; grind
  · rw [div_le h0]; grind
theorem Sz.whole {k : Nat} (h : k < 64) : Sz 6 ((k + 1 : Nat) : Rat) := by
  right
  have h0 := nQ_pos k
  rw [ab_pos (Rat.le_of_lt h0)]
  have h1 : ((k + 1 : Nat) : Rat) ≤ ((64 : Nat) : Rat) := cast_le.2 (by omega)
  have h2 : ((1 : Nat) : Rat) ≤ ((k + 1 : Nat) : Rat) := cast_le.2 (by omega)
  have e1 : pw (-((6 : Nat) : Int)) = 1 / 64 := by decide +kernel
  have e2 : pw ((6 : Nat) : Int) = 64 := by decide +kernel
  have e3 : ((64 : Nat) : Rat) = 64 := rfl
  have e4 : ((1 : Nat) : Rat) = 1 := rfl
  rw [e3] at h1
  rw [e4] at h2
  rw [e1, e2]
  constructor <;> grind
theorem Sz.one : Sz 1 1 := by right; decide +kernel
theorem Sz.mid {s : Rat} (h1 : 9 / 10 ≤ s) (h2 : s ≤ 11 / 10) : Sz 1 s := by
  right
  have e1 : pw (-((1 : Nat) : Int)) = 1 / 2 := by decide +kernel
  have e2 : pw ((1 : Nat) : Int) = 2 := by decide +kernel
  rw [ab_pos (by grind), e1, e2]
  constructor <;> grind
/-- where the series stands behind k rounds. -/
def At60 (w : World) (gy gt gs m : Nat) (y : Rat) (k : Nat) (wr : World) : Prop :=
  ∃ t s, TermInv u4 y k t ∧ SumInv u4 y k s ∧ FV wr gt t ∧ FV wr gs s ∧ FV wr gy y ∧ Sz ((m + 10) * k + 1) t ∧ Grown w wr ∧ TB wr
theorem at60_zero (y : Rat) : TermInv u4 y 0 1 ∧ SumInv u4 y 0 1 := by
  unfold TermInv SumInv
  rw [ee_zero, TT_zero]
  have e : ((0 : Nat) : Rat) = 0 := rfl
  rw [e]
  constructor <;> (rw [show (1 : Rat) - 1 = 0 by decide +kernel, show ab (0 : Rat) = 0 by decide +kernel]; grind)
theorem sqr_mono {x y : Rat} (h0 : 0 ≤ x) (h : x ≤ y) : ∀ k, 0 ≤ sqr k x ∧ sqr k x ≤ sqr k y
  | 0 => ⟨h0, h⟩
  | k + 1 => by
    have ih := sqr_mono h0 h k
    exact ⟨mul_nn ih.1 ih.1, mul_mono ih.1 ih.2 ih.1 ih.2⟩
theorem sqr_add (x : Rat) (a : Nat) : ∀ i, sqr (a + i) x = sqr i (sqr a x)
  | 0 => rfl
  | i + 1 => by rw [show a + (i + 1) = a + i + 1 by omega]; simp only [sqr]; rw [sqr_add x a i]
theorem sqr_pw (n : Int) : ∀ i, sqr i (pw n) = pw (((2 ^ i : Nat) : Int) * n)
  | 0 => by show pw n = pw (((2 ^ 0 : Nat) : Int) * n); congr 1; omega
  | i + 1 => by
    simp only [sqr]
    rw [sqr_pw n i, ← pw_add]
    congr 1
    rw [Nat.pow_succ]
    have : ((2 ^ i * 2 : Nat) : Int) = ((2 ^ i : Nat) : Int) * 2 := by omega
    rw [this]; grind
theorem sqr_size {T : Rat} (h1 : 31 / 32 ≤ T) (h2 : T ≤ 33 / 32) {j : Nat} (hj : j ≤ 16) : pw (-4096) ≤ sqr j T ∧ sqr j T ≤ pw 4096 := by
  have lo := sqr_mono (by decide +kernel) h1
  have hi := sqr_mono (show 0 ≤ T by grind) h2
  rcases Nat.lt_or_ge j 4 with h | h
  · have e1 : pw (-4096) ≤ 1 / 2 := Rat.le_trans (pw_mono (show (-4096 : Int) ≤ -1 by decide)) (by decide +kernel)
    have e2 : 2 ≤ pw 4096 := Rat.le_trans (show 2 ≤ pw 1 by decide +kernel) (pw_mono (by decide))
    have a := (lo j).2
    have b := (hi j).2
    have c : 1 / 2 ≤ sqr j (31 / 32) ∧ sqr j (33 / 32) ≤ 2 := by
      match j, h with
      | 0, _ => decide +kernel
      | 1, _ => decide +kernel
      | 2, _ => decide +kernel
      | 3, _ => decide +kernel
    constructor <;> grind
  · obtain ⟨i, rfl⟩ := Nat.exists_eq_add_of_le h
    have a := (lo 4).2
    have b := (hi 4).2
    have c : pw (-1) ≤ sqr 4 (31 / 32) ∧ sqr 4 (33 / 32) ≤ pw 1 := by decide +kernel
    rw [sqr_add]
    have l := (sqr_mono (Rat.le_of_lt (pw_pos (-1))) (Rat.le_trans c.1 a) i).2
    have u := (sqr_mono (hi 4).1 (Rat.le_trans b c.2) i).2
    rw [sqr_pw] at l u
    have hi2 : 2 ^ i ≤ 2 ^ 12 := Nat.pow_le_pow_right (by decide) (by omega)
    exact ⟨Rat.le_trans (pw_mono (by omega)) l, Rat.le_trans u (pw_mono (by omega))⟩
theorem Sz.of_rl {x y d : Rat} (h : Rl x y d) (hd : d ≤ 1 / 4) (h1 : pw (-4096) ≤ y) (h2 : y ≤ pw 4096) : Sz 4097 x := by
  have hy : Sz 4096 y := .inr (by rw [ab_pos (Rat.le_of_lt h.2)]; exact ⟨h1, h2⟩)
  exact hy.near (by rw [ab_pos (Rat.le_of_lt h.2)]; exact h.1) hd
theorem d16 {j : Nat} (hj : j ≤ 16) : ((3 ^ j : Nat) : Rat) * (150 * u4) ≤ 1 / 100 ∧ 10 * u4 ≤ ((3 ^ j : Nat) : Rat) * (150 * u4) := by
  have h1 : ((3 ^ j : Nat) : Rat) ≤ ((3 ^ 16 : Nat) : Rat) := cast_le.2 (Nat.pow_le_pow_right (by decide) hj)
  have h2 : u4 ≤ pw (-60) := pw_mono (by decide)
  have h3 := u4_pos
  have h4 := pow3_pos j
  have a := mul_mono (cast_nn _) h1 (show 0 ≤ 150 * u4 by grind) (show 150 * u4 ≤ 150 * pw (-60) by grind)
  have e : ((3 ^ 16 : Nat) : Rat) * (150 * pw (-60)) ≤ 1 / 100 := by decide +kernel
  have b := Rat.mul_le_mul_of_nonneg_right h4 (show 0 ≤ 150 * u4 by grind)
  constructor <;> grind
/-- where the squaring stands. -/
def At16 (w : World) (gs : Nat) (T : Rat) (j : Nat) (wr : World) : Prop :=
  ∃ s, Rl s (sqr j T) (((3 ^ j : Nat) : Rat) * (150 * u4)) ∧ Sz 4097 s ∧ FV wr gs s ∧ Grown w wr ∧ TB wr
theorem raised_c {gx n : Nat} {r : Rat} {w : World} (hT : TB w) (hx : FV w gx r) (hs : Sz n r) (hn : n ≤ 1200) (hr : ab r ≤ 1024) :
    Calls Tryd.prog 20 #[.pointer (some ⟨gx, 0, none⟩)] w (fun e w' => ∃ v, Rl v (sqr 16 (TT (r * pw (-16)) 60)) (((3 ^ 16 : Nat) : Rat) * (150 * u4)) ∧ Sz 4097 v ∧ RetNF v w e w') := by
  have HZ := Lib.hid (flcNew w 37)
  have HG0 : RowKit.Hid (Grown w (w.alloc (.cells #[.bool false, .slice none 0 0, .int .i64 0, .int .i64 0, .bool false] 37))) := Lib.hid ((Grown.refl w).alloc _ _)
  have HT := Lib.hid (hT.grown HG0.out)
  have HX := Lib.hid (hx.grown HG0.out)
  have HS := Lib.hid hs
  have HR := Lib.hid hr
  have HXL := Lib.hid hx.lt
  have HO : RowKit.Hid (∀ W, TB W → Calls Tryd.prog 15 #[.float .f64 4607182418800017408] W (RetNF 1 W)) := Lib.hid (fun W h => by have := wide04_c h (f := 4607182418800017408) (by decide) (by decide +kernel); rwa [qv_one] at this)
  clear hT hx hs hr
  go_enter Tryd.func20, Tryd.ntmps20
  go_upto_region 3 with (first
    | (go_at_call 21; go_loud ((with_reducible refine (fprec_c HT.out HZ.out).mono ?_); rintro e1 w1 ⟨rfl, h1, h2⟩; have H1 := Lib.hid h1; have HG1 := Lib.hid (h2.grown HG0.out (Nat.le_refl _)); have HT1 := Lib.hid (HT.out.keptC HZ.out h2); have HX1 := Lib.hid (HX.out.kept h2 (Nat.ne_of_lt HXL.out) HZ.out.no); clear h1 h2))
    | (go_at_call 28; go_loud ((with_reducible refine (fmant_c HT1.out.at' HT1.out.lt H1.out.z HX1.out HS.out (by omega) (by decide) (by decide)).mono ?_); rintro e2 w2 ⟨y, hy, rfl, h1, h2⟩; have HY := Lib.hid hy; have H2 := Lib.hid h1; have HG2 := Lib.hid (h2.grown HG1.out (Nat.le_refl _)); have HT2 := Lib.hid (HT1.out.kept H1.out.z h2); clear hy h1 h2))
    | (go_at_call 15; go_loud (first
        | ((with_reducible refine (HO.out _ HT3.out).mono ?_); rintro e4 w4 ⟨gt, rfl, h1, h2, h3⟩; have HTM := Lib.hid h1; have HSM := Lib.hid (HSM.out.grown h2); have HYM := Lib.hid (HYM.out.grown h2); have HG4 := Lib.hid (gr_trans HG3.out h2); have HT4 := Lib.hid (HT3.out.grown h2); have HNE := Lib.hid (Nat.ne_of_lt (Nat.lt_of_lt_of_le HSL.out h3)); have HNY2 := Lib.hid (Nat.ne_of_lt (Nat.lt_of_lt_of_le HYL.out h3)); have HLT := Lib.hid (Nat.le_trans HG3.out.2.2 h3); clear h1 h2 h3)
        | ((with_reducible refine (HO.out _ HT2.out).mono ?_); rintro e3 w3 ⟨gs, rfl, h1, h2, h3⟩; have HSM := Lib.hid h1; have HYM := Lib.hid (H2.out.grown h2); have HG3 := Lib.hid (gr_trans HG2.out h2); have HT3 := Lib.hid (HT2.out.grown h2); have HSL := Lib.hid h1.lt; have HYL := Lib.hid (H2.out.grown h2).lt; have HNY := Lib.hid (Nat.ne_of_lt (Nat.lt_of_lt_of_le H2.out.lt h3)); have HLS := Lib.hid (Nat.le_trans HG2.out.2.2 h3); clear h1 h2 h3)))
    | fail)
  obtain ⟨m, hm⟩ : ∃ m, m = n + 17 := ⟨_, rfl⟩
  have HU : RowKit.Hid (0 ≤ u4 ∧ u4 ≤ 1 / 1000000) := Lib.hid ⟨Rat.le_of_lt u4_pos, u4_tiny⟩
  have hp16 : Sz 16 (pw (-16)) := by right; decide +kernel
  have HYZ : RowKit.Hid (Sz m y) := Lib.hid (by
    have := (HS.out.mul hp16).near HY.out u4_small
    rw [hm]; exact this.mono (by omega))
  have hy64 : ab (r * pw (-16)) ≤ 1 / 64 := by
    rw [ab_mul, show ab (pw (-16)) = 1 / 65536 by decide +kernel]
    have := HR.out; grind
  have HY64 := Lib.hid hy64
  have HY60 : RowKit.Hid (ab y ≤ 1 / 60) := Lib.hid (by
    have h1 := ab_add (y - r * pw (-16)) (r * pw (-16))
    rw [show y - r * pw (-16) + r * pw (-16) = y by grind] at h1
    have h2 := HY.out
    have h3 := Rat.mul_le_mul_of_nonneg_left hy64 HU.out.1
    have h4 := HU.out.2
    grind)
  have HAT0 : RowKit.Hid (At60 w w.heap.size gt gs m y 0 w4) := Lib.hid ⟨1, 1, (at60_zero y).1, (at60_zero y).2, HTM.out, HSM.out, HYM.out, Sz.one.mono (by omega), HG4.out, HT4.out⟩
  have HMB : RowKit.Hid (m ≤ 1217) := Lib.hid (by omega)
  clear hm hp16 hy64 HT HX HT1 HX1 HG1 H1 HT2 HG2 H2 HT3 HSM HYM HTM HG3 HT4 HG4
  go_wp2
  go_loopw [6] (fun i wr => ∃ k : Nat, k ≤ 60 ∧ i = .int .i64 ((k : Int) + 1) ∧ RowKit.Hid (At60 w w.heap.size gt gs m y k wr)) (fun i _ => 61 - (intOf i).toNat)
  case atStart => exact ⟨0, by omega, rfl, HAT0⟩
  case round =>
    obtain ⟨k, hk, rfl, HAT⟩ := hrel
    clear HAT0
    obtain ⟨t, s, ht, hs, h1, h2, h3, h4, h5, h6⟩ := HAT.out
    have HTI := Lib.hid ht
    have HSI := Lib.hid hs
    have HF1 := Lib.hid h1
    have HF2 := Lib.hid h2
    have HF3 := Lib.hid h3
    have HTZ := Lib.hid h4
    have HGR := Lib.hid h5
    have HTB := Lib.hid h6
    clear ht hs h1 h2 h3 h4 h5 h6 HAT
    by_cases hk6 : k < 60
    · have HVK : RowKit.Hid (V (floatOfInt .f64 ((k : Int) + 1)) ((k + 1 : Nat) : Rat)) := Lib.hid (by
        have := V.ofNat (k := k + 1) (by omega)
        rw [show (((k + 1 : Nat)) : Int) = (k : Int) + 1 by omega] at this
        exact this)
      have HM1 : RowKit.Hid ((m + 10) * k + 1 + m + 1 + 7 ≤ (m + 10) * (k + 1) + 1) := Lib.hid (by rw [Nat.mul_succ]; omega)
      have HM2 : RowKit.Hid ((m + 10) * (k + 1) + 1 ≤ 80000) := Lib.hid (by
        have : (m + 10) * (k + 1) ≤ 1227 * 60 := Nat.mul_le_mul (by have := HMB.out; omega) (by omega)
        omega)
      have hmm := HM1.out
      have hmm2 := HM2.out
      have hmb := HMB.out
      go_wp2_with (first
        | (go_at_call 54; go_loud ((with_reducible refine (fmul_c HTB.out HF1.out.z HF1.out HF3.out HTZ.out HYZ.out (by omega)).mono ?_); rintro e1 wa ⟨t1, k1, rfl, h1, h2⟩; have K1 := Lib.hid k1; have A1 := Lib.hid h1; have A2 := Lib.hid (HF2.out.kept h2 HNE.out HF1.out.z.no); have A3 := Lib.hid (HF3.out.kept h2 HNY2.out HF1.out.z.no); have AG := Lib.hid (h2.grown HGR.out HLT.out); have AT := Lib.hid (HTB.out.kept HF1.out.z h2); have AB := Lib.hid h2; clear k1 h1 h2))
        | (go_at_call 15; go_loud ((with_reducible refine (wide04_c AT.out HVK.out.lt HVK.out.fin).mono ?_); rw [HVK.out.val]; rintro e2 wb ⟨gk, rfl, h1, h2, h3⟩; have BK := Lib.hid h1; have B1 := Lib.hid (A1.out.grown h2); have B2 := Lib.hid (A2.out.grown h2); have B3 := Lib.hid (A3.out.grown h2); have BT := Lib.hid (AT.out.grown h2); have BG := Lib.hid h2; clear h1 h2 h3))
        | (go_at_call 65; go_loud ((with_reducible refine (fquo_c BT.out B1.out.z B1.out BK.out ((HTZ.out.mul HYZ.out).near K1.out u4_small) (Sz.whole (by omega)) (by omega) (by have := nQ_pos k; grind)).mono ?_); rintro e3 wc ⟨t2, k2, rfl, h1, h2⟩; have K2 := Lib.hid k2; have C1 := Lib.hid h1; have C2 := Lib.hid (B2.out.kept h2 HNE.out B1.out.z.no); have C3 := Lib.hid (B3.out.kept h2 HNY2.out B1.out.z.no); have CT := Lib.hid (BT.out.kept B1.out.z h2); have CG := Lib.hid (h2.grown (gr_trans AG.out BG.out) HLT.out); have TI := Lib.hid (term_step HU.out.1 HU.out.2 hk6 HTI.out K1.out k2); have TZ := Lib.hid (Sz.mono (Sz.near (d := 3 * u4) (((HTZ.out.mul HYZ.out).near K1.out u4_small).mul (Sz.inv (k := k) (by omega))) (by have e : t1 * (1 / ((k + 1 : Nat) : Rat)) = t1 / ((k + 1 : Nat) : Rat) := (by grind); rw [e]; exact k2) (by have := HU.out.2; grind)) (show _ ≤ (m + 10) * (k + 1) + 1 by omega)); clear k2 h1 h2))
        | (go_at_call 16; go_loud ((with_reducible refine (fadd_c CT.out C2.out.z C2.out C1.out (Sz.mid (sum_range HU.out.2 HU.out.1 hk HY60.out HSI.out).1 (sum_range HU.out.2 HU.out.1 hk HY60.out HSI.out).2) TZ.out (by omega)).mono ?_); rintro e4 wd ⟨s', k3, rfl, h1, h2⟩; have SI := Lib.hid (sum_step HU.out.1 HU.out.2 hk6 HY60.out HSI.out TI.out k3); have D2 := Lib.hid h1; have D1 := Lib.hid (C1.out.kept h2 (Ne.symm HNE.out) C2.out.z.no); have D3 := Lib.hid (C3.out.kept h2 HNY.out C2.out.z.no); have DT := Lib.hid (CT.out.kept C2.out.z h2); have DG := Lib.hid (h2.grown CG.out HLS.out); clear k3 h1 h2))
        | fail)
      go_roundw
      case rel => exact ⟨k + 1, by omega, by go_num, Lib.hid ⟨t2, s', TI.out, SI.out, D1.out, D2.out, D3.out, TZ.out, DG.out, DT.out⟩⟩
      case measure => simp [intOf]; omega
    · obtain rfl : k = 60 := by omega
      obtain ⟨T, hTT⟩ : ∃ T, TT (r * pw (-16)) 60 = T := ⟨_, rfl⟩
      have HT0 : RowKit.Hid (31 / 32 ≤ T ∧ T ≤ 33 / 32) := Lib.hid (by
        have b := TT_small (show ab (r * pw (-16)) ≤ 1 by have := HY64.out; grind) 60
        rw [hTT, ab_le] at b
        have := HY64.out
        constructor <;> grind)
      have HR0 : RowKit.Hid (Rl s T (150 * u4)) := Lib.hid (by rw [← hTT]; exact sum_end HU.out.1 HY64.out HY.out HU.out.2 ee_61 HSI.out)
      have HTT := Lib.hid hTT
      have HAJ : RowKit.Hid (At16 w gs T 0 wr) := Lib.hid ⟨s, by
          have e : ((3 ^ 0 : Nat) : Rat) = 1 := by decide +kernel
          rw [e, Rat.one_mul]; exact HR0.out, by
          have h := sum_range HU.out.2 HU.out.1 hk HY60.out HSI.out
          exact (Sz.mid h.1 h.2).mono (by decide), HF2.out, HGR.out, HTB.out⟩
      clear HTI HSI HF1 HF2 HF3 HTZ HGR HTB HR0 hTT
      go_wp2
      go_loopw [7] (fun i wq => ∃ j : Nat, j ≤ 16 ∧ i = .int .i64 (j : Int) ∧ RowKit.Hid (At16 w gs T j wq)) (fun i _ => 16 - (intOf i).toNat)
      case atStart => exact ⟨0, by omega, rfl, HAJ⟩
      case round =>
        obtain ⟨j, hj, rfl, HAQ⟩ := hrel
        clear HAJ
        obtain ⟨q, hq, q1, q2, q3, q4⟩ := HAQ.out
        have HQ := Lib.hid hq
        have HQZ := Lib.hid q1
        have HQF := Lib.hid q2
        have HQG := Lib.hid q3
        have HQT := Lib.hid q4
        clear hq q1 q2 q3 q4 HAQ
        by_cases hj6 : j < 16
        · go_wp2_with (first
            | (go_at_call 54; go_loud ((with_reducible refine (fmul_c HQT.out HQF.out.z HQF.out HQF.out HQZ.out HQZ.out (by decide)).mono ?_); rintro e1 wa ⟨q', k1, rfl, h1, h2⟩; have QS := Lib.hid (rl_step HQ.out k1 HU.out.1 (d16 hj).2 (d16 hj).1); have A1 := Lib.hid h1; have AG := Lib.hid (h2.grown HQG.out HLS.out); have AT := Lib.hid (HQT.out.kept HQF.out.z h2); clear k1 h1 h2))
            | fail)
          go_roundw
          case rel =>
            have hqs : Rl q' (sqr (j + 1) T) (((3 ^ (j + 1) : Nat) : Rat) * (150 * u4)) := by
              rw [pow3_succ, Rat.mul_assoc]; exact QS.out
            have sz := sqr_size HT0.out.1 HT0.out.2 (j := j + 1) (by omega)
            have d9 := (d16 (j := j + 1) (by omega)).1
            exact ⟨.int .i64 ((j : Int) + 1), _, _, _, _, _, _, _, _, ⟨j + 1, by omega, by go_num, Lib.hid ⟨q', hqs, Sz.of_rl hqs (by grind) sz.1 sz.2, A1.out, AG.out, AT.out⟩⟩, rfl⟩
          case measure => simp [intOf]; omega
        · obtain rfl : j = 16 := by omega
          go_wp2_with fail
          go_ret
          exact ⟨q, by rw [HTT.out]; exact HQ.out, HQZ.out, gs, rfl, HQF.out, HQG.out, HLS.out⟩
end Go.Proofs.YtcfkhhnkboealaaDoor
namespace Go.Proofs.YtcfkhhnkboealaaDoor
open Go.RowKit
set_option linter.unusedVariables false
set_option linter.unusedSimpArgs false
set_option maxRecDepth 100000
set_option maxHeartbeats 4000000
/-- the gap behind a float. -/
def gapq (r : Nat) : Rat := ((mval (r + 1) : Rat) - (mval r : Rat)) / (U : Rat)
theorem mval_step (r : Nat) : mval (r + 1) = mval r + 2 ^ (r / 4503599627370496 - 1) := by
  by_cases h : r < 4503599627370496
  · have e1 := mval_plc (L := 0) (q := r) (by omega) (.inl rfl)
    have e2 := mval_plc (L := 0) (q := r + 1) (by omega) (.inl rfl)
    simp only [Nat.zero_mul, Nat.zero_add, Nat.pow_zero, Nat.mul_one] at e1 e2
    rw [e1, e2, show r / 4503599627370496 - 1 = 0 by omega]
  · obtain ⟨L, hL⟩ : ∃ L, L = r / 4503599627370496 - 1 := ⟨_, rfl⟩
    obtain ⟨q, hq⟩ : ∃ q, q = r - L * 4503599627370496 := ⟨_, rfl⟩
    have hr : r = L * 4503599627370496 + q := by omega
    have b1 : 4503599627370496 ≤ q := by omega
    have b2 : q < 9007199254740992 := by omega
    have e1 := mval_plc (L := L) (q := q) (by omega) (.inr b1)
    have e2 := mval_plc (L := L) (q := q + 1) (by omega) (.inr (by omega))
    rw [← hL]
    have e3 : r + 1 = L * 4503599627370496 + (q + 1) := by omega
    rw [e3, e2, hr, e1, Nat.add_mul, Nat.one_mul]
theorem gap_eq (r : Nat) : gapq r = ((2 ^ (r / 4503599627370496 - 1) : Nat) : Rat) / (U : Rat) := by
  unfold gapq
  rw [mval_step]
  have : ((mval r + 2 ^ (r / 4503599627370496 - 1) : Nat) : Rat) = (mval r : Rat) + ((2 ^ (r / 4503599627370496 - 1) : Nat) : Rat) := by grind
  rw [this]
  congr 1; grind
theorem gap_mono {r s : Nat} (h : r ≤ s) : gapq r ≤ gapq s := by
  have hU := UQ_pos
  rw [gap_eq, gap_eq, div_le hU, div_self_mul _ UQ_ne]
  exact cast_le.2 (Nat.pow_le_pow_right (by decide) (by omega))
theorem gap_pos (r : Nat) : 0 < gapq r := by
  have h := gap_mono (Nat.zero_le r)
  have e : gapq 0 = 1 / (U : Rat) := by rw [gap_eq]; rfl
  have h2 : 0 < 1 / (U : Rat) := by
    have hU := UQ_pos
    have e9 := div_self_mul 1 UQ_ne
    rcases Rat.le_total (a := 1 / (U : Rat)) (b := 0) with k | k
    · have := Rat.mul_le_mul_of_nonneg_right k (Rat.le_of_lt hU); grind
    · by_cases e0 : 1 / (U : Rat) = 0
      · rw [e0] at e9; grind
      · grind
  grind
theorem word_facts {r : Nat} (h : r < 9218868437227405312) : fin r = true ∧ sgn r = false ∧ rung r = r ∧ isN r = false ∧ sval r = (mval r : Int) ∧ Rep r r := by
  have h1 : rung r = r := rung_pos (by omega)
  have hf : fin r = true := by unfold Proofs.YtcfkhhnkboealaaDoor.fin; rw [h1]; simpa using h
  exact ⟨hf, sgn_rung (by omega), h1, fin_notN hf, sval_pos' (by omega), Rep.self (by omega) (nrm_of_not (fin_notN hf))⟩
theorem flt_words {r s : Nat} (h : r < 9218868437227405312) (k : s < 9218868437227405312) : flt r s = decide (r < s) := by
  obtain ⟨_, _, _, a4, a5, _⟩ := word_facts h
  obtain ⟨_, _, _, b4, b5, _⟩ := word_facts k
  rw [flt_eq, a4, b4, a5, b5]
  have : (mval r : Int) < (mval s : Int) ↔ r < s := by rw [Int.ofNat_lt]; exact mval_lt_iff
  simp [this]
theorem next_to {r g : Nat} (h : r < g) (k : g < 9218868437227405312) : nextF r g = r + 1 := by
  obtain ⟨_, _, a3, a4, a5, _⟩ := word_facts (show r < 9218868437227405312 by omega)
  obtain ⟨_, _, _, b4, b5, _⟩ := word_facts k
  have e1 : feq r g = false := by
    rw [feq_eq, a4, b4, a5, b5]
    have := mval_lt_iff.2 h
    simp; omega
  unfold nextF
  rw [a4, b4, e1, flt_words (by omega) k, feq_zero a4, a3, flt_words (by decide) (by omega)]
  have hd : decide (r < g) = true := decide_eq_true h
  rw [hd]
  by_cases h0 : r = 0
  · subst h0
    have : sgn g = false := (word_facts k).2.1
    simp [this]
  · have hp : decide (0 < r) = true := decide_eq_true (by omega)
    rw [hp]
    simp [h0]
    exact nrm_of_not (num_pos (by omega))
theorem next_self {r : Nat} (h : r < 9218868437227405312) : nextF r r = r := by
  obtain ⟨_, _, a3, a4, a5, _⟩ := word_facts h
  have e1 : feq r r = true := by rw [feq_eq, a4]; simp
  unfold nextF
  rw [a4, e1]
  simp
theorem BG_pw' : BG = pw (kBG : Int) := by rw [pw_nat]; rfl
theorem gap_pw (r : Nat) : gapq r = pw (((r / 4503599627370496 - 1 : Nat) : Int) - (e1 : Int)) := by
  rw [gap_eq, pw_sub, U_def]
theorem gap_le {r : Nat} (h : r < 9218868437227405312) : gapq r ≤ pw 971 := by
  rw [gap_pw]
  have := e1_eq
  exact pw_mono (by omega)
/-- a float and the one behind it, as the program takes their difference. -/
theorem V.gap {r : Nat} (h : r < 9218868437227405311) : ∃ x, V (fsub (r + 1) r) x ∧ ab (x - gapq r) ≤ uu * gapq r := by
  have h1 := V.pos (r := r + 1) (by omega)
  have h2 := V.pos (r := r) (by omega)
  have e : (mval (r + 1) : Rat) / (U : Rat) - (mval r : Rat) / (U : Rat) = gapq r := by unfold gapq; grind
  have hp := gap_pos r
  have hg : gapq r ≤ BG := by
    rw [BG_pw']
    exact Rat.le_trans (gap_le (by omega)) (pw_mono (by rw [kBG_eq]; decide))
  obtain ⟨x, hx, k⟩ := h1.sub h2 (by rw [e, ab_pos (Rat.le_of_lt hp)]; exact hg)
  rw [e, ab_pos (Rat.le_of_lt hp)] at k
  exact ⟨x, hx, k⟩
theorem add_words {r s : Nat} (h : r < 9218868437227405312) (k : s < 9218868437227405312) : fadd r s = rndN (mval r + mval s) := by
  obtain ⟨a1, a2, _, _, a5, _⟩ := word_facts h
  obtain ⟨b1, b2, _, _, b5, _⟩ := word_facts k
  rw [fadd_fin a1 b1, a5, b5, a2, b2]
  have e1 : (if (mval r : Int) + (mval s : Int) = 0 then (false && false) else decide ((mval r : Int) + (mval s : Int) < 0)) = false := by
    split
    · rfl
    · exact decide_eq_false (by omega)
  rw [e1, show ((mval r : Int) + (mval s : Int)).natAbs = mval r + mval s by omega]
  unfold wd; exact if_neg (by decide)
theorem posW {f : Nat} {a : Rat} (hf : V f a) (h : 0 < a) : f < 9218868437227405312 := by
  have h1 := fin_rung hf.fin
  have hs : sgn f = false := by
    cases e : sgn f
    · rfl
    · have e1 := hf.form
      rw [e] at e1
      have e2 := (le_div (a := 0) (b := (mval (rung f) : Rat)) UQ_pos).2 (by rw [Rat.zero_mul]; exact cast_nn _)
      simp only [sq, if_true] at e1
      grind
  have hl := hf.lt
  unfold sgn at hs
  unfold rung at h1
  simp at hs
  omega
theorem fsub_self {r : Nat} (h : r < 9218868437227405312) : fsub r r = 0 := by
  obtain ⟨a1, a2, _, _, a5, _⟩ := word_facts h
  rw [fsub_fin a1 a1 (by omega), Int.sub_self, a2]
  decide +kernel
theorem mval_972 : (mval 8984681256604139520 : Rat) = pw 972 * (U : Rat) := by
  obtain ⟨k, hk⟩ : ∃ k : Nat, k = 1994 := ⟨_, rfl⟩
  have h := mval_two k
  rw [show (k + 1) * 4503599627370496 = 8984681256604139520 by omega] at h
  have e := pw_sub (52 + k) e1
  rw [show ((52 + k : Nat) : Int) - ((e1 : Nat) : Int) = 972 by rw [e1_eq]; omega] at e
  rw [h, e, U_def]
  exact (div_self_mul _ (pow_neQ _)).symm
/-- the gap as a float: a small word. -/
theorem gap_word {r : Nat} (h : r < 9218868437227405312) : fsub (nextF r 9218868437227405311) r ≤ 8984681256604139520 := by
  rcases Nat.lt_or_ge r 9218868437227405311 with k | k
  · rw [next_to k (by decide)]
    obtain ⟨x, hx, e⟩ := V.gap k
    have hp := gap_pos r
    have hl := gap_le h
    have hx0 : 0 < x := by rw [ab_le, show uu = 1 / 9007199254740992 from rfl] at e; grind
    have hw := posW hx hx0
    have hv := hx.uniq (V.pos hw)
    have : mval (fsub (r + 1) r) ≤ mval 8984681256604139520 := by
      apply cast_le.1
      rw [mval_972]
      have h1 := div_self_mul (mval (fsub (r + 1) r) : Rat) UQ_ne
      rw [← hv] at h1
      rw [← h1]
      apply Rat.mul_le_mul_of_nonneg_right _ (Rat.le_of_lt UQ_pos)
      have e2 : pw 972 = pw 971 * 2 := by rw [← pw_one, ← pw_add]; rfl
      rw [e2]
      rw [ab_le, show uu = 1 / 9007199254740992 from rfl] at e
      grind
    exact mval_le_iff.1 this
  · obtain rfl : r = 9218868437227405311 := by omega
    rw [next_self (by decide), fsub_self (by decide)]
    decide
theorem add_gap {r s g : Nat} (hs : r ≤ s) (h : s < 9214364837600034816) (hg : g ≤ 8984681256604139520) : r ≤ fadd s g ∧ fadd s g < 9218868437227405312 := by
  rw [add_words (by omega) (by omega)]
  constructor
  · exact Nat.le_trans hs (le_rndN_of (by omega) (by omega))
  · refine Nat.lt_of_le_of_lt (rndN_le_of (r := 9218868437227405311) (by decide) ?_) (by decide)
    have h1 := mval_le_iff.2 (Nat.le_of_lt h)
    have h2 := mval_le_iff.2 hg
    have h3 : mval 9214364837600034816 + mval 8984681256604139520 ≤ mval 9218868437227405311 := by decide +kernel
    omega
/-- what the unit comes to: a float at least as great, nearly, as the gap. -/
def UnitOk (r q : Nat) : Prop := ∃ x, V q x ∧ (1 - uu) * gapq r ≤ x ∧ x ≤ pw 972 ∧ (r + 17 < 9214364837600034816 → x ≤ 21 / 10 * gapq r)
theorem unit_far {r : Nat} (h : r < 9218868437227405312) (h2 : ¬ r + 17 < 9214364837600034816) : UnitOk r 8980177656976769024 := by
  have e : (mval 8980177656976769024 : Rat) / (U : Rat) = pw 971 := by
    obtain ⟨k, hk⟩ : ∃ k : Nat, k = 1993 := ⟨_, rfl⟩
    have h := mval_two k
    rw [show (k + 1) * 4503599627370496 = 8980177656976769024 by omega] at h
    have e := pw_sub (52 + k) e1
    rw [show ((52 + k : Nat) : Int) - ((e1 : Nat) : Int) = 971 by rw [e1_eq]; omega] at e
    rw [h, e, U_def]
  refine ⟨pw 971, by rw [← e]; exact V.pos (by decide), ?_, pw_mono (by decide), fun k => absurd k h2⟩
  have := gap_le h
  have hp := gap_pos r
  rw [show uu = 1 / 9007199254740992 from rfl]
  grind
theorem gap_word2 {r : Nat} (h : r < 9218868437227405312) : mval (fsub (nextF r 9218868437227405311) r) ≤ 2 ^ (r / 4503599627370496 - 1) := by
  by_cases h1 : r < 9218868437227405311
  · rw [next_to h1 (by decide)]
    obtain ⟨a1, a2, a3, _, a5, _⟩ := word_facts (show r + 1 < 9218868437227405312 by omega)
    obtain ⟨b1, b2, b3, _, b5, _⟩ := word_facts h
    have st := mval_step r
    obtain ⟨L, hL⟩ : ∃ L, L = r / 4503599627370496 - 1 := ⟨_, rfl⟩
    rw [← hL] at st ⊢
    have hx := (rnd_exact (m := 1) (k := L) (by decide) (by omega)).2
    have hp := Nat.two_pow_pos L
    rw [fsub_fin a1 b1 (by omega), a5, b5, st]
    have e : (((mval r + 2 ^ L : Nat) : Int) - (mval r : Int)) = ((2 ^ L : Nat) : Int) := by
      generalize 2 ^ L = X
      omega
    rw [e, Int.natAbs_natCast]
    have e2 : (if ((2 ^ L : Nat) : Int) = 0 then (sgn (r + 1) && !sgn r) else decide (((2 ^ L : Nat) : Int) < 0)) = false := by
      generalize 2 ^ L = X at *
      rw [if_neg (by omega)]
      exact decide_eq_false (by omega)
    rw [e2, wd_false']
    rw [Nat.one_mul] at hx
    exact Nat.le_of_eq hx
  · have h2 : r = 9218868437227405311 := by omega
    rw [h2, next_self (by decide), fsub_self (by decide), mval_zero]
    exact Nat.zero_le _
theorem add_gap2 {r s : Nat} (hr : r < 9218868437227405312) (hs : r ≤ s) (h : s < 9214364837600034816) (hg : fsub (nextF r 9218868437227405311) r ≤ 8984681256604139520) : fadd s (fsub (nextF r 9218868437227405311) r) ≤ s + 1 := by
  rw [add_words (by omega) (by omega)]
  refine rndN_le_of (by omega) ?_
  rw [mval_step]
  refine Nat.add_le_add_left (Nat.le_trans (gap_word2 hr) (Nat.pow_le_pow_right (by decide) ?_)) _
  have := Nat.div_le_div_right (c := 4503599627370496) hs
  omega
theorem gap_up2 {r s : Nat} (h : s ≤ r + 17) : gapq s ≤ 2 * gapq r := by
  rw [gap_pw, gap_pw]
  have e : pw (1 + (((r / 4503599627370496 - 1 : Nat) : Int) - (e1 : Int))) = 2 * pw (((r / 4503599627370496 - 1 : Nat) : Int) - (e1 : Int)) := by
    rw [pw_add]
    have : pw 1 = 2 := by decide +kernel
    rw [this]
  rw [← e]
  exact pw_mono (by omega)
theorem unit_near {r s : Nat} (hs : r ≤ s) (h : s < 9214364837600034816) (hs2 : s ≤ r + 17) : UnitOk r (fsub (nextF s 9218868437227405311) s) := by
  rw [next_to (by omega) (by decide)]
  obtain ⟨x, hx, e⟩ := V.gap (r := s) (by omega)
  have hl := gap_le (r := s) (by omega)
  have hm := gap_mono hs
  have hm2 := gap_up2 hs2
  have hp := gap_pos r
  have hp2 := gap_pos s
  rw [ab_le, show uu = 1 / 9007199254740992 from rfl] at e
  refine ⟨x, hx, ?_, ?_, fun _ => by grind⟩
  · rw [show uu = 1 / 9007199254740992 from rfl]
    grind
  · have e2 : pw 972 = pw 971 * 2 := by rw [← pw_one, ← pw_add]; rfl
    rw [e2]
    grind
theorem unit_c {r : Nat} (w : World) (hr : r < 9218868437227405312) : Calls Tryd.prog 53 #[.float .f64 r] w (fun e w' => ∃ q n, e = .returned (.float .f64 q) ∧ UnitOk r q ∧ w' = w.drewN n) := by
  have HR := Lib.hid hr
  obtain ⟨g, hg⟩ : ∃ g, g = fsub (nextF r 9218868437227405311) r := ⟨_, rfl⟩
  have HGW : RowKit.Hid (g ≤ 8984681256604139520) := Lib.hid (by rw [hg]; exact gap_word hr)
  have hrr := (word_facts hr).2.2.2.2.2
  have HM : RowKit.Hid (Rep 9218868437227405311 9218868437227405311) := Lib.hid Rep.cmax
  have RC : Rep 9214364837600034816 9214364837600034816 := (word_facts (by decide)).2.2.2.2.2
  have HG := Lib.hid hg
  clear hg
  go_enter Tryd.func53, Tryd.ntmps53
  go_wp2_with (first
    | (go_at_call 17; go_loud ((with_reducible refine (next_c hrr HM.out _).mono ?_); rintro e w' ⟨r1, n1, rfl, hr1, rfl⟩; have hgr := hr1.sub hrr (w := (w.drewN n1))))
    | fail)
  rw [← HG.out] at hgr
  generalize fres .sub r1 r (w.drewN n1) = g1 at *
  have hg1 : g1 = g := hgr.eq_of (num_pos (by have := HGW.out; omega))
  subst hg1
  clear hgr hr1
  generalize eW : World.drewN _ _ = W0
  have HW0 : RowKit.Hid (∃ d, W0 = w.drewN d) := Lib.hid ⟨_, eW.symm⟩
  clear eW
  go_loopw [0, 4] (fun a i wr => ∃ s k d : Nat, i = .int .i64 k ∧ k ≤ 17 ∧ a = .float .f64 s ∧ r ≤ s ∧ s ≤ r + k ∧ s < 9218868437227405312 ∧ wr = w.drewN d) (fun _ i _ => 17 - (intOf i).toNat)
  case atStart =>
    obtain ⟨d, hd⟩ := HW0.out
    exact ⟨r, 0, d, rfl, by omega, rfl, Nat.le_refl _, Nat.le_refl _, HR.out, hd⟩
  case round =>
    obtain ⟨s, k, d, rfl, hk, rfl, hrs, hrk, hs, rfl⟩ := hrel
    have hsr := (word_facts hs).2.2.2.2.2
    have kl := (hsr.lt' RC).trans (flt_words hs (by decide))
    have kg : (FloatKind.f64.format.order s 9214364837600034816 == some .gt || FloatKind.f64.format.order s 9214364837600034816 == some .eq) = decide (9214364837600034816 ≤ s) := by
      rw [hsr.ge' RC, fle_eq, (word_facts (show 9214364837600034816 < 9218868437227405312 by decide)).2.2.2.1, (word_facts hs).2.2.2.1, (word_facts (show 9214364837600034816 < 9218868437227405312 by decide)).2.2.2.2.1, (word_facts hs).2.2.2.2.1]
      have : (mval 9214364837600034816 : Int) ≤ (mval s : Int) ↔ 9214364837600034816 ≤ s := by rw [Int.ofNat_le]; exact mval_le_iff
      simp [this]
    by_cases hsC : s < 9214364837600034816
    · rw [decide_eq_true hsC] at kl
      rw [decide_eq_false (by omega)] at kg
      have HUN := Lib.hid (unit_near hrs hsC (by omega))
      have HUF := Lib.hid (show isN (fsub (nextF s 9218868437227405311) s) = false by
        obtain ⟨x, hx, _⟩ := HUN.out
        exact fin_notN hx.fin)
      by_cases hk17 : k < 17
      · obtain ⟨b1, b2⟩ := add_gap hrs hsC HGW.out
        have b3 : fadd s g1 ≤ s + 1 := by rw [HG.out]; exact add_gap2 HR.out hrs hsC (by rw [← HG.out]; exact HGW.out)
        have hsum := fun W => (hsr.add (word_facts (show g1 < 9218868437227405312 by have := HGW.out; omega)).2.2.2.2.2 (w := W))
        have hsn := num_pos (Nat.le_of_lt b2)
        have HSUM : RowKit.Hid (∀ W, fres .add s g1 W = fadd s g1) := Lib.hid (fun W => (hsum W).eq_of hsn)
        clear hsum hsn
        go_wp2_with fail
        simp only [HSUM.out]
        go_roundw
        case rel => exact ⟨_, k + 1, _, by go_num, by omega, rfl, b1, by omega, b2, by first | rfl | (simp only [World.drewN_drewN]; rfl)⟩
        case measure => simp [intOf]; omega
      · obtain rfl : k = 17 := by omega
        go_wp2_with (first
          | (go_at_call 17; go_loud ((with_reducible refine (next_c hsr HM.out _).mono ?_); rintro e w' ⟨r1, n1, rfl, hr1, rfl⟩; have hq := hr1.sub hsr (w := ((w.drewN d).drewN n1))))
          | fail)
        rw [World.drewN_drewN] at hq
        rw [hq.eq_of HUF.out]
        go_ret
        exact ⟨_, _, rfl, HUN.out, rfl⟩
    · rw [decide_eq_false hsC] at kl
      rw [decide_eq_true (by omega)] at kg
      have HUF := Lib.hid (unit_far HR.out (by omega))
      by_cases hk17 : k < 17
      · go_wp2_with fail
        go_ret
        exact ⟨_, _, rfl, HUF.out, rfl⟩
      · go_wp2_with fail
        go_ret
        exact ⟨_, rfl, HUF.out, _, rfl⟩
end Go.Proofs.YtcfkhhnkboealaaDoor
namespace Go.Proofs.YtcfkhhnkboealaaDoor
open Go.RowKit
set_option linter.unusedVariables false
set_option linter.unusedSimpArgs false
set_option maxRecDepth 100000
set_option maxHeartbeats 4000000
/-- numbers on a grid. -/
theorem grid_up {z : Int} {K L : Nat} {x : Rat} (h : x = (z : Rat) * pw (-(K : Int))) (k : K ≤ L) : ∃ t : Int, x = (t : Rat) * pw (-(L : Int)) := by
  refine ⟨z * ((2 ^ (L - K) : Nat) : Int), ?_⟩
  have e1 : ((z * ((2 ^ (L - K) : Nat) : Int) : Int) : Rat) = (z : Rat) * ((2 ^ (L - K) : Nat) : Rat) := by
    rw [Rat.intCast_mul]; rfl
  have e2 : pw (-(K : Int)) = ((2 ^ (L - K) : Nat) : Rat) * pw (-(L : Int)) := by
    rw [← pw_nat, ← pw_add]; congr 1; omega
  rw [h, e1, e2, Rat.mul_assoc]
theorem Sz.grid {z : Int} {K M n : Nat} {x : Rat} (h : x = (z : Rat) * pw (-(K : Int))) (hM : ab x ≤ pw (M : Int)) (k1 : K ≤ n) (k2 : M ≤ n) : Sz n x := by
  by_cases h0 : z = 0
  · left
    rw [h, h0]
    have e : ((0 : Int) : Rat) = 0 := by decide +kernel
    rw [e, Rat.zero_mul]
  · right
    refine ⟨?_, Rat.le_trans hM (pw_mono (by omega))⟩
    refine Rat.le_trans (pw_mono (b := -(K : Int)) (by omega)) ?_
    have hp := pw_pos (-(K : Int))
    rw [h, ab_mul, ab_pos (Rat.le_of_lt hp)]
    have : (1 : Rat) ≤ ab (z : Rat) := by
      have e1 : ((1 : Int) : Rat) = 1 := by decide +kernel
      have em : ((-1 : Int) : Rat) = -1 := by decide +kernel
      have a1 := ab_of (z : Rat)
      rcases Int.lt_or_le z 0 with k | k
      · have := cast_le'.2 (show z ≤ -1 by omega)
        rw [em] at this
        grind
      · have := cast_le'.2 (show (1 : Int) ≤ z by omega)
        rw [e1] at this
        grind
    have := Rat.mul_le_mul_of_nonneg_right this (Rat.le_of_lt hp)
    grind
theorem sg_cast (b : Bool) (A : Nat) : ((sg b A : Int) : Rat) = sq b (A : Rat) := by
  cases b
  · show (((A : Int)) : Rat) = (A : Rat)
    exact Rat.intCast_natCast A
  · show ((-(A : Int) : Int) : Rat) = -(A : Rat)
    rw [Rat.intCast_neg, Rat.intCast_natCast]
theorem sq_mulr (b : Bool) (x y : Rat) : sq b (x * y) = sq b x * y := by cases b <;> simp [sq] <;> grind
theorem FV.grid {w : World} {g n : Nat} {r : Rat} (h : FV w g r) (hs : Sz n r) : ∃ z : Int, r = (z : Rat) * pw (-((n + 402 : Nat) : Int)) := by
  obtain ⟨b, v, E, A, _, _, _, h4, _, h6, _⟩ := h.fig hs
  obtain ⟨p, hp⟩ : ∃ p : Nat, (p : Int) = E + ((n + 402 : Nat) : Int) := ⟨(E + ((n + 402 : Nat) : Int)).toNat, by omega⟩
  refine ⟨sg b (A * 2 ^ p), ?_⟩
  have e : pw E = ((2 ^ p : Nat) : Rat) * pw (-((n + 402 : Nat) : Int)) := by
    rw [← pw_nat, ← pw_add]; congr 1; omega
  rw [h4, e]
  have e2 : ((sg b (A * 2 ^ p) : Int) : Rat) = sq b ((A : Rat) * ((2 ^ p : Nat) : Rat)) := by
    rw [← cast_mul, sg_cast]
  rw [e2, ← sq_mulr, Rat.mul_assoc]
theorem one_U (m : Nat) : (m : Rat) / (U : Rat) = (m : Rat) * pw (-((1074 : Nat) : Int)) := by
  obtain ⟨k, hk⟩ : ∃ k : Nat, k = 1074 := ⟨_, rfl⟩
  have h := pw_negnat k
  have kk : (U : Rat) = ((2 ^ k : Nat) : Rat) := by rw [hk, U_def, e1_eq]
  have ku := UQ_ne
  rw [← kk] at h
  rw [← hk]
  have h2 := div_self_mul (m : Rat) UQ_ne
  have : ((m : Rat) / (U : Rat) - (m : Rat) * pw (-(k : Int))) * (U : Rat) = 0 := by grind
  grind
theorem V.sz {f : Nat} {x : Rat} (h : V f x) : Sz 1100 x := by
  have hs := h.size
  have hr := fin_rung h.fin
  refine Sz.grid (z := sg (sgn f) (mval (rung f))) (K := 1074) (M := 1024) ?_ ?_ (by decide) (by decide)
  · have e := h.form
    rw [one_U] at e
    rw [e, sg_cast, ← sq_mulr]
  · rw [hs, div_le UQ_pos]
    have h1 : mval (rung f) ≤ mval 9218868437227405311 := mval_le_iff.2 (by omega)
    have h2 : mval 9218868437227405311 ≤ 2 * mval 9214364837600034816 := by decide +kernel
    have h3 := cast_le.2 (Nat.le_trans h1 h2)
    rw [cast_mul] at h3
    obtain ⟨k, hk⟩ : ∃ k : Nat, k = 2045 := ⟨_, rfl⟩
    have h := mval_two k
    rw [show (k + 1) * 4503599627370496 = 9214364837600034816 by omega] at h
    have e := pw_sub (52 + k) e1
    rw [show ((52 + k : Nat) : Int) - ((e1 : Nat) : Int) = 1023 by rw [e1_eq]; omega] at e
    have e9 : (mval 9214364837600034816 : Rat) = pw 1023 * (U : Rat) := by rw [h, e, U_def]; exact (div_self_mul _ (pow_neQ _)).symm
    rw [e9] at h3
    have e2 : pw ((1024 : Nat) : Int) = 2 * pw 1023 := by rw [← pw_one, ← pw_add]; rfl
    rw [e2, Rat.mul_assoc]
    exact h3
theorem Sz.sub {w : World} {f g n : Nat} {x v : Rat} (hf : V f x) (hv : FV w g v) (hs : Sz n v) : Sz (n + 1600) (x - v) := by
  obtain ⟨z1, e1⟩ := hv.grid hs
  obtain ⟨z0, e0⟩ : ∃ z : Int, x = (z : Rat) * pw (-((1074 : Nat) : Int)) := by
    have e := hf.form
    refine ⟨sg (sgn f) (mval (rung f)), ?_⟩
    rw [one_U] at e
    rw [e, sg_cast, ← sq_mulr]
  obtain ⟨t0, k0⟩ := grid_up e0 (show 1074 ≤ n + 1600 by omega)
  obtain ⟨t1, k1⟩ := grid_up e1 (show n + 402 ≤ n + 1600 by omega)
  refine Sz.grid (z := t0 - t1) (K := n + 1600) (M := n + 1600) ?_ ?_ (Nat.le_refl _) (Nat.le_refl _)
  · rw [Rat.intCast_sub, k0, k1]; grind
  · have a1 := ab_sub x v
    have u0 : ab x ≤ pw ((n + 1599 : Nat) : Int) := by
      rcases hf.sz with h | ⟨_, h⟩
      · rw [h]
        have e : ab (0 : Rat) = 0 := by decide +kernel
        rw [e]; exact Rat.le_of_lt (pw_pos _)
      · exact Rat.le_trans h (pw_mono (by omega))
    have u1 : ab v ≤ pw ((n + 1599 : Nat) : Int) := by
      rcases hs with h | ⟨_, h⟩
      · rw [h]
        have e : ab (0 : Rat) = 0 := by decide +kernel
        rw [e]; exact Rat.le_of_lt (pw_pos _)
      · exact Rat.le_trans h (pw_mono (by omega))
    have e2 : pw ((n + 1600 : Nat) : Int) = pw ((n + 1599 : Nat) : Int) * 2 := by rw [← pw_one, ← pw_add]; congr 1
    rw [e2]
    grind
theorem Sz.abv {n : Nat} {x : Rat} (h : Sz n x) : Sz n (ab x) := by
  rcases h with h | h
  · left; rw [h]; decide +kernel
  · right; rw [ab_pos (ab_nn x)]; exact h
/-- what the nearness comes to. -/
def RetNe (x u v : Rat) (r : Nat) (w : World) (e : Ending) (w' : World) : Prop := ∃ b, e = .returned (.bool b) ∧ (1001 / 1000 * ab (x - v) ≤ u * gapq r → b = true) ∧ Grown w w'
theorem near_room {d g o1 o2 y R u : Rat} (hd : 1001 / 1000 * ab d ≤ u * g) (hu : 0 ≤ u) (hg : 0 ≤ g) (h1 : ab (o1 - d) ≤ u4 * ab d) (h2 : ab (o2 - ab o1) ≤ u4 * ab (ab o1)) (hy : (1 - uu) * g ≤ y) (hR : ab (R - y * u) ≤ u4 * ab (y * u)) : o2 ≤ R := by
  have t := u4_tiny
  have p := u4_pos
  have nd := ab_nn d
  have n1 := ab_nn o1
  rw [ab_pos n1] at h2
  have a1 := ab_tri o1 d 0
  rw [show o1 - 0 = o1 by grind, show d - 0 = d by grind] at a1
  have k1 := Rat.mul_le_mul_of_nonneg_right t nd
  have k2 := Rat.mul_le_mul_of_nonneg_right t n1
  rw [ab_le] at h2
  have hug : 0 ≤ u * g := Rat.mul_nonneg hu hg
  have hy0 : uu ≤ 1 / 1000000 := by decide +kernel
  have hyu := Rat.mul_le_mul_of_nonneg_right hy hu
  have k3 := Rat.mul_le_mul_of_nonneg_right hy0 hug
  have e3 : (1 - uu) * g * u = u * g - uu * (u * g) := by grind
  rw [e3] at hyu
  have yn : 0 ≤ y * u := by grind
  rw [ab_pos yn, ab_le] at hR
  have k4 := Rat.mul_le_mul_of_nonneg_right t yn
  grind
theorem fabs_word {f : Nat} {x : Rat} (h : V f x) {q : Nat} (hq : Rep q (fabs f)) : q = rung f := by
  rw [fabs_of (fin_notN h.fin)] at hq
  exact hq.eq_of (num_pos (Nat.le_of_lt (fin_rung h.fin)))
theorem near_c {f uf gv n : Nat} {x u v : Rat} {w : World} (hT : TB w) (hf : V f x) (hu : V uf u) (h0 : 0 ≤ u) (hv : FV w gv v) (hs : Sz n v) (hn : n ≤ 9000) : Calls Tryd.prog 24 #[.float .f64 f, .pointer (some ⟨gv, 0, none⟩), .float .f64 uf] w (RetNe x u v (rung f) w) := by
  have HV := Lib.hid hf
  have HU := Lib.hid hu
  have HF := Lib.hid hv
  have HS := Lib.hid hs
  have HZ := Lib.hid (flcNew w 37)
  have HG0 : RowKit.Hid (Grown w (w.alloc (.cells #[.bool false, .slice none 0 0, .int .i64 0, .int .i64 0, .bool false] 37))) := Lib.hid ((Grown.refl w).alloc _ _)
  have HT := Lib.hid (hT.grown HG0.out)
  have HR := Lib.hid (Rep.self hf.lt (nrm_of_not (fin_notN hf.fin)))
  have hvl := hv.lt
  have hsd := Sz.sub hf hv hs
  have HSD : RowKit.Hid (∀ r1, ab (r1 - (x - v)) ≤ u4 * ab (x - v) → Sz (n + 1601) r1) := Lib.hid (fun r1 k => Sz.near hsd k u4_small)
  have HSE : RowKit.Hid (∀ r1 o2, ab (r1 - (x - v)) ≤ u4 * ab (x - v) → ab (o2 - ab r1) ≤ u4 * ab (ab r1) → Sz (n + 1602) o2) := Lib.hid (fun r1 o2 k k2 => Sz.near (Sz.abv (HSD.out r1 k)) k2 u4_small)
  have HRF := Lib.hid (fin_rung hf.fin)
  clear hT hv hsd
  have HLZ : RowKit.Hid (gv < w.heap.size) := Lib.hid hvl
  go_enter Tryd.func24, Tryd.ntmps24
  go_wp2_with (first
    | (go_at_call 21; go_loud ((with_reducible refine (fprec_c HT.out HZ.out).mono ?_); rintro e1 w1 ⟨rfl, h1, h2⟩; have H1 := Lib.hid h1; have G1 := Lib.hid (h2.grown HG0.out (Nat.le_refl _)); have T1 := Lib.hid (HT.out.keptC HZ.out h2); clear h1 h2))
    | (go_at_call 15; ((with_reducible refine (wide04_c T1.out HV.out.lt HV.out.fin).mono ?_); rintro e2 w2 ⟨g2, rfl, h1, h2, h3⟩; rw [HV.out.val] at h1; have H2 := Lib.hid h1; have G2 := Lib.hid (gr_trans G1.out h2); have T2 := Lib.hid (T1.out.grown h2); have Z2 := Lib.hid (H1.out.z.grown h2); clear h1 h2 h3))
    | (go_at_call 22; go_loud ((with_reducible refine (fsub_c T2.out Z2.out H2.out (HF.out.grown G2.out) HV.out.sz HS.out (by omega)).mono ?_); rintro e3 w3 ⟨r1, k1, rfl, h1, h2⟩; have K1 := Lib.hid k1; have H3 := Lib.hid h1; have G3 := Lib.hid (h2.grown G2.out (Nat.le_refl _)); have T3 := Lib.hid (T2.out.kept Z2.out h2); clear k1 h1 h2))
    | (go_at_call 13; go_loud ((with_reducible refine (abs_c HR.out _).mono ?_); rintro e4 w4 ⟨q, n4, rfl, h1, rfl⟩; have hq := fabs_word HV.out h1; subst hq; clear h1))
    | (go_at_call 53; go_loud ((with_reducible refine (unit_c _ HRF.out).mono ?_); rintro e5 w5 ⟨q, n5, rfl, ⟨y, y1, y2, y3⟩, rfl⟩; have HY := Lib.hid y1; have HY2 := Lib.hid y2; clear y1 y2 y3; generalize eW : World.drewN _ _ = W5; have G5 : RowKit.Hid (Grown w W5) := Lib.hid (by rw [← eW]; exact gr_drewN _ (gr_drewN _ G3.out)); have H5 : RowKit.Hid (FV W5 _ r1) := Lib.hid (by rw [← eW]; exact H3.out.grown (gr_drewN _ (gr_drewN _ (Grown.refl _)))); have T5 : RowKit.Hid (TB W5) := Lib.hid (by rw [← eW]; exact T3.out.grown (gr_drewN _ (gr_drewN _ (Grown.refl _)))); clear eW))
    | (go_at_call 15; ((with_reducible refine (wide04_c T5.out HY.out.lt HY.out.fin).mono ?_); rintro e6 w6 ⟨g6, rfl, h1, h2, h3⟩; rw [HY.out.val] at h1; have H6 := Lib.hid h1; have G6 := Lib.hid (gr_trans G5.out h2); have T6 := Lib.hid (T5.out.grown h2); have D6 := Lib.hid (H5.out.grown h2); have L6 : RowKit.Hid (w.heap.size < g6) := Lib.hid (Nat.lt_of_lt_of_le H5.out.lt h3); clear h1 h2 h3))
    | (go_at_call 15; go_loud ((with_reducible refine (wide04_c T6.out HU.out.lt HU.out.fin).mono ?_); rintro e7 w7 ⟨g7, rfl, h1, h2, h3⟩; rw [HU.out.val] at h1; have H7 := Lib.hid h1; have G7 := Lib.hid (gr_trans G6.out h2); have T7 := Lib.hid (T6.out.grown h2); have D7 := Lib.hid (D6.out.grown h2); have M7 := Lib.hid (H6.out.grown h2); clear h1 h2 h3))
    | (go_at_call 54; go_loud ((with_reducible refine (fmul_c T7.out M7.out.z M7.out H7.out HY.out.sz HU.out.sz (by decide)).mono ?_); rintro e8 w8 ⟨R, k1, rfl, h1, h2⟩; have K8 := Lib.hid k1; have M8 := Lib.hid h1; have G8 := Lib.hid (h2.grown G7.out (Nat.le_of_lt L6.out)); have T8 := Lib.hid (T7.out.kept M7.out.z h2); have D8 := Lib.hid (D7.out.kept h2 (Nat.ne_of_lt L6.out) M7.out.z.no); clear k1 h1 h2))
    | (go_at_call 68; go_loud ((with_reducible refine (fabs_c T8.out D8.out.z D8.out (HSD.out _ K1.out) (by omega)).mono ?_); rintro e9 w9 ⟨o2, k1, rfl, h1, h2⟩; have K9 := Lib.hid k1; have D9 := Lib.hid h1; have G9 := Lib.hid (h2.grown G8.out (Nat.le_refl _)); have M9 := Lib.hid (M8.out.kept h2 (Nat.ne_of_gt L6.out) D8.out.z.no); clear k1 h1 h2))
    | (go_at_call 23; go_loud ((with_reducible refine (fcmp_c D9.out M9.out (HSE.out _ _ K1.out K9.out) (Sz.near (Sz.mul HY.out.sz HU.out.sz) K8.out u4_small) (by omega)).mono ?_); rintro e10 w10 ⟨c, rfl, h1, h2⟩; have KC := Lib.hid h1; have G10 := Lib.hid (gr_trans G9.out h2); clear h1 h2))
    | fail)
  go_ret
  refine ⟨_, rfl, fun hh => ?_, G10.out⟩
  have := (KC.out.1).2 (near_room hh h0 (Rat.le_of_lt (gap_pos _)) K1.out K9.out HY2.out K8.out)
  simp
  omega
end Go.Proofs.YtcfkhhnkboealaaDoor
