/- Roots of numbers 4^j times as great: 2^j times as great, to the word. No text of the program. -/
import Derived.Test.YtcfkhhnkboealaaSb
namespace Go.Proofs.Ytcfkhhnkboealaa
set_option linter.unusedVariables false
set_option linter.unusedSimpArgs false
set_option maxRecDepth 100000
/-- the inner root of the root's steps. -/
def rootM (f g : Nat) : Nat := fsqrt (fdiv (fadd (scaleF (fabs f) (clampN (-2 * rootK f g))) (fsqrt (sqF (scaleF (fabs f) (clampN (-2 * rootK f g))) (scaleF g (clampN (-2 * rootK f g)))))) 4611686018427387904)
theorem rootS_eq (f g : Nat) : rootS f g = scaleF (rootM f g) (clampN (rootK f g)) := rfl
theorem rung_sgn {f : Nat} (hf : fin f = true) : sgn (rung f) = false := by
  have h := fin_rung hf
  unfold sgn
  simp
  omega
/-- WHAT THE INNER ROOT COMES TO, and that it is the same word for the scaled number. -/
theorem rootM_same {f g : Nat} {x y : Rat} (hf : V f x) (hg : V g y) (mx : Mild x) (my : Mild y) (h0 : x ≠ 0 ∨ y ≠ 0) :
    ∃ S0, V (rootM f g) S0 ∧ 45 / 100 ≤ S0 ∧ S0 ≤ 3 ∧ rootM f g < 9218868437227405312 ∧ -201 ≤ rootK f g ∧ rootK f g ≤ 201 ∧
      ∀ {f' g' : Nat} {j : Int}, V f' (x * pw (2 * j)) → V g' (y * pw (2 * j)) → sgn f' = sgn f → sgn g' = sgn g → -100 ≤ j → j ≤ 100 → rootM f' g' = rootM f g ∧ rootK f' g' = rootK f g + j := by
  obtain ⟨G, hp, g1, g2, g3, p1, p2, k1, k2, ko⟩ := great_order hf hg mx my h0
  have hk : partE (greatF f g) / 2 = rootK f g := rfl
  have ht := et_tau'
  have hB := BG_big
  obtain ⟨K, hK⟩ : ∃ K, rootK f g = K := ⟨_, rfl⟩
  have hKo : partE (greatF f g) / 2 = K := hK
  have mX : Mild (ab x) := by
    rcases mx with z | z
    · exact .inl (by rw [z]; decide +kernel)
    · exact .inr (by rw [ab_pos (ab_nn x)]; exact z)
  obtain ⟨rb, hrb⟩ : ∃ rb, scaleF (rung f) (clampN (-2 * K)) = rb := ⟨_, rfl⟩
  obtain ⟨rc, hrc⟩ : ∃ rc, scaleF g (clampN (-2 * K)) = rc := ⟨_, rfl⟩
  have hM : rootM f g = fsqrt (fdiv (fadd rb (fsqrt (sqF rb rc))) 4611686018427387904) := by
    unfold rootM
    rw [fabs_of (fin_notN hf.fin), hK, hrb, hrc]
  have w1 := (hf.absv.mild mX (n := -2 * K) (by omega) (by omega)).1
  have w2 := (hg.mild my (n := -2 * K) (by omega) (by omega)).1
  rw [← clamp_id (n := -2 * K) (by omega) (by omega), hrb, clamp_id (by omega) (by omega)] at w1
  rw [← clamp_id (n := -2 * K) (by omega) (by omega), hrc, clamp_id (by omega) (by omega)] at w2
  have same : ∀ {f' g' : Nat} {j : Int}, V f' (x * pw (2 * j)) → V g' (y * pw (2 * j)) → sgn f' = sgn f → sgn g' = sgn g → -100 ≤ j → j ≤ 100 → rootM f' g' = fsqrt (fdiv (fadd rb (fsqrt (sqF rb rc))) 4611686018427387904) ∧ rootK f' g' = K + j := by
    intro f' g' j hf' hg' sf sg j1 j2
    have e := ko hf' hg'
    have eK : rootK f' g' = K + j := by
      show partE (greatF f' g') / 2 = K + j
      omega
    refine ⟨?_, eK⟩
    have ha' := hf'.absv
    rw [ab_pw] at ha'
    obtain ⟨q1, _, _⟩ := part_same hf.absv mX ha' (by rw [rung_sgn hf'.fin, rung_sgn hf.fin]) (n := 2 * K) (by omega) (by omega) (by omega) (by omega)
    obtain ⟨q2, _, _⟩ := part_same hg my hg' sg (n := 2 * K) (by omega) (by omega) (by omega) (by omega)
    rw [show -(2 * K + 2 * j) = -2 * (K + j) by omega, show -(2 * K) = -2 * K by omega] at q1 q2
    unfold rootM
    rw [fabs_of (fin_notN hf'.fin), eK, q1, q2, hrb, hrc]
  rw [hM, hK]
  clear ko
  generalize partE (greatF f g) = o at *
  have hpp := pw_pos (-2 * K)
  have po : pw (-o) ≤ pw (-2 * K) := pw_mono (by omega)
  have po2 : pw (-2 * K) ≤ pw (-o) * 2 := by rw [← pw_one, ← pw_add]; exact pw_mono (by omega)
  have G1 : 1 / 2 ≤ G * pw (-2 * K) := by
    have := Rat.mul_le_mul_of_nonneg_left po (Rat.le_of_lt hp); grind
  have G2 : G * pw (-2 * K) ≤ 2 := by
    have := Rat.mul_le_mul_of_nonneg_left po2 (Rat.le_of_lt hp); grind
  have hS := quarter_sq (x := ab x) (y := y) (G := G) (by rw [ab_pos (ab_nn x)]; exact g3) G1
  have x1 : ab (ab x * pw (-2 * K)) ≤ 2 := by
    rw [ab_pw, ab_pos (ab_nn x)]; have := Rat.mul_le_mul_of_nonneg_right g1 (Rat.le_of_lt hpp); grind
  have y1 : ab (y * pw (-2 * K)) ≤ 2 := by
    rw [ab_pw]; have := Rat.mul_le_mul_of_nonneg_right g2 (Rat.le_of_lt hpp); grind
  have X0 : 0 ≤ ab x * pw (-2 * K) := mul_nn (ab_nn x) (Rat.le_of_lt hpp)
  have et0 : ∀ t : Rat, ab (t - t) ≤ et := by intro t; rw [show t - t = 0 by grind, show ab (0 : Rat) = 0 by decide +kernel]; exact Rat.le_of_lt et_pos
  obtain ⟨L, hL, hL0, hL1, q1, q2⟩ := near_len w1 w2 (et0 _) (et0 _) x1 y1 hS
  generalize ab x * pw (-2 * K) = X at *
  generalize y * pw (-2 * K) = Y at *
  have xx := sq_le4 x1
  have yy := sq_le4 y1
  generalize fsqrt (sqF rb rc) = rL at *
  have L3 : 49 / 100 ≤ L := by
    apply le_of_sq hL0
    unfold uu at q2
    grind
  have L4 : L ≤ 3 := by
    apply le_of_sq (by decide +kernel)
    unfold uu at q1
    grind
  rw [ab_pos X0] at x1
  have b1n : 0 ≤ X + L ∧ X + L ≤ 6 ∧ 48 / 100 ≤ X + L := by grind
  obtain ⟨h, hh, k2⟩ := w1.add hL (by rw [ab_pos b1n.1]; grind)
  have hn : 47 / 100 ≤ h ∧ h ≤ 7 := by
    have := b1n.2
    rw [ab_pos b1n.1, ab_le] at k2
    unfold uu at k2
    constructor <;> grind
  have ab2 : ab (h / 2) = h / 2 := ab_pos (by grind)
  obtain ⟨d, hd, k3⟩ := hh.div V.two (by decide +kernel) (by rw [ab2]; grind)
  have hdn : 23 / 100 ≤ d ∧ d ≤ 4 := by
    rw [ab2, ab_le] at k3
    unfold uu tau at *
    constructor <;> grind
  obtain ⟨S0, hS0, z0, s1, s2, s3⟩ := hd.sqrt (by grind)
  generalize fsqrt (fdiv (fadd rb rL) 4611686018427387904) = r0 at *
  refine ⟨S0, hS0, ?_, ?_, s3, by omega, by omega, same⟩
  · apply le_of_sq z0
    unfold uu at s2
    grind
  · apply le_of_sq (by decide +kernel)
    unfold uu at s1
    grind
theorem fdiv_zero {f g : Nat} (hf : Proofs.Ytcfkhhnkboealaa.fin f = true) (hg : Proofs.Ytcfkhhnkboealaa.fin g = true) (h0 : rung g ≠ 0) (h : rung f = 0) : fdiv f g = wd (sgn f ^^ sgn g) 0 := by
  obtain ⟨m1, k1, m2, k2, s, v1, _, hm2, _, he⟩ := fdiv_fin2 hf hg h0
  rw [h, mval_zero] at v1
  have e : m1 = 0 := by
    rcases Nat.eq_zero_or_pos m1 with z | z
    · exact z
    · have := Nat.mul_pos z (Nat.two_pow_pos k1); omega
  rw [he, e, Nat.zero_mul, Nat.zero_div, Nat.zero_mod]
  rw [show (2 * 0 + ((0 : Nat) != 0).toNat) = 0 from rfl, Nat.zero_mul]
  rfl
theorem V.sgn_pos {f : Nat} {a : Rat} (hf : V f a) (h : 0 < a) : sgn f = false := by
  have := pos_word hf h
  unfold sgn
  simp
  omega
theorem quo_scaled {n n' t t' : Nat} {a b : Rat} {j : Int} (hn : V n a) (hn' : V n' (a * pw (2 * j))) (ht : V t b) (ht' : V t' (b * pw j)) (sn : sgn n' = sgn n) (st : sgn t' = sgn t) (ma : Mild a)
    (b1 : pw (-202) ≤ b) (b2 : b ≤ pw 204) (j1 : -100 ≤ j) (j2 : j ≤ 100) : fdiv n' t' = scaleF (fdiv n t) j := by
  have hj := pw_pos j
  have b0 : 0 < b := by have := pw_pos (-202); grind
  have bz : b ≠ 0 := by grind
  have b0' : 0 < b * pw j := Rat.mul_pos b0 hj
  have rt : rung t ≠ 0 := ht.nz bz
  have rt' : rung t' ≠ 0 := ht'.nz (by grind)
  by_cases ha : a = 0
  · have r1 := hn.rung0 ha
    have r2 := hn'.rung0 (show a * pw (2 * j) = 0 by rw [ha, Rat.zero_mul])
    rw [fdiv_zero hn.fin ht.fin rt r1, fdiv_zero hn'.fin ht'.fin rt' r2, sn, st]
    rw [scale_nought (wd_notN (by decide)) (wd_rung (by decide))]
  · obtain ⟨a1, a2⟩ : pw (-400) ≤ ab a ∧ ab a ≤ pw 400 := ma.resolve_left ha
    have bj : pw (-302) ≤ b * pw j ∧ b * pw j ≤ pw 304 := by
      constructor
      · have := Rat.mul_le_mul_of_nonneg_right b1 (Rat.le_of_lt hj)
        rw [← pw_add] at this
        exact Rat.le_trans (pw_mono (by omega)) this
      · have := Rat.mul_le_mul_of_nonneg_right b2 (Rat.le_of_lt hj)
        rw [← pw_add] at this
        exact Rat.le_trans this (pw_mono (by omega))
    have aj1 : pw (-600) ≤ ab (a * pw (2 * j)) := (ma.low (n := 2 * j) (m := -600) (by omega)).resolve_left (by have := pw_pos (2 * j); have := pw_neg (2 * j); grind)
    have aj2 : ab (a * pw (2 * j)) ≤ pw 600 := ma.high (by omega)
    have lowb : ∀ {z : Rat} {m : Int}, z ≤ pw m → pw (-1000) * z ≤ pw (m - 1000) := by
      intro z m h
      have := Rat.mul_le_mul_of_nonneg_left h (Rat.le_of_lt (pw_pos (-1000)))
      rw [← pw_add, show -1000 + m = m - 1000 by omega] at this
      exact this
    have highb : ∀ {z : Rat} {m : Int}, pw m ≤ z → pw (m + 1000) ≤ pw 1000 * z := by
      intro z m h
      have := Rat.mul_le_mul_of_nonneg_left h (Rat.le_of_lt (pw_pos 1000))
      rw [← pw_add, show 1000 + m = m + 1000 by omega] at this
      exact this
    have abb : ab b = b := ab_pos (Rat.le_of_lt b0)
    have abb' : ab (b * pw j) = b * pw j := ab_pos (Rat.le_of_lt b0')
    obtain ⟨c, hc, hc', sc⟩ := fdiv_shift hn ht hn' ht' sn st (Rat.le_trans (pw_mono (by omega)) a1) (by rw [abb]; exact Rat.le_trans (pw_mono (by omega)) b1)
      (Rat.le_trans (pw_mono (by omega)) aj1) (by rw [abb']; exact Rat.le_trans (pw_mono (by omega)) bj.1)
      (by rw [abb]; exact Rat.le_trans (lowb b2) (Rat.le_trans (pw_mono (by omega)) a1))
      (by rw [abb]; exact Rat.le_trans a2 (Rat.le_trans (pw_mono (by omega)) (highb b1)))
      (by rw [abb']; exact Rat.le_trans (lowb bj.2) (Rat.le_trans (pw_mono (by omega)) aj1))
      (by rw [abb']; exact Rat.le_trans aj2 (Rat.le_trans (pw_mono (by omega)) (highb bj.1)))
    rw [show 2 * j - j = j by omega] at hc'
    -- the quotient's size
    have pp : ∀ m : Int, pw m * pw (-m) = 1 := pw_neg
    have ql : pw (-604) ≤ ab (a / b) := by
      rw [ab_div, abb, le_div b0]
      have := Rat.mul_le_mul_of_nonneg_left b2 (Rat.le_of_lt (pw_pos (-604)))
      rw [← pw_add] at this
      exact Rat.le_trans this (by rw [show (-604 : Int) + 204 = -400 by decide]; exact a1)
    have qu : ab (a / b) ≤ pw 602 := by
      rw [ab_div, abb, div_le b0]
      have := Rat.mul_le_mul_of_nonneg_left b1 (Rat.le_of_lt (pw_pos 602))
      rw [← pw_add] at this
      exact Rat.le_trans a2 (by rw [show (602 : Int) + -202 = 400 by decide] at this; exact this)
    have hB : 2 * ab (a / b) ≤ BG := by
      have e : BG = pw (kBG : Int) := by rw [pw_nat]; rfl
      have e2 : 2 * pw 602 = pw 603 := by rw [← pw_one, ← pw_add]; rfl
      have := pw_mono (a := 603) (b := (kBG : Int)) (by rw [kBG_eq]; decide)
      rw [e]
      grind
    obtain ⟨c2, hc2, kc⟩ := hn.div ht bz hB
    obtain rfl := hc.uniq hc2
    have cl : pw (-605) ≤ ab c ∧ ab c ≤ pw 603 := by
      have e1 : pw (-604) = 2 * pw (-605) := by rw [← pw_one, ← pw_add]; rfl
      have e2 : pw 603 = 2 * pw 602 := by rw [← pw_one, ← pw_add]; rfl
      have e3 : et ≤ 1 / 8 * pw (-604) := by decide +kernel
      have e4 : pw (-604) ≤ pw 602 := pw_mono (by decide)
      have k1 := ab_add (c - a / b) (a / b)
      have k2 := ab_add (c - a / b) (-c)
      rw [show c - a / b + a / b = c by grind] at k1
      rw [show c - a / b + -c = -(a / b) by grind, ab_neg, ab_neg] at k2
      have u : uu * ab (a / b) ≤ 1 / 8 * ab (a / b) := Rat.mul_le_mul_of_nonneg_right (by unfold uu; decide +kernel) (ab_nn _)
      generalize ab (c - a / b) = d at *
      generalize ab (a / b) = q at *
      generalize uu * q = uq at *
      generalize pw (-604) = z at *
      generalize pw (-605) = z2 at *
      generalize pw 602 = z3 at *
      generalize pw 603 = z4 at *
      constructor <;> grind
    obtain ⟨d1, d2⟩ := hc.up (n := j) (by omega) (by omega)
      (by
        right
        rw [ab_pw]
        have := Rat.mul_le_mul_of_nonneg_right cl.1 (Rat.le_of_lt hj)
        rw [← pw_add] at this
        exact Rat.le_trans (pw_mono (by omega)) this)
      (by
        rw [ab_pw]
        have := Rat.mul_le_mul_of_nonneg_right cl.2 (Rat.le_of_lt hj)
        rw [← pw_add] at this
        exact Rat.le_trans this (pw_mono (by omega)))
    exact hc'.same d1 (by rw [sc, d2])
theorem shifted_ne {x : Rat} {n : Int} (h : x ≠ 0) : x * pw n ≠ 0 := by have := pw_neg n; intro e; apply h; grind
theorem shifted_sign (x : Rat) (n : Int) : decide (0 ≤ x * pw n) = decide (0 ≤ x) := by
  rw [Bool.eq_iff_iff]
  simp only [decide_eq_true_eq]
  constructor
  · intro h
    have := Rat.mul_le_mul_of_nonneg_right h (Rat.le_of_lt (pw_pos (-n)))
    rw [Rat.zero_mul, Rat.mul_assoc, pw_neg, Rat.mul_one] at this
    exact this
  · intro h
    exact mul_nn h (Rat.le_of_lt (pw_pos n))
theorem four_BG {S0 : Rat} {n : Int} (h : S0 ≤ 3) (n1 : -500 ≤ n) (n2 : n ≤ 500) : 4 * (S0 * pw n) ≤ BG := by
  have e : BG = pw (kBG : Int) := by rw [pw_nat]; rfl
  have e3 : pw 4 = 16 := by decide +kernel
  have e5 := pw_add 4 n
  rw [e3] at e5
  have h2 := Rat.mul_le_mul_of_nonneg_right h (Rat.le_of_lt (pw_pos n))
  have h3 := pw_pos n
  have h4 := pw_mono (a := 4 + n) (b := (kBG : Int)) (by rw [kBG_eq]; omega)
  rw [e]
  generalize pw (kBG : Int) = B at *
  generalize S0 * pw n = z at *
  grind
theorem third_low {S0 : Rat} (h : 45 / 100 ≤ S0) (n : Int) : pw (n - 2) ≤ S0 * pw n := by
  have e2 : pw (-2) = 1 / 4 := by decide +kernel
  have := Rat.mul_le_mul_of_nonneg_right (show pw (-2) ≤ S0 by rw [e2]; grind) (Rat.le_of_lt (pw_pos n))
  rw [← pw_add, show -2 + n = n - 2 by omega] at this
  exact this
theorem third_high {S0 : Rat} (h : S0 ≤ 3) (n : Int) : S0 * pw n ≤ pw (n + 2) := by
  have e3 : pw 2 = 4 := by decide +kernel
  have := Rat.mul_le_mul_of_nonneg_right (show S0 ≤ pw 2 by rw [e3]; grind) (Rat.le_of_lt (pw_pos n))
  rw [← pw_add, show 2 + n = n + 2 by omega] at this
  exact this
/-- the root's own part: its word, shifted. -/
theorem rootS_scaled {f g f' g' : Nat} {x y : Rat} {j : Int} (hf : V f x) (hg : V g y) (mx : Mild x) (my : Mild y) (hf' : V f' (x * pw (2 * j))) (hg' : V g' (y * pw (2 * j))) (sf : sgn f' = sgn f) (sg : sgn g' = sgn g)
    (j1 : -100 ≤ j) (j2 : j ≤ 100) (h0 : x ≠ 0 ∨ y ≠ 0) :
    ∃ s, pw (-203) ≤ s ∧ s ≤ pw 203 ∧ V (rootS f g) s ∧ V (rootS f' g') (s * pw j) ∧ sgn (rootS f' g') = sgn (rootS f g) ∧ 4 * s ≤ BG ∧ 4 * (s * pw j) ≤ BG := by
  obtain ⟨S0, hS, s1, s2, sw, k1, k2, same⟩ := rootM_same hf hg mx my h0
  obtain ⟨eM, eK⟩ := same hf' hg' sf sg j1 j2
  have es : rootS f g = scaleF (rootM f g) (rootK f g) := by rw [rootS_eq, clamp_id (by omega) (by omega)]
  have es' : rootS f' g' = scaleF (rootM f g) (rootK f g + j) := by rw [rootS_eq, eM, eK, clamp_id (by omega) (by omega)]
  clear same eM
  rw [es, es']
  generalize rootM f g = r at *
  generalize rootK f g = K at *
  have aS : ab S0 = S0 := ab_pos (by grind)
  have up : ∀ n : Int, -500 ≤ n → n ≤ 500 → V (scaleF r n) (S0 * pw n) ∧ sgn (scaleF r n) = sgn r := by
    intro n n1 n2
    refine hS.up (by omega) (by omega) (.inr ?_) ?_
    · rw [ab_pw, aS]; exact Rat.le_trans (pw_mono (by omega)) (third_low s1 n)
    · rw [ab_pw, aS]; exact Rat.le_trans (third_high s2 n) (pw_mono (by omega))
  obtain ⟨a1, a2⟩ := up K (by omega) (by omega)
  obtain ⟨b1, b2⟩ := up (K + j) (by omega) (by omega)
  have pj : S0 * pw (K + j) = S0 * pw K * pw j := by rw [pw_add, Rat.mul_assoc]
  have q := four_BG s2 (n := K + j) (by omega) (by omega)
  rw [pj] at b1 q
  exact ⟨S0 * pw K, Rat.le_trans (pw_mono (by omega)) (third_low s1 K), Rat.le_trans (third_high s2 K) (pw_mono (by omega)), a1, b1, by rw [a2, b2], four_BG s2 (by omega) (by omega), q⟩
theorem usual_scaled {s : Rat} {j : Int} (h1 : pw (-203) ≤ s) (h2 : s ≤ pw 203) (j1 : -100 ≤ j) (j2 : j ≤ 100) : pw (-1000) ≤ s * pw j ∧ s * pw j ≤ pw 1000 := by
  have a := Rat.mul_le_mul_of_nonneg_right h1 (Rat.le_of_lt (pw_pos j))
  have b := Rat.mul_le_mul_of_nonneg_right h2 (Rat.le_of_lt (pw_pos j))
  rw [← pw_add] at a b
  exact ⟨Rat.le_trans (pw_mono (by omega)) a, Rat.le_trans b (pw_mono (by omega))⟩
/-- of the root: its double, and the two words that hold it. -/
theorem root_pieces {f g f' g' : Nat} {x y : Rat} {j : Int} (hf : V f x) (hg : V g y) (mx : Mild x) (my : Mild y) (hf' : V f' (x * pw (2 * j))) (hg' : V g' (y * pw (2 * j))) (sf : sgn f' = sgn f) (sg : sgn g' = sgn g)
    (j1 : -100 ≤ j) (j2 : j ≤ 100) (h0 : x ≠ 0 ∨ y ≠ 0) :
    ∃ b, pw (-202) ≤ b ∧ b ≤ pw 204 ∧ V (fmul 4611686018427387904 (rootS f g)) b ∧ V (fmul 4611686018427387904 (rootS f' g')) (b * pw j) ∧ sgn (fmul 4611686018427387904 (rootS f' g')) = sgn (fmul 4611686018427387904 (rootS f g)) ∧
      rootS f' g' = scaleF (rootS f g) j ∧ copyF (rootS f' g') g' = scaleF (copyF (rootS f g) g) j := by
  obtain ⟨s, s1, s2, a1, b1, ss, g1, g2⟩ := rootS_scaled hf hg mx my hf' hg' sf sg j1 j2 h0
  have hj := pw_pos j
  have s0 : 0 < s := by have := pw_pos (-203); grind
  have s0' := Rat.mul_pos s0 hj
  obtain ⟨u1, u2⟩ := usual_scaled s1 s2 j1 j2
  generalize rootS f g = A at *
  generalize rootS f' g' = B at *
  have w1 := pos_word a1 s0
  have w2 := pos_word b1 s0'
  have t1 := a1.twice w1 (dbl_fin a1 w1 g1)
  have t2 := b1.twice w2 (dbl_fin b1 w2 g2)
  rw [show 2 * (s * pw j) = 2 * s * pw j by grind] at t2
  have p2 : 0 < 2 * s := by grind
  have e1 : pw (-202) = 2 * pw (-203) := by rw [← pw_one, ← pw_add]; rfl
  have e2 : pw 204 = 2 * pw 203 := by rw [← pw_one, ← pw_add]; rfl
  have asz : ab (s * pw j) = s * pw j := ab_pos (Rat.le_of_lt s0')
  obtain ⟨c1, c2⟩ := a1.up (n := j) (by omega) (by omega) (.inr (by rw [asz]; exact u1)) (by rw [asz]; exact u2)
  refine ⟨2 * s, by grind, by grind, t1, t2, by rw [t1.sgn_pos p2, t2.sgn_pos (Rat.mul_pos p2 hj)], b1.same c1 (by rw [c2, ss]), ?_⟩
  rw [copy_word w1, copy_word w2, sg]
  have v1 := V.word (s := sgn g) w1
  have v2 := V.word (s := sgn g) w2
  rw [← a1.val_pos w1] at v1
  rw [← b1.val_pos w2] at v2
  have esq : sq (sgn g) s * pw j = sq (sgn g) (s * pw j) := by cases sgn g <;> simp only [sq] <;> grind
  obtain ⟨d1, d2⟩ := v1.up (n := j) (by omega) (by omega) (.inr (by rw [esq, sq_ab, asz]; exact u1)) (by rw [esq, sq_ab, asz]; exact u2)
  rw [esq] at d1
  exact v2.same d1 (by rw [d2, wd_sgn (Nat.le_of_lt w1), wd_sgn (Nat.le_of_lt w2)])
/-- THE ROOT of a number 4^j times as great. -/
theorem root_scaled {f g f' g' : Nat} {x y : Rat} {j : Int} (hf : V f x) (hg : V g y) (mx : Mild x) (my : Mild y) (hf' : V f' (x * pw (2 * j))) (hg' : V g' (y * pw (2 * j))) (sf : sgn f' = sgn f) (sg : sgn g' = sgn g)
    (j1 : -100 ≤ j) (j2 : j ≤ 100) (h0 : x ≠ 0 ∨ y ≠ 0) : rootX f' g' = scaleF (rootX f g) j ∧ rootY f' g' = scaleF (rootY f g) j := by
  have h0' : x * pw (2 * j) ≠ 0 ∨ y * pw (2 * j) ≠ 0 := h0.imp shifted_ne shifted_ne
  obtain ⟨b, b1, b2, t1, t2, st, e1, e2⟩ := root_pieces hf hg mx my hf' hg' sf sg j1 j2 h0
  have hE := edge_false hf hg h0
  have hE' := edge_false hf' hg' h0'
  have hs := hf.sign
  have hs' := hf'.sign
  rw [shifted_sign] at hs'
  have ha' := hg'.absv
  rw [ab_pw] at ha'
  have mY : Mild (ab y) := by
    rcases my with z | z
    · exact .inl (by rw [z]; decide +kernel)
    · exact .inr (by rw [ab_pos (ab_nn y)]; exact z)
  have q1 := quo_scaled hg.absv ha' t1 t2 (by rw [rung_sgn hg'.fin, rung_sgn hg.fin]) st mY b1 b2 j1 j2
  have q2 := quo_scaled hg hg' t1 t2 sg st my b1 b2 j1 j2
  rw [← fabs_of (fin_notN hg.fin), ← fabs_of (fin_notN hg'.fin)] at q1
  unfold rootX rootY
  rw [hE, hE', hs, hs']
  generalize fmul 4611686018427387904 (rootS f g) = T at *
  generalize fmul 4611686018427387904 (rootS f' g') = T' at *
  generalize rootS f g = A at *
  generalize rootS f' g' = B at *
  cases decide (0 ≤ x)
  · exact ⟨q1, e2⟩
  · exact ⟨e1, q2⟩
end Go.Proofs.Ytcfkhhnkboealaa
