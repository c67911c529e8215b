/- A figure of a quotient: the guess, and what is left, in plain numbers. -/
import Derived.Test.YtndknkdfbjfjcaaDoorBigH
namespace Go.Proofs.YtndknkdfbjfjcaaDoor
open Go.RowKit
set_option linter.unusedVariables false
set_option linter.unusedSimpArgs false
set_option maxRecDepth 100000

/-- the numbers of one figure: N, W the first words' numbers of U and V, in units of P. -/
structure FigN (U V N W P num t u2 v2 : Nat) : Prop where
  hU1 : N * P ≤ U
  hU2 : U < (N + 1) * P
  hV1 : W * P ≤ V
  hV2 : V < (W + 1) * P
  hN : N = num * 4294967296 + u2
  hW : W = t * 4294967296 + v2
  hu2 : u2 < 4294967296
  hv2 : v2 < 4294967296
  ht : t < 4294967296
  ht2 : 2147483648 ≤ t
  hP : 0 < P
  hlt : U < 4294967296 * V
/-- the guess at the loop's head. -/
structure FigG (U V num t g r : Nat) : Prop where
  eq : num = g * t + r
  rest : r < 4294967296
  ge : ∀ q, q * V ≤ U → q ≤ g
/-- the guess at the end. -/
structure FigE (U V g : Nat) : Prop where
  ge : ∀ q, q * V ≤ U → q ≤ g
  lt : g * V < U + V
  b : g < 4294967296
section
variable {U V N W P num t u2 v2 g r : Nat} (h : FigN U V N W P num t u2 v2)
include h
theorem fig_num : num < 4294967296 * (t + 1) := by
  have a : num * 4294967296 ≤ N := by rw [h.hN]; exact Nat.le_add_right _ _
  have b : num * 4294967296 * P ≤ U := Nat.le_trans (Nat.mul_le_mul_right _ a) h.hU1
  have c : W + 1 ≤ (t + 1) * 4294967296 := by rw [h.hW, Nat.add_mul, Nat.one_mul, Nat.add_assoc]; exact Nat.add_le_add_left h.hv2 _
  have d : 4294967296 * V < 4294967296 * ((t + 1) * 4294967296 * P) := Nat.mul_lt_mul_of_pos_left (Nat.lt_of_lt_of_le h.hV2 (Nat.mul_le_mul_right _ c)) (by decide)
  have e : num * (4294967296 * P) < 4294967296 * (t + 1) * (4294967296 * P) := by
    have e1 : num * (4294967296 * P) = num * 4294967296 * P := by ac_rfl
    have e2 : 4294967296 * (t + 1) * (4294967296 * P) = 4294967296 * ((t + 1) * 4294967296 * P) := by ac_rfl
    rw [e1, e2]
    exact Nat.lt_of_le_of_lt b (Nat.lt_trans h.hlt d)
  exact Nat.lt_of_mul_lt_mul_right e
theorem fig_over (k : g * W > N) : U < g * V := by
  have a : (N + 1) * P ≤ g * W * P := Nat.mul_le_mul_right _ k
  have b : g * W * P ≤ g * V := by rw [Nat.mul_assoc]; exact Nat.mul_le_mul_left _ h.hV1
  have := h.hU2
  omega
theorem fig_start : FigG U V num t (num / t) (num % t) := by
  have ht := h.ht2
  refine ⟨?_, Nat.lt_of_lt_of_le (Nat.mod_lt _ (by omega)) (Nat.le_of_lt h.ht), ?_⟩
  · rw [Nat.mul_comm]; exact (Nat.div_add_mod _ _).symm
  · intro q hq
    rw [Nat.le_div_iff_mul_le (by omega)]
    have a : q * W ≤ N := by
      rcases Nat.lt_or_ge N (q * W) with k | k
      · have := fig_over h k; omega
      · exact k
    have b : q * t * 4294967296 ≤ q * W := by rw [Nat.mul_assoc]; apply Nat.mul_le_mul_left; rw [h.hW]; omega
    have c := h.hN
    have d := h.hu2
    generalize q * t = z at *
    omega
theorem fig_gW : g * W = g * t * 4294967296 + g * v2 := by rw [h.hW, Nat.mul_add, Nat.mul_assoc]
theorem fig_end (k : g * W ≤ N) (kb : g < 4294967296) (kg : ∀ q, q * V ≤ U → q ≤ g) : FigE U V g := by
  refine ⟨kg, ?_, kb⟩
  have a : g * (W * P) ≤ U := by rw [← Nat.mul_assoc]; exact Nat.le_trans (Nat.mul_le_mul_right _ k) h.hU1
  obtain ⟨s, hs⟩ : ∃ s, V = W * P + s := ⟨V - W * P, by have := h.hV1; omega⟩
  have s2 : s < P := by have := h.hV2; rw [hs, Nat.add_mul] at this; omega
  have b : g * V = g * (W * P) + g * s := by rw [hs, Nat.mul_add]
  have c : g * s ≤ 4294967296 * s := Nat.mul_le_mul_right _ (Nat.le_of_lt kb)
  have d : 4294967296 * s < 4294967296 * P := Nat.mul_lt_mul_of_pos_left s2 (by decide)
  have e : 4294967296 * P ≤ W * P := Nat.mul_le_mul_right _ (by rw [h.hW]; have := h.ht2; omega)
  omega
/-- the test says: too great. -/
theorem fig_down (k : FigG U V num t g r) (hc : 4294967296 ≤ g ∨ r * 4294967296 + u2 < g * v2) : 0 < g ∧ num = (g - 1) * t + (r + t) ∧ ∀ q, q * V ≤ U → q ≤ g - 1 := by
  have g0 : 0 < g := by
    rcases Nat.eq_zero_or_pos g with e | e
    · subst e; simp at hc
    · exact e
  refine ⟨g0, ?_, ?_⟩
  · have e := k.eq
    have e2 : g * t = (g - 1) * t + t := by rw [Nat.sub_mul, Nat.one_mul]; have : 1 * t ≤ g * t := Nat.mul_le_mul_right _ g0; omega
    omega
  · intro q hq
    have hq1 := k.ge q hq
    rcases hc with hc | hc
    · have a : q < 4294967296 := by
        rcases Nat.lt_or_ge q 4294967296 with b | b
        · exact b
        · have := Nat.mul_le_mul_right V b
          have := h.hlt
          omega
      omega
    · rcases Nat.lt_or_ge q g with b | b
      · omega
      · have e : q = g := by omega
        subst e
        have c : q * W > N := by
          rw [fig_gW h, h.hN, k.eq, Nat.add_mul, Nat.add_assoc]; exact Nat.add_lt_add_left hc _
        have := fig_over h c
        omega
theorem fig_out1 (k : FigG U V num t g r) (h1 : g < 4294967296) (h2 : g * v2 ≤ r * 4294967296 + u2) : FigE U V g := by
  refine fig_end h ?_ h1 k.ge
  rw [fig_gW h, h.hN, k.eq, Nat.add_mul]; omega
theorem fig_out2 (e : num = g * t + r) (hr : 4294967296 ≤ r) (hr2 : r < 8589934592) (kg : ∀ q, q * V ≤ U → q ≤ g) : FigE U V g := by
  have hn := fig_num h
  have hb : g < 4294967296 := by
    rcases Nat.lt_or_ge g 4294967296 with b | b
    · exact b
    · have := Nat.mul_le_mul_right t b
      rw [Nat.mul_add] at hn
      omega
  refine fig_end h ?_ hb kg
  rw [fig_gW h, h.hN, e, Nat.add_mul]
  have a : g * v2 ≤ 4294967296 * 4294967296 := Nat.mul_le_mul (Nat.le_of_lt hb) (Nat.le_of_lt h.hv2)
  have b : 4294967296 * 4294967296 ≤ r * 4294967296 := Nat.mul_le_mul_right _ hr
  omega
end
theorem figE_cases {U V g : Nat} (h : FigE U V g) (hV : 0 < V) : (g * V ≤ U ∧ g = U / V ∧ U - g * V = U % V) ∨ (U < g * V ∧ 0 < g ∧ g - 1 = U / V ∧ U + V - g * V = U % V) := by
  have hd := Nat.div_add_mod U V
  have hm := Nat.mod_lt U hV
  have hg := h.ge (U / V) (by rw [Nat.mul_comm]; omega)
  have hge : g * V ≤ U → g ≤ U / V := fun k => (Nat.le_div_iff_mul_le hV).2 k
  have hlt := h.lt
  generalize U / V = q at *
  generalize U % V = m at *
  obtain ⟨d, rfl⟩ : ∃ d, g = q + d := ⟨g - q, by omega⟩
  have e1 : (q + d) * V = V * q + d * V := by rw [Nat.add_mul, Nat.mul_comm q]
  rw [e1] at hge hlt ⊢
  cases d with
  | zero => left; refine ⟨by omega, rfl, by omega⟩
  | succ d =>
    have e2 : (d + 1) * V = d * V + V := Nat.succ_mul _ _
    rw [e2] at hge hlt ⊢
    cases d with
    | zero => right; refine ⟨by omega, by omega, by omega, by omega⟩
    | succ d =>
      have e3 : (d + 1) * V = d * V + V := Nat.succ_mul _ _
      rw [e3] at hge hlt
      omega

/-! the subtraction, word by word. -/
structure SubRel (us vs : List Nat) (g n i c bo : Nat) (xs : List Nat) : Prop where
  len : xs.length = n + 1
  sm : Sm xs
  car : c < 4294967296
  bor : bo ≤ 1
  val : wv (xs.take i) + g * wv (vs.take i) = wv (us.take i) + 4294967296 ^ i * (c + bo)
  rest : ∀ j, i ≤ j → xs.getD j 0 = us.getD j 0
theorem sub_start {us vs : List Nat} {g n : Nat} (h : us.length = n + 1) (hs : Sm us) : SubRel us vs g n 0 0 0 us :=
  ⟨h, hs, by decide, by decide, by simp [wv], fun _ _ => rfl⟩
/-- one word. -/
theorem sub_word {g v c u bo : Nat} (hg : g < 4294967296) (hv : v < 4294967296) (hc : c < 4294967296) (hu : u < 4294967296) (hb : bo ≤ 1) :
    g * v + c < 18446744073709551616 ∧ (g * v + c) / 4294967296 < 4294967296 ∧ ∃ x bo', x < 4294967296 ∧ bo' ≤ 1 ∧ u + 4294967296 * bo' = x + (g * v + c) % 4294967296 + bo ∧ x + g * v + c + bo = u + 4294967296 * ((g * v + c) / 4294967296 + bo') ∧
      (x : Int) = ((u : Int) - ((g * v + c) % 4294967296 : Nat) - (bo : Int)) % 4294967296 ∧ (bo' : Int) = (((u : Int) - ((g * v + c) % 4294967296 : Nat) - (bo : Int)) % 18446744073709551616) / 9223372036854775808 := by
  have hp : g * v + c < 18446744073709551616 := by
    have : g * v ≤ 4294967295 * 4294967295 := Nat.mul_le_mul (by omega) (by omega)
    omega
  have e : ∀ x, x + g * v + c = x + (g * v + c) := fun x => Nat.add_assoc _ _ _
  simp only [e]
  generalize g * v + c = p at *
  refine ⟨hp, by omega, ?_⟩
  by_cases k : p % 4294967296 + bo ≤ u
  · exact ⟨u - (p % 4294967296 + bo), 0, by omega, by omega, by omega, by omega, by omega, by omega⟩
  · exact ⟨u + 4294967296 - (p % 4294967296 + bo), 1, by omega, by omega, by omega, by omega, by omega, by omega⟩
theorem sub_step {us vs xs : List Nat} {g n i c bo x bo' : Nat} (h : SubRel us vs g n i c bo xs) (hi : i < n) (hvl : vs.length = n) (hul : us.length = n + 1) (hx : x < 4294967296) (hb : bo' ≤ 1) (hp : (g * vs.getD i 0 + c) / 4294967296 < 4294967296)
    (e : x + g * vs.getD i 0 + c + bo = us.getD i 0 + 4294967296 * ((g * vs.getD i 0 + c) / 4294967296 + bo')) :
    SubRel us vs g n (i + 1) ((g * vs.getD i 0 + c) / 4294967296) bo' (xs.set i x) := by
  have hl := h.len
  refine ⟨by rw [List.length_set]; exact hl, sm_set h.sm _ hx, hp, hb, ?_, ?_⟩
  · have i1 : i < (xs.set i x).length := by rw [List.length_set]; omega
    rw [wv_take_succ _ i i1, List.getElem_set_self, List.take_set_of_le (Nat.le_refl _), wv_take_succ vs i (by omega), wv_take_succ us i (by omega), ← gd_lt (show i < vs.length by omega), ← gd_lt (show i < us.length by omega)]
    have hv := h.val
    generalize (g * vs.getD i 0 + c) / 4294967296 = c' at *
    generalize vs.getD i 0 = v at *
    generalize us.getD i 0 = u at *
    generalize wv (xs.take i) = X at *
    generalize wv (vs.take i) = Y at *
    generalize wv (us.take i) = Z at *
    rw [Nat.pow_succ]
    generalize 4294967296 ^ i = Q at *
    have e2 : Q * x + Q * (g * v) + Q * (c + bo) = Q * u + Q * 4294967296 * (c' + bo') := by
      have := congrArg (Q * ·) e
      simp only [Nat.mul_add] at this ⊢
      rw [Nat.mul_assoc, Nat.mul_assoc]
      omega
    have e3 : g * (Y + Q * v) = g * Y + Q * (g * v) := by rw [Nat.mul_add]; ac_rfl
    rw [e3]
    omega
  · intro j hj
    rw [getD_set (by omega), if_neg (by omega)]
    exact h.rest j (by omega)
/-! the way back. -/
structure AddRel (ws vs : List Nat) (n i c : Nat) (xs : List Nat) : Prop where
  len : xs.length = n + 1
  sm : Sm xs
  car : c ≤ 1
  val : wv (xs.take i) + 4294967296 ^ i * c = wv (ws.take i) + wv (vs.take i)
  rest : ∀ j, i ≤ j → xs.getD j 0 = ws.getD j 0
theorem add_start {ws vs : List Nat} {n : Nat} (h : ws.length = n + 1) (hs : Sm ws) : AddRel ws vs n 0 0 ws :=
  ⟨h, hs, by decide, by simp [wv], fun _ _ => rfl⟩
theorem add_step {ws vs xs : List Nat} {n i c : Nat} (h : AddRel ws vs n i c xs) (hs : Sm ws) (hv : Sm vs) (hi : i < n) (hvl : vs.length = n) (hwl : ws.length = n + 1) :
    AddRel ws vs n (i + 1) ((ws.getD i 0 + vs.getD i 0 + c) / 4294967296) (xs.set i ((ws.getD i 0 + vs.getD i 0 + c) % 4294967296)) := by
  have hl := h.len
  have hc := h.car
  have a := sm_getD hs i
  have b := sm_getD hv i
  refine ⟨by rw [List.length_set]; exact hl, sm_set h.sm _ (Nat.mod_lt _ (by decide)), by omega, ?_, ?_⟩
  · have i1 : i < (xs.set i ((ws.getD i 0 + vs.getD i 0 + c) % 4294967296)).length := by rw [List.length_set]; omega
    rw [wv_take_succ _ i i1, List.getElem_set_self, List.take_set_of_le (Nat.le_refl _), wv_take_succ vs i (by omega), wv_take_succ ws i (by omega), ← gd_lt (show i < vs.length by omega), ← gd_lt (show i < ws.length by omega)]
    have hv := h.val
    generalize vs.getD i 0 = v at *
    generalize ws.getD i 0 = u at *
    rw [Nat.pow_succ]
    generalize 4294967296 ^ i = Q at *
    have e2 : Q * ((u + v + c) % 4294967296) + Q * 4294967296 * ((u + v + c) / 4294967296) = Q * u + Q * v + Q * c := by
      rw [Nat.mul_assoc, ← Nat.mul_add, Nat.mod_add_div, Nat.mul_add, Nat.mul_add]
    omega
  · intro j hj
    rw [getD_set (by omega), if_neg (by omega)]
    exact h.rest j (by omega)
theorem wv_split_last {l : List Nat} {n : Nat} (h : l.length = n + 1) : wv l = wv (l.take n) + 4294967296 ^ n * l.getD n 0 := by
  have := wv_take_succ l n (by omega)
  rw [List.take_of_length_le (by omega), ← gd_lt (by omega)] at this
  exact this
theorem fig_fin1 {us vs xs : List Nat} {g n c bo : Nat} (h : SubRel us vs g n n c bo xs) (hul : us.length = n + 1) (hvl : vs.length = n) (hE : FigE (wv us) (wv vs) g) (hV : 0 < wv vs) (hge : c + bo ≤ us.getD n 0) :
    g = wv us / wv vs ∧ wv (xs.set n (us.getD n 0 - c - bo)) = wv us % wv vs := by
  have hv := h.val
  have hl := h.len
  rw [List.take_of_length_le (show vs.length ≤ n by omega)] at hv
  have e1 := wv_split_last hul
  have e2 := wv_split_last (l := xs.set n (us.getD n 0 - c - bo)) (n := n) (by rw [List.length_set]; exact hl)
  rw [List.take_set_of_le (Nat.le_refl _), getD_set (by omega), if_pos rfl] at e2
  have e3 : 4294967296 ^ n * us.getD n 0 = 4294967296 ^ n * (us.getD n 0 - c - bo) + 4294967296 ^ n * (c + bo) := by rw [← Nat.mul_add]; congr 1; omega
  rcases figE_cases hE hV with ⟨a, b, d⟩ | ⟨a, b, d, e⟩
  · exact ⟨b, by omega⟩
  · omega
theorem fig_fin2 {us vs xs ys : List Nat} {g n c bo c2 tw : Nat} (h : SubRel us vs g n n c bo xs) (hul : us.length = n + 1) (hvl : vs.length = n) (hE : FigE (wv us) (wv vs) g) (hV : 0 < wv vs) (hvs : Sm vs) (hlt : us.getD n 0 < c + bo)
    (htw : tw = (us.getD n 0 + 4294967296 - (c + bo)) % 4294967296) (k : AddRel (xs.set n tw) vs n n c2 ys) :
    0 < g ∧ g - 1 = wv us / wv vs ∧ c2 = 1 ∧ ys.getD n 0 = 4294967295 ∧ wv (ys.set n 0) = wv us % wv vs := by
  have hv := h.val
  have hl := h.len
  have hc := h.car
  have hb := h.bor
  have kv := k.val
  have kc := k.car
  have kl := k.len
  have kr := k.rest n (Nat.le_refl _)
  rw [List.take_of_length_le (show vs.length ≤ n by omega)] at hv kv
  rw [List.take_set_of_le (Nat.le_refl _)] at kv
  rw [getD_set (by omega), if_pos rfl] at kr
  have e1 := wv_split_last hul
  have s1 := wv_lt (sm_take h.sm n)
  have s2 := wv_lt (sm_take k.sm n)
  have s3 := wv_lt hvs
  rw [List.length_take, Nat.min_eq_left (by omega)] at s1 s2
  rw [hvl] at s3
  have e2 := wv_split_last (l := ys.set n 0) (n := n) (by rw [List.length_set]; exact kl)
  rw [List.take_set_of_le (Nat.le_refl _), getD_set (by omega), if_pos rfl, Nat.mul_zero, Nat.add_zero] at e2
  obtain ⟨δ, hδ⟩ : ∃ δ, c + bo = us.getD n 0 + δ := ⟨c + bo - us.getD n 0, by omega⟩
  have e3 : 4294967296 ^ n * (c + bo) = 4294967296 ^ n * us.getD n 0 + 4294967296 ^ n * δ := by rw [hδ, Nat.mul_add]
  have d1 : 1 ≤ δ := by omega
  have d2 : 4294967296 ^ n * 1 ≤ 4294967296 ^ n * δ := Nat.mul_le_mul_left _ d1
  rcases figE_cases hE hV with ⟨a, b, d⟩ | ⟨a, b, d, e⟩
  · omega
  · have hR := Nat.mod_lt (wv us) hV
    have hlt2 := hE.lt
    generalize wv us % wv vs = Rm at *
    have e5 : 4294967296 ^ n * δ + Rm = wv (ys.take n) + 4294967296 ^ n * c2 := by omega
    have e6 : δ = c2 := by
      have z1 : (4294967296 ^ n * δ + Rm) / 4294967296 ^ n = δ := by
        rw [Nat.mul_add_div (Nat.pow_pos (by decide)), Nat.div_eq_of_lt (by omega), Nat.add_zero]
      have z2 : (4294967296 ^ n * c2 + wv (ys.take n)) / 4294967296 ^ n = c2 := by
        rw [Nat.mul_add_div (Nat.pow_pos (by decide)), Nat.div_eq_of_lt s2, Nat.add_zero]
      rw [e5, Nat.add_comm, z2] at z1
      exact z1.symm
    have e7 : c2 = 1 := by omega
    subst e7
    subst e6
    refine ⟨b, d, rfl, ?_, ?_⟩
    · rw [kr, htw]; omega
    · rw [e2]; omega
end Go.Proofs.YtndknkdfbjfjcaaDoor
