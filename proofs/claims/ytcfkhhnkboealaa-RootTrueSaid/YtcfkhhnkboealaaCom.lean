/- A common divisor of two numbers by words: several steps of Euclid's at once. -/
import Derived.Test.YtcfkhhnkboealaaWf
import Derived.Test.YtcfkhhnkboealaaLeh
namespace Go.Proofs.Ytcfkhhnkboealaa
open Go.RowKit
set_option linter.unusedVariables false
set_option linter.unusedSimpArgs false
set_option maxRecDepth 100000
set_option maxHeartbeats 4000000
theorem isW_uniq {w : World} {v : Value} {l m : List Nat} (h : IsW w v l) (k : IsW w v m) : l = m := by
  obtain ⟨s1, c1, e1, _, _, h3⟩ := h
  obtain ⟨s2, c2, e2, _, _, k3⟩ := k
  rw [e1] at e2
  injection e2 with f1 f2 f3
  subst f1
  refine all_eq f2 fun j hj => ?_
  obtain ⟨b, off, e, _, hc⟩ := h3 (by intro e; subst e; simp at hj)
  obtain ⟨b', off', e', _, hc'⟩ := k3 (by intro e; rw [e, List.length_nil] at f2; omega)
  rw [e] at e'
  injection e' with e'
  injection e' with e1 e2
  subst e1 e2
  have h1 := hc j hj
  have h2 := hc' j (by omega)
  rw [h1] at h2
  injection h2 with h2
  injection h2 with h3 h2
  exact Int.ofNat.inj h2
/-- the number that a slice of words tells. -/
noncomputable def numW (w : World) (v : Value) : Nat := by
  classical exact if h : ∃ A, IsW w v (digs A) then Classical.choose h else 0
theorem numW_eq {w : World} {v : Value} {A : Nat} (h : IsW w v (digs A)) : numW w v = A := by
  have hx : ∃ A, IsW w v (digs A) := ⟨A, h⟩
  unfold numW
  rw [dif_pos hx]
  have := isW_uniq (Classical.choose_spec hx) h
  rw [← wv_digs (Classical.choose hx), this, wv_digs]
structure CmR (A B : Nat) (w : World) (va vb : Value) (wr : World) (a b : Nat) : Prop where
  ha : IsW wr va (digs a)
  hb : IsW wr vb (digs b)
  g : Grown w wr
  le : b ≤ a
  ne : a ≠ 0
  len : (digs a).length ≤ 50000
  dv : ∀ g, g ∣ a → g ∣ b → g ∣ A ∧ g ∣ B
theorem dvd_mod_back {g a b : Nat} (h1 : g ∣ b) (h2 : g ∣ a % b) : g ∣ a := (Nat.dvd_mod_iff h1).1 h2
/-- the first bits of two numbers. -/
theorem top_facts {a b n : Nat} (hb : 18446744073709551616 ≤ b) (hle : b ≤ a) (hn : (n : Int) = (bl a : Int) - 60) :
    a / 2 ^ n < 1152921504606846976 ∧ 1 ≤ a / 2 ^ n ∧ b / 2 ^ n ≤ a / 2 ^ n ∧ 5 ≤ n ∧ (n : Int) = ((bl a : Int) - 60) := by
  have ha0 : a ≠ 0 := by omega
  have h1 := bl_lt a
  have h2 := bl_ge ha0
  have h65 : 65 ≤ bl a := by
    have : (2 : Nat) ^ 64 < 2 ^ bl a := Nat.lt_of_le_of_lt (by rw [show (2 : Nat) ^ 64 = 18446744073709551616 by decide]; omega) h1
    have := (Nat.pow_lt_pow_iff_right (show 1 < 2 by decide)).1 this
    omega
  have e : bl a = 60 + n := by omega
  refine ⟨?_, ?_, Nat.div_le_div_right hle, by omega, hn⟩
  · rw [Nat.div_lt_iff_lt_mul (Nat.two_pow_pos n)]
    rw [e, Nat.pow_add] at h1
    rwa [show (2 : Nat) ^ 60 = 1152921504606846976 by decide] at h1
  · rw [Nat.le_div_iff_mul_le (Nat.two_pow_pos n), Nat.one_mul]
    exact Nat.le_trans (Nat.pow_le_pow_right (by decide) (by omega)) h2
theorem len_big {b : Nat} (h : 2 < (digs b).length) : 18446744073709551616 ≤ b := by
  have h0 : b ≠ 0 := by intro e; subst e; simp [digs_zero] at h
  have h1 := digs_ge h0
  have h2 : (4294967296 : Nat) ^ 2 ≤ 4294967296 ^ ((digs b).length - 1) := Nat.pow_le_pow_right (by decide) (by omega)
  rw [show (4294967296 : Nat) ^ 2 = 18446744073709551616 by decide] at h2
  omega
theorem len_small {b : Nat} (h : ¬ 2 < (digs b).length) : b < 18446744073709551616 := by
  have h1 := digs_lt b
  have h2 : (4294967296 : Nat) ^ (digs b).length ≤ 4294967296 ^ 2 := Nat.pow_le_pow_right (by decide) (by omega)
  rw [show (4294967296 : Nat) ^ 2 = 18446744073709551616 by decide] at h2
  omega
/-- bounds of the rows. -/
theorem leh_bd {X Y : Nat} {even : Bool} {x y u0 u1 u2 v0 v1 v2 p : Nat} (h : Leh X Y even x y u0 u1 u2 v0 v1 v2 p) (hX : X < 1152921504606846976) :
    x ≤ X ∧ v2 ≤ X ∧ v1 ≤ v2 ∧ u1 ≤ X + 1 ∧ u2 ≤ v2 := by
  have h1 := h.now1
  have h2 := h.xpos
  have h3 := h.v2pos
  have a1 : v2 ≤ v2 * x := Nat.le_mul_of_pos_right _ h2
  have a2 : x ≤ v2 * x := Nat.le_mul_of_pos_left _ h3
  have h4 := h.uv2
  rcases h.was with ⟨_, rfl, _, rfl, rfl, rfl⟩ | ⟨_, _, _, _, a, b, c, _⟩
  · omega
  · omega
theorem sq_small {v X : Nat} (h : v * v ≤ X) (hX : X < 1152921504606846976) : v < 1073741824 := by
  rcases Nat.lt_or_ge v 1073741824 with k | k
  · exact k
  · have := Nat.mul_le_mul k k
    omega
/-- one step of the rows in the machine's words. -/
theorem leh_words {X Y : Nat} {even : Bool} {x y u0 u1 u2 v0 v1 v2 p : Nat} (h : Leh X Y even x y u0 u1 u2 v0 v1 v2 p) (hX : X < 1152921504606846976) (h1 : v2 ≤ y) (h2 : v1 + v2 ≤ x - y) :
    ∃ q M1 M2 M3 : Nat, q = x / y ∧ M1 = q * y ∧ M2 = q * u2 ∧ M3 = q * v2 ∧ M1 ≤ x ∧ u1 + M2 ≤ 1152921504606846977 ∧ v1 + M3 ≤ 1152921504606846976 ∧ M2 ≤ 1152921504606846976 ∧ q ≤ x ∧
      Leh X Y (!even) y (x - M1) u1 u2 (u1 + M2) v1 v2 (v1 + M3) x ∧ x - M1 < y := by
  have hs := leh_step h h1 h2 (q := x / y) rfl
  have hv := h.v2pos
  have hy : 0 < y := by omega
  have b := leh_bd hs hX
  have hm := Nat.div_mul_le_self x y
  have hmod := Nat.div_add_mod x y
  have hlt := Nat.mod_lt x hy
  have hqx := Nat.div_le_self x y
  rw [Nat.mul_comm] at hmod
  refine ⟨x / y, _, _, _, rfl, rfl, rfl, rfl, hm, ?_, ?_, ?_, hqx, hs, by omega⟩ <;> omega
/-- what the rows' end says of the numbers. -/
theorem leh_next {A B a b X Y n : Nat} {even : Bool} {x y u0 u1 u2 v0 v1 v2 p : Nat} (h : Leh X Y even x y u0 u1 u2 v0 v1 v2 p) (h0 : v0 ≠ 0) (hXY : a = X * 2 ^ n + a % 2 ^ n ∧ b = Y * 2 ^ n + b % 2 ^ n ∧ a % 2 ^ n < 2 ^ n ∧ b % 2 ^ n < 2 ^ n) (hX : X < 1152921504606846976)
    (hle : b ≤ a) (hne : a ≠ 0) (hdv : ∀ g, g ∣ a → g ∣ b → g ∣ A ∧ g ∣ B) (hb0 : b ≠ 0) :
    ∃ A' B' : Nat, (A' : Int) = (if even then (u0 : Int) * a + (-(v0 : Int)) * b else (-(u0 : Int)) * a + (v0 : Int) * b) ∧ (B' : Int) = (if even then (-(u1 : Int)) * a + (v1 : Int) * b else (u1 : Int) * a + (-(v1 : Int)) * b) ∧ B' ≤ A' ∧ A' + B' < a + b ∧ A' ≤ a ∧ B' ≤ a ∧ A' ≠ 0 ∧
      (∀ g, g ∣ A' → g ∣ B' → g ∣ A ∧ g ∣ B) ∧ u0 < 1073741824 ∧ u1 < 1073741824 ∧ v0 < 1073741824 ∧ v1 < 1073741824 := by
  obtain ⟨A', B', e1, e2, e3, e4, e5, e6, e7, e8, e9, e10⟩ := leh_end h h0 hXY.1 hXY.2.1 hXY.2.2.1 hXY.2.2.2
  have hs := sq_small e10 hX
  refine ⟨A', B', ?_, ?_, e3, by omega, by omega, by omega, ?_, ?_, by omega, by omega, by omega, hs⟩
  · rw [e1]; split <;> grind
  · rw [e2]; split <;> grind
  · intro h0
    have : B' = 0 := by omega
    rw [h0, this] at e5
    simp at e5
    omega
  · intro g g1 g2
    refine hdv g ?_ ?_
    · rw [e5]; exact Nat.dvd_add (Nat.dvd_mul_left_of_dvd g1 _) (Nat.dvd_mul_left_of_dvd g2 _)
    · rw [e6]; exact Nat.dvd_add (Nat.dvd_mul_left_of_dvd g1 _) (Nat.dvd_mul_left_of_dvd g2 _)
def RetGW (A B : Nat) (w : World) (e : Ending) (w' : World) : Prop := ∃ (G : Nat) (v : Value), e = .returned v ∧ IsW w' v (digs G) ∧ Grown w w' ∧ G ∣ A ∧ G ∣ B ∧ G ≠ 0
theorem common_c {v1 v2 : Value} {A B : Nat} {w : World} (h1 : IsW w v1 (digs A)) (h2 : IsW w v2 (digs B)) (hne : A ≠ 0 ∨ B ≠ 0) (hA : (digs A).length ≤ 50000) (hB : (digs B).length ≤ 50000) :
    Calls Try.prog 149 #[v1, v2] w (RetGW A B w) := by
  have H1 := Lib.hid h1
  have H2 := Lib.hid h2
  obtain ⟨c, hc⟩ : ∃ c, cmpI A B = c := ⟨_, rfl⟩
  have HC := Lib.hid hc
  have HL : RowKit.Hid ((c < 0 → CmR A B w v2 v1 w B A) ∧ (¬ c < 0 → CmR A B w v1 v2 w A B)) := Lib.hid (by
    constructor
    · intro h
      have : A < B := by
        rcases Nat.lt_or_ge A B with k | k
        · exact k
        · rw [← hc, cmpI_ge k] at h; exact h.elim
      exact ⟨h2, h1, Grown.refl _, by omega, by omega, hB, fun g a b => ⟨b, a⟩⟩
    · intro h
      have : B ≤ A := by
        rcases Nat.lt_or_ge A B with k | k
        · rw [← hc, cmpI_lt k] at h; exact absurd (by decide) h
        · exact k
      exact ⟨h1, h2, Grown.refl _, this, by omega, hA, fun g a b => ⟨a, b⟩⟩)
  have hcb : -1 ≤ c ∧ c ≤ 1 := by rw [← hc]; unfold cmpI; split <;> (try split) <;> omega
  clear hc hne
  have hv1 := h1
  have hv2 := h2
  obtain ⟨s1, c1, rfl, _, _, _⟩ := h1
  obtain ⟨s2, c2, rfl, _, _, _⟩ := h2
  rcases (show (c < 0 ∧ CmR A B w (.slice s2 (digs B).length c2) (.slice s1 (digs A).length c1) w B A) ∨ (¬ c < 0 ∧ CmR A B w (.slice s1 (digs A).length c1) (.slice s2 (digs B).length c2) w A B) from by
    by_cases hlt : c < 0
    · exact .inl ⟨hlt, HL.out.1 hlt⟩
    · exact .inr ⟨hlt, HL.out.2 hlt⟩) with ⟨hlt, hx⟩ | ⟨hlt, hx⟩
  all_goals
    have HX := Lib.hid hx
    clear hx
    go_enter Try.func149, Try.ntmps149
    go_wp2_with (first
      | (go_at_call 95; (with_reducible refine (cmp_c H1.out H2.out).mono ?_); rw [HC.out]; rintro e w' ⟨n, rfl, rfl⟩)
      | fail)
    go_loopw [0, 1, 5, 6, 7, 8, 9, 10, 11, 12, 13, 14, 15, 16, 17] (fun n0 n1 n5 n6 n7 n8 n9 n10 n11 n12 n13 n14 n15 n16 n17 wr => ∃ a b, CmR A B w n0 n1 wr a b) (fun n0 n1 _ _ _ _ _ _ _ _ _ _ _ _ _ wr => numW wr n0 + numW wr n1)
    case atStart =>
      have hx := HX.out
      exact ⟨_, _, hx.ha, hx.hb, gr_drewN _ hx.g, hx.le, hx.ne, hx.len, hx.dv⟩
    case round =>
      obtain ⟨a, b, hR⟩ := hrel
      have HR := Lib.hid hR
      have HM := Lib.hid (And.intro (numW_eq hR.ha) (numW_eq hR.hb))
      clear HX HL
      obtain ⟨sa, ca, rfl, pa1, pa2, _⟩ := hR.ha
      obtain ⟨sb, cb, rfl, pb1, pb2, _⟩ := hR.hb
      clear hR
      by_cases hl2 : 2 < (digs b).length
      · have HBB := Lib.hid (len_big hl2)
        obtain ⟨n, hn⟩ : ∃ n : Nat, (n : Int) = (bl a : Int) - 60 := ⟨bl a - 60, by
          have h1 := bl_lt a
          have h2 : (2 : Nat) ^ 64 < 2 ^ bl a := Nat.lt_of_le_of_lt (by rw [show (2 : Nat) ^ 64 = 18446744073709551616 by decide]; exact Nat.le_trans HBB.out HR.out.le) h1
          have := (Nat.pow_lt_pow_iff_right (show 1 < 2 by decide)).1 h2
          omega⟩
        have hT := top_facts HBB.out HR.out.le hn
        obtain ⟨X, hX⟩ : ∃ X, a / 2 ^ n = X := ⟨_, rfl⟩
        obtain ⟨Y, hY⟩ : ∃ Y, b / 2 ^ n = Y := ⟨_, rfl⟩
        rw [hX, hY] at hT
        obtain ⟨hX1, hX2, hYX, hn5, -⟩ := hT
        have hn9 : n ≤ 100000000 := by
          have h1 := bl_len a
          have h2 := HR.out.len
          omega
        have HN := Lib.hid (show ((bl a : Nat) : Int) = (n : Int) + 60 from by omega)
        have HTA : RowKit.Hid (∀ m, Calls Try.prog 170 #[.slice sa (digs a).length ca, .int .i64 (n : Int)] (wr.drewN m) (fun e w' => ∃ d, e = .returned (.int .u64 (X : Int)) ∧ w' = (wr.drewN m).drewN d)) := Lib.hid (fun m => by
          have := topBits_c (n := n) (HR.out.ha.drewN m) (Nat.le_trans HR.out.len (by decide)) hn9 (by rw [hX]; omega)
          rwa [hX] at this)
        have HTB : RowKit.Hid (∀ m, Calls Try.prog 170 #[.slice sb (digs b).length cb, .int .i64 (n : Int)] (wr.drewN m) (fun e w' => ∃ d, e = .returned (.int .u64 (Y : Int)) ∧ w' = (wr.drewN m).drewN d)) := Lib.hid (fun m => by
          have := topBits_c (n := n) (HR.out.hb.drewN m) (Nat.le_trans (digs_mono HR.out.le) (Nat.le_trans HR.out.len (by decide))) hn9 (by rw [hY]; omega)
          rwa [hY] at this)
        have HXY := Lib.hid (show a = X * 2 ^ n + a % 2 ^ n ∧ b = Y * 2 ^ n + b % 2 ^ n ∧ a % 2 ^ n < 2 ^ n ∧ b % 2 ^ n < 2 ^ n from by
          rw [← hX, ← hY]
          have h1 := Nat.div_add_mod a (2 ^ n)
          have h2 := Nat.div_add_mod b (2 ^ n)
          rw [Nat.mul_comm] at h1 h2
          exact ⟨h1.symm, h2.symm, Nat.mod_lt _ (Nat.two_pow_pos n), Nat.mod_lt _ (Nat.two_pow_pos n)⟩)
        clear hn hX hY
        go_wp2_with (first
          | (go_at_call 167; (with_reducible refine (bitLen_c HR.out.ha).mono ?_); rw [HN.out]; rintro e w1 ⟨d1, rfl, rfl⟩)
          | (go_at_call_of 170 (Value.slice sa (digs a).length ca); (with_reducible refine (HTA.out _).mono ?_); rintro e w2 ⟨d2, rfl, rfl⟩)
          | (go_at_call_of 170 (Value.slice sb (digs b).length cb); (with_reducible refine (HTB.out _).mono ?_); rintro e w3 ⟨d3, rfl, rfl⟩)
          | fail)
        clear HTA HTB
        have HE : RowKit.Hid (∀ d : Nat, CmR A B w (.slice sa (digs a).length ca) (.slice sb (digs b).length cb) (wr.drewN d) a b) := Lib.hid (fun d => ⟨HR.out.ha.drewN d, HR.out.hb.drewN d, gr_drewN d HR.out.g, HR.out.le, HR.out.ne, HR.out.len, HR.out.dv⟩)
        have HLS := Lib.hid (leh_start hYX hX2)
        go_loopw [6, 7, 8, 9, 10, 11, 12, 13, 14, 15] (fun n6 n7 n8 n9 n10 n11 n12 n13 n14 n15 wz => ∃ (x y u0 u1 u2 v0 v1 v2 p d : Nat) (even : Bool), n6 = .int .u64 x ∧ n7 = .int .u64 y ∧ n8 = .int .u64 u0 ∧ n9 = .int .u64 u1 ∧ n10 = .int .u64 u2 ∧ n11 = .int .u64 v0 ∧ n12 = .int .u64 v1 ∧ n13 = .int .u64 v2 ∧ n14 = .bool even ∧ Leh X Y even x y u0 u1 u2 v0 v1 v2 p ∧ wz = wr.drewN d) (fun _ n7 _ _ _ _ _ _ _ _ _ => (intOf n7).toNat)
        case atStart => exact ⟨X, Y, 0, 1, 0, 0, 0, 1, 0, _, false, rfl, rfl, rfl, rfl, rfl, rfl, rfl, rfl, rfl, HLS.out, by first | rfl | (rw [World.drewN_drewN]) | (rw [World.drewN_drewN, World.drewN_drewN])⟩
        case round =>
          obtain ⟨x, y, u0, u1, u2, v0, v1, v2, p, d, even, rfl, rfl, rfl, rfl, rfl, rfl, rfl, rfl, rfl, hLe, rfl⟩ := hrel
          have HLe := Lib.hid hLe
          obtain ⟨b1, b2, b3, b4, b5⟩ := leh_bd hLe hX1
          have hyx := hLe.le
          clear hLe HLS
          by_cases kk : v2 ≤ y ∧ v1 + v2 ≤ x - y
          · obtain ⟨k1, k2⟩ := kk
            have k1i : (v2 : Int) ≤ (y : Int) := by omega
            have k2i : (v1 : Int) + (v2 : Int) ≤ (x : Int) - (y : Int) := by omega
            obtain ⟨q, M1, M2, M3, hq, e1, e2, e3, m1, m2, m3, m4, m5, hN, hlt2⟩ := leh_words HLe.out hX1 k1 k2
            have HN2 := Lib.hid hN
            have f1 : (q : Int) * (y : Int) = (M1 : Int) := by rw [e1, Int.natCast_mul]
            have f2 : (q : Int) * (u2 : Int) = (M2 : Int) := by rw [e2, Int.natCast_mul]
            have f3 : (q : Int) * (v2 : Int) = (M3 : Int) := by rw [e3, Int.natCast_mul]
            have f0 : (x : Int) / (y : Int) = (q : Int) := by rw [hq]; exact (Int.natCast_ediv x y).symm
            have g1 := Lib.hid (show (x : Int) - (M1 : Int) = ((x - M1 : Nat) : Int) from by omega)
            have g2 := Lib.hid (show (u1 : Int) + (M2 : Int) = ((u1 + M2 : Nat) : Int) from by omega)
            have g3 := Lib.hid (show (v1 : Int) + (M3 : Int) = ((v1 + M3 : Nat) : Int) from by omega)
            have HLT := Lib.hid hlt2
            have hy1 : (1 : Int) ≤ (y : Int) := by have := HLe.out.v2pos; omega
            clear hN hlt2 e1 e2 e3 hq k1 k2
            go_wp2_with fail
            go_roundw
            case rel => exact ⟨y, x - M1, u1, u2, u1 + M2, v1, v2, v1 + M3, x, d, !even, rfl, by rw [g1.out], rfl, rfl, by rw [g2.out], rfl, rfl, by rw [g3.out], rfl, HN2.out, rfl⟩
            case measure =>
              rw [g1.out]
              exact HLT.out
          · have hx2 : (¬ (v2 : Int) ≤ (y : Int)) ∨ ((v2 : Int) ≤ (y : Int) ∧ ¬ ((v1 : Int) + (v2 : Int) ≤ (x : Int) - (y : Int))) := by omega
            have hbne : b ≠ 0 := by have := HBB.out; omega
            by_cases h0 : v0 = 0
            · subst h0
              have HD := Lib.hid (div_c (HR.out.ha.drewN d) (HR.out.hb.drewN d) hbne (Nat.le_trans HR.out.len (by decide)))
              have HLT := Lib.hid (Nat.mod_lt a (Nat.pos_of_ne_zero hbne))
              have HBN := Lib.hid hbne
              clear hbne kk
              rcases hx2 with k1i | ⟨k1i, k2i⟩
              all_goals
                go_wp2_with (first
                  | (go_at_call 150; (with_reducible refine HD.out.mono ?_); rintro e w1 ⟨q1, q2, rfl, hq1, hq2, hg1⟩; have HQ2 := Lib.hid hq2; have HG1 := Lib.hid (gr_trans (gr_drewN d (Grown.refl wr)) hg1); clear hq1 hq2 hg1)
                  | fail)
                go_roundw
                case rel => exact ⟨b, a % b, HR.out.hb.grown HG1.out, HQ2.out, gr_trans HR.out.g HG1.out, Nat.le_of_lt HLT.out, HBN.out, Nat.le_trans (digs_mono HR.out.le) HR.out.len, fun g g1 g2 => HR.out.dv g (dvd_mod_back g1 g2) g1⟩
                case measure =>
                  rw [numW_eq (HR.out.hb.grown HG1.out), numW_eq HQ2.out, HM.out.1, HM.out.2]
                  have h1 := HLT.out
                  have h2 := HR.out.le
                  omega
            · have hv0 : ((v0 : Int) == 0) = false := by simp; omega
              obtain ⟨A', B', e1, e2, e3, e4, e5, e6, e7, e8, g1, g2, g3, g4⟩ := leh_next HLe.out h0 HXY.out hX1 HR.out.le HR.out.ne HR.out.dv hbne
              have HF := Lib.hid (And.intro e3 (And.intro e4 (And.intro e5 (And.intro e7 e8))))
              have hlen1 := digs_mono HR.out.le
              have hlen2 : (digs a).length ≤ 100000000 := Nat.le_trans HR.out.len (by decide)
              have HB1 := Lib.hid (fun (W : World) (hg : Grown wr W) => fun p q hp hq hpq hS => @blend_c _ _ _ _ A' p q W (HR.out.ha.grown hg) (HR.out.hb.grown hg) hlen1 hlen2 hp hq hpq hS e5)
              have HB2 := Lib.hid (fun (W : World) (hg : Grown wr W) => fun p q hp hq hpq hS => @blend_c _ _ _ _ B' p q W (HR.out.ha.grown hg) (HR.out.hb.grown hg) hlen1 hlen2 hp hq hpq hS e6)
              have HLL := Lib.hid (Nat.le_trans (digs_mono e5) HR.out.len)
              clear e3 e4 e5 e6 e7 e8 hlen1 hlen2 kk h0 hbne
              cases even
              all_goals
                simp only [Bool.false_eq_true, if_false, if_true] at e1 e2
                have E1 := Lib.hid e1
                have E2 := Lib.hid e2
                clear e1 e2
                rcases hx2 with k1i | ⟨k1i, k2i⟩
                all_goals
                  go_wp2_with (first
                    | (go_at_call 171; (with_reducible refine (HB1.out _ (gr_drewN d (Grown.refl wr)) _ _ (by omega) (by omega) (by omega) E1.out).mono ?_); rintro e w5 ⟨va, rfl, hva, hga⟩; have HVA := Lib.hid hva; have HGA := Lib.hid (gr_trans (gr_drewN d (Grown.refl wr)) hga); clear hva hga)
                    | (go_at_call 171; (with_reducible refine (HB2.out _ HGA.out _ _ (by omega) (by omega) (by omega) E2.out).mono ?_); rintro e w6 ⟨vb, rfl, hvb, hgb⟩; have HVB := Lib.hid hvb; have HGB := Lib.hid hgb; clear hvb hgb)
                    | fail)
                  go_roundw
                  case rel => exact ⟨A', B', HVA.out.grown HGB.out, HVB.out, gr_trans HR.out.g (gr_trans HGA.out HGB.out), HF.out.1, HF.out.2.2.2.1, HLL.out, HF.out.2.2.2.2⟩
                  case measure =>
                    rw [numW_eq (HVA.out.grown HGB.out), numW_eq HVB.out, HM.out.1, HM.out.2]
                    exact HF.out.2.1
      · have hb64 := len_small hl2
        by_cases hb0 : b = 0
        · subst hb0
          have hlen0 : (digs 0).length = 0 := rfl
          rw [hlen0]
          go_wp2_with (first
            | (go_at_call 148; (with_reducible refine (copied_c HR.out.ha).mono ?_); rintro e w' ⟨v, rfl, hv, hg⟩)
            | fail)
          go_ret
          exact ⟨a, v, rfl, hv, gr_trans HR.out.g hg, (HR.out.dv a (Nat.dvd_refl a) (Nat.dvd_zero a)).1, (HR.out.dv a (Nat.dvd_refl a) (Nat.dvd_zero a)).2, HR.out.ne⟩
        · have hl0 : ((digs b).length : Int) ≠ 0 := by have := digs_len_pos hb0; omega
          have hlb : (((digs b).length : Int) == 0) = false := by simpa using hl0
          have HB0 := Lib.hid hb0
          have HD := Lib.hid (div_c HR.out.ha HR.out.hb hb0 (Nat.le_trans HR.out.len (by decide)))
          have hr64 : a % b < 18446744073709551616 := Nat.lt_trans (Nat.mod_lt _ (Nat.pos_of_ne_zero hb0)) hb64
          have HB64 := Lib.hid hb64
          have HR64 := Lib.hid hr64
          obtain ⟨r, hr⟩ : ∃ r, a % b = r := ⟨_, rfl⟩
          rw [hr] at HD HR64
          have HRr := Lib.hid hr
          clear hb0 hr64 hr
          go_wp2_with (first
            | (go_at_call 150; (with_reducible refine HD.out.mono ?_); rintro e w1 ⟨q1, q2, rfl, hq1, hq2, hg1⟩; have HQ2 := Lib.hid hq2; have HG1 := Lib.hid hg1; have HB1 := Lib.hid (HR.out.hb.grown hg1); clear hq1 hq2 hg1)
            | (go_at_call_of 168 (Value.slice sb (digs b).length cb); (with_reducible refine (toUint_c HB1.out HB64.out).mono ?_); rintro e w2 ⟨d2, rfl, rfl⟩)
            | (go_at_call 168; (with_reducible refine (toUint_c (HQ2.out.drewN _) HR64.out).mono ?_); rintro e w3 ⟨d3, rfl, rfl⟩)
            | fail)
          go_loopw [20, 21] (fun n20 n21 wz => ∃ x y d : Nat, n20 = .int .u64 x ∧ n21 = .int .u64 y ∧ x < 18446744073709551616 ∧ y < 18446744073709551616 ∧ x ≠ 0 ∧ (∀ g, g ∣ x → g ∣ y → g ∣ b ∧ g ∣ r) ∧ wz = w1.drewN d) (fun _ n21 _ => (intOf n21).toNat)
          case atStart => exact ⟨b, r, _, rfl, rfl, HB64.out, HR64.out, HB0.out, fun g a b => ⟨a, b⟩, by first | rfl | (rw [World.drewN_drewN])⟩
          case round =>
            obtain ⟨x, y, d, rfl, rfl, hx, hy, hx0, hdv, rfl⟩ := hrel
            have HDV := Lib.hid hdv
            have HX0 := Lib.hid hx0
            clear hdv hx0
            by_cases hy0 : y = 0
            · subst hy0
              have HG2 := Lib.hid (gr_trans HR.out.g (gr_drewN d HG1.out))
              go_wp2_with (first
                | (go_at_call 142; (with_reducible refine (fromUint_c x hx _).mono ?_); rintro e w4 ⟨v, rfl, hv, hg⟩)
                | fail)
              go_ret
              have h1 := HDV.out x (Nat.dvd_refl x) (Nat.dvd_zero x)
              rw [← HRr.out] at h1
              have h2 := HR.out.dv x (dvd_mod_back h1.1 h1.2) h1.1
              exact ⟨x, v, rfl, hv, gr_trans HG2.out hg, h2.1, h2.2, HX0.out⟩
            · have hy1 : ((y : Int) != 0) = true := by simp; omega
              have hyp : (1 : Int) ≤ (y : Int) := by omega
              have HM1 := Lib.hid (show (x : Int) % (y : Int) = ((x % y : Nat) : Int) from rfl)
              have HLT := Lib.hid (Nat.mod_lt x (Nat.pos_of_ne_zero hy0))
              have HY0 := Lib.hid hy0
              clear hy0
              go_wp2_with fail
              go_quiet (fail)
              go_wp2_with fail
              go_roundw
              case rel => exact ⟨y, x % y, _, rfl, by rw [HM1.out], hy, Nat.lt_trans HLT.out hy, HY0.out, fun g a b => HDV.out g (dvd_mod_back a b) a, by first | rfl | (rw [World.drewN_drewN])⟩
              case measure =>
                rw [HM1.out]
                exact HLT.out
end Go.Proofs.Ytcfkhhnkboealaa
