/- A figure of a quotient: the walk. -/
import Derived.Test.YtcfkhhnkboealaaWdb
namespace Go.Proofs.Ytcfkhhnkboealaa
open Go.RowKit
set_option linter.unusedVariables false
set_option linter.unusedSimpArgs false
set_option maxRecDepth 100000
set_option maxHeartbeats 4000000
/-- nothing but words of one block has turned. -/
structure Tch (bu ou n : Nat) (w w' : World) : Prop where
  grown : ∀ w0, Grown w0 w → w0.heap.size ≤ bu → Grown w0 w'
  cell : ∀ b i, (b ≠ bu ∨ i < ou ∨ ou + n < i) → w'.cell? ⟨b, i, none⟩ = w.cell? ⟨b, i, none⟩
  frz : ∀ a, w'.frozen? a = w.frozen? a
  size : w'.heap.size = w.heap.size
theorem Tch.refl (bu ou n : Nat) (w : World) : Tch bu ou n w w := ⟨fun _ h _ => h, fun _ _ _ => rfl, fun _ => rfl, rfl⟩
theorem Tch.drewN {bu ou n : Nat} {w w' : World} (h : Tch bu ou n w w') (d : Nat) : Tch bu ou n w (w'.drewN d) := ⟨fun w0 a b => gr_drewN d (h.grown w0 a b), h.cell, h.frz, h.size⟩
theorem Tch.set {bu ou n : Nat} {w w' : World} (h : Tch bu ou n w w') {j : Nat} (hj : j ≤ n) (v : Value) : Tch bu ou n w (w'.setCell ⟨bu, ou + j, none⟩ v) := by
  refine ⟨fun w0 a b => (h.grown w0 a b).setCell b v, fun b i hi => ?_, fun a => (World.frozen?_setCell _ _ _ _).trans (h.frz a), by rw [size_setCell]; exact h.size⟩
  rw [World.cell?_setCell_other _ _ _ _ (by intro e; injection e with e1 e2; rcases hi with hi | hi | hi; exact hi e1.symm; omega; omega)]
  exact h.cell b i hi
theorem set_cells {w : World} {bu ou n : Nat} {xs : List Nat} (h : ∀ j, j ≤ n → w.cell? ⟨bu, ou + j, none⟩ = some (.int .u32 ((xs.getD j 0 : Nat) : Int))) (hl : xs.length = n + 1) {i : Nat} (hi : i ≤ n) (v : Nat) :
    ∀ j, j ≤ n → (w.setCell ⟨bu, ou + i, none⟩ (.int .u32 (v : Int))).cell? ⟨bu, ou + j, none⟩ = some (.int .u32 (((xs.set i v).getD j 0 : Nat) : Int)) := by
  intro j hj
  rw [getD_set (by omega)]
  by_cases e : j = i
  · subst e; rw [if_pos rfl, World.cell?_setCell_same _ _ _ (h j hj)]
  · rw [if_neg e, World.cell?_setCell_other _ _ _ _ (by intro k; injection k with _ k2; omega)]; exact h j hj
/-- what figure hands back. -/
def RetQ (bu ou n A R : Nat) (w : World) (e : Ending) (w' : World) : Prop :=
  ∃ xs : List Nat, e = .returned (.int .u32 (A : Int)) ∧ xs.length = n + 1 ∧ Sm xs ∧ wv xs = R ∧ (∀ j, j ≤ n → w'.cell? ⟨bu, ou + j, none⟩ = some (.int .u32 ((xs.getD j 0 : Nat) : Int))) ∧ Tch bu ou n w w'
theorem fig_setup {us vs : List Nat} {n : Nat} (hn : 2 ≤ n) (hul : us.length = n + 1) (hvl : vs.length = n) (hus : Sm us) (hvs : Sm vs) (ht : 2147483648 ≤ vs.getD (n - 1) 0) (hlt : wv us < 4294967296 * wv vs) :
    FigN (wv us) (wv vs) ((us.getD n 0 * 4294967296 + us.getD (n - 1) 0) * 4294967296 + us.getD (n - 2) 0) (vs.getD (n - 1) 0 * 4294967296 + vs.getD (n - 2) 0) (4294967296 ^ (n - 2)) (us.getD n 0 * 4294967296 + us.getD (n - 1) 0) (vs.getD (n - 1) 0) (us.getD (n - 2) 0) (vs.getD (n - 2) 0) := by
  have hP : 0 < 4294967296 ^ (n - 2) := Nat.pow_pos (by decide)
  have u1 := wv_take_succ us n (by omega)
  have u2 := wv_take_succ us (n - 1) (by omega)
  have u3 := wv_take_succ us (n - 2) (by omega)
  rw [show n - 1 + 1 = n by omega] at u2
  rw [show n - 2 + 1 = n - 1 by omega] at u3
  rw [List.take_of_length_le (show us.length ≤ n + 1 by omega)] at u1
  have v2 := wv_take_succ vs (n - 1) (by omega)
  have v3 := wv_take_succ vs (n - 2) (by omega)
  rw [show n - 1 + 1 = n by omega, List.take_of_length_le (show vs.length ≤ n by omega)] at v2
  rw [show n - 2 + 1 = n - 1 by omega] at v3
  have su := wv_lt (sm_take hus (n - 2))
  have sv := wv_lt (sm_take hvs (n - 2))
  rw [List.length_take, Nat.min_eq_left (by omega)] at su sv
  rw [← gd_lt (show n < us.length by omega)] at u1
  rw [← gd_lt (show n - 1 < us.length by omega)] at u2
  rw [← gd_lt (show n - 2 < us.length by omega)] at u3
  rw [← gd_lt (show n - 1 < vs.length by omega)] at v2
  rw [← gd_lt (show n - 2 < vs.length by omega)] at v3
  have p1 : 4294967296 ^ (n - 1) = 4294967296 ^ (n - 2) * 4294967296 := by rw [← Nat.pow_succ]; congr 1; omega
  have p2 : 4294967296 ^ n = 4294967296 ^ (n - 2) * 4294967296 * 4294967296 := by rw [← Nat.pow_succ, ← Nat.pow_succ]; congr 1; omega
  rw [p1] at u2 v2
  rw [p2] at u1
  have b1 := sm_getD hus (n - 2)
  have b2 := sm_getD hvs (n - 2)
  have b3 := sm_getD hvs (n - 1)
  generalize us.getD n 0 = a at *
  generalize us.getD (n - 1) 0 = b at *
  generalize us.getD (n - 2) 0 = c at *
  generalize vs.getD (n - 1) 0 = t at *
  generalize vs.getD (n - 2) 0 = d at *
  generalize wv (us.take (n - 2)) = x at *
  generalize wv (vs.take (n - 2)) = y at *
  generalize 4294967296 ^ (n - 2) = P at *
  have eU : wv us = ((a * 4294967296 + b) * 4294967296 + c) * P + x := by
    rw [u1, u2, u3, Nat.add_mul, Nat.add_mul, Nat.add_mul]
    have q1 : P * 4294967296 * 4294967296 * a = a * 4294967296 * 4294967296 * P := by ac_rfl
    have q2 : P * 4294967296 * b = b * 4294967296 * P := by ac_rfl
    have q3 : P * c = c * P := Nat.mul_comm _ _
    rw [q1, q2, q3]; omega
  have eV : wv vs = (t * 4294967296 + d) * P + y := by
    rw [v2, v3, Nat.add_mul]
    have q2 : P * 4294967296 * t = t * 4294967296 * P := by ac_rfl
    have q3 : P * d = d * P := Nat.mul_comm _ _
    rw [q2, q3]; omega
  refine ⟨by omega, ?_, by omega, ?_, rfl, rfl, b1, b2, b3, ht, hP, hlt⟩
  · rw [eU, Nat.succ_mul]; omega
  · rw [eV, Nat.succ_mul]; omega
theorem and_mask (p : Nat) (h : p < 18446744073709551616) : bits .and .u64 (p : Int) 4294967295 = ((p % 4294967296 : Nat) : Int) := by
  have h1 : (BitVec.ofInt 64 (p : Int)).toNat = p := by
    rw [BitVec.ofInt_natCast, BitVec.toNat_ofNat]; exact Nat.mod_eq_of_lt (by omega)
  show IntKind.u64.wrap ((BitVec.ofInt 64 (p : Int) &&& BitVec.ofInt 64 (4294967295 : Int)).toNat : Int) = _
  rw [BitVec.toNat_and, h1, show (BitVec.ofInt 64 (4294967295 : Int)).toNat = 2 ^ 32 - 1 by decide +kernel, Nat.and_two_pow_sub_one_eq_mod, IntKind.wrap_u64]
  have : p % 2 ^ 32 = p % 4294967296 := by rw [show (2 : Nat) ^ 32 = 4294967296 by decide]
  rw [this]; omega
theorem fig_test {r u g v : Nat} : r * 4294967296 + u < g * v ↔ (r : Int) * 4294967296 + (u : Int) < (g : Int) * (v : Int) := by
  have e1 : (r : Int) * 4294967296 + (u : Int) = ((r * 4294967296 + u : Nat) : Int) := by rw [Int.natCast_add, Int.natCast_mul]; rfl
  rw [e1, ← Int.natCast_mul]
  exact Int.ofNat_lt.symm
theorem figure_core {bu ou cu bv ov cv n : Nat} {us vs : List Nat} {w : World} (hn : 2 ≤ n) (hn2 : n ≤ 100000000) (hul : us.length = n + 1) (hvl : vs.length = n) (hus : Sm us) (hvs : Sm vs) (ht : 2147483648 ≤ vs.getD (n - 1) 0) (hlt : wv us < 4294967296 * wv vs)
    (hcu : n + 1 ≤ cu) (hcu2 : cu ≤ 1000000000) (hcv : n ≤ cv) (hcv2 : cv ≤ 1000000000) (hne : bv ≠ bu) (hfr : ∀ j, w.frozen? ⟨bu, j, none⟩ = false)
    (hu : ∀ j, j ≤ n → w.cell? ⟨bu, ou + j, none⟩ = some (.int .u32 ((us.getD j 0 : Nat) : Int))) (hv : ∀ j, j < n → w.cell? ⟨bv, ov + j, none⟩ = some (.int .u32 ((vs.getD j 0 : Nat) : Int))) :
    Calls Try.prog 174 #[.slice (some ⟨bu, ou, none⟩) (n + 1) cu, .slice (some ⟨bv, ov, none⟩) n cv] w (RetQ bu ou n (wv us / wv vs) (wv us % wv vs) w) := by
  have HS := Lib.hid (fig_setup hn hul hvl hus hvs ht hlt)
  have HU := Lib.hid hu
  have HV := Lib.hid hv
  have HF := Lib.hid hfr
  have HUS := Lib.hid hus
  have HVS := Lib.hid hvs
  have hun := hu n (Nat.le_refl _)
  have hun1 := hu (n - 1) (by omega)
  have hun2 := hu (n - 2) (by omega)
  have hvn1 := hv (n - 1) (by omega)
  have hvn2 := hv (n - 2) (by omega)
  have b0 := sm_getD hus n
  have b1 := sm_getD hus (n - 1)
  have b2 := sm_getD hus (n - 2)
  have b4 := sm_getD hvs (n - 2)
  have b3 := sm_getD hvs (n - 1)
  clear hu hv hfr hus hvs
  obtain ⟨un, e0⟩ : ∃ x, x = us.getD n 0 := ⟨_, rfl⟩
  obtain ⟨un1, e1⟩ : ∃ x, x = us.getD (n - 1) 0 := ⟨_, rfl⟩
  obtain ⟨un2, e2⟩ : ∃ x, x = us.getD (n - 2) 0 := ⟨_, rfl⟩
  obtain ⟨t, e3⟩ : ∃ x, x = vs.getD (n - 1) 0 := ⟨_, rfl⟩
  obtain ⟨v2, e4⟩ : ∃ x, x = vs.getD (n - 2) 0 := ⟨_, rfl⟩
  rw [← e0] at hun b0 HS
  rw [← e1] at hun1 b1 HS
  rw [← e2] at hun2 b2 HS
  rw [← e3] at hvn1 b3 HS ht
  rw [← e4] at hvn2 b4 HS
  clear e0 e1 e2 e3 e4
  have k1 : ((n : Int) - 1).toNat = n - 1 := by omega
  have k2 : ((n : Int) - 2).toNat = n - 2 := by omega
  have k3 : IntKind.i64.wrap ((n : Int) - 1) = (n : Int) - 1 := IntWalk.i64_in _ (by omega)
  have k4 : IntKind.i64.wrap ((n : Int) - 2) = (n : Int) - 2 := IntWalk.i64_in _ (by omega)
  obtain ⟨num, enum⟩ : ∃ x, x = un * 4294967296 + un1 := ⟨_, rfl⟩
  have ho := or_words un un1 b0 b1
  rw [← enum] at ho HS
  have hnum : num < 18446744073709551616 := by omega
  have ht1 : (1 : Int) ≤ (t : Int) := by omega
  have q1 : (num : Int) / (t : Int) = ((num / t : Nat) : Int) := rfl
  have q2 : (num : Int) % (t : Int) = ((num % t : Nat) : Int) := rfl
  have k5 : IntKind.u64.wrap ((un : Int) * 4294967296) = (un : Int) * 4294967296 := by rw [IntKind.wrap_u64]; omega
  go_enter Try.func174, Try.ntmps174
  go_wp2_with fail
  go_quiet (fail)
  go_wp2_with fail
  have E1 := Lib.hid (show ((un : Int) * 4294967296 + un1) / t = ((num / t : Nat) : Int) from by rw [enum]; simp)
  have E2 := Lib.hid (show ((un : Int) * 4294967296 + un1) % t = ((num % t : Nat) : Int) from by rw [enum]; simp)
  have ENUM := Lib.hid enum
  have hg0 : num / t < 18446744073709551616 := Nat.lt_of_le_of_lt (Nat.div_le_self _ _) hnum
  have HG0 := Lib.hid hg0
  clear q1 q2 ho enum hg0 k5 hnum
  go_loopw [8, 9] (fun n8 n9 wr => ∃ g r d : Nat, n8 = .int .u64 g ∧ n9 = .int .u64 r ∧ g < 18446744073709551616 ∧ FigG (wv us) (wv vs) num t g r ∧ wr = w.drewN d) (fun n8 _ _ => (intOf n8).toNat)
  case atStart => exact ⟨num / t, num % t, _, by rw [E1.out], by rw [E2.out], HG0.out, fig_start HS.out, rfl⟩
  case round =>
    obtain ⟨g, r, d, rfl, rfl, hg, hG, rfl⟩ := hrel
    have HG := Lib.hid hG
    have HB := Lib.hid hg
    have hr := hG.rest
    have hgi : (g : Int) ≤ 18446744073709551615 := by omega
    clear hG hg
    have ho := or_words r un2 hr b2
    have k5 : IntKind.u64.wrap ((r : Int) * 4294967296) = (r : Int) * 4294967296 := by rw [IntKind.wrap_u64]; omega
    by_cases c1 : 4294967296 ≤ g
    · have c1' : (4294967296 : Int) ≤ (g : Int) := by omega
      have c1d : decide ((4294967296 : Int) ≤ (g : Int)) = true := by simpa using c1'
      have C1 := Lib.hid c1
      clear c1 c1'
      go_wp2_with fail
      go_quiet (fail)
      have g0 : 0 < g := by have := C1.out; omega
      obtain ⟨g', rfl⟩ : ∃ g', g = g' + 1 := ⟨g - 1, by omega⟩
      have FD := Lib.hid (fig_down HS.out HG.out (by exact .inl C1.out))
      have FB := Lib.hid (show g' < 18446744073709551616 from by have := HB.out; omega)
      by_cases c3 : 4294967296 ≤ r + t
      · have c3' : (4294967296 : Int) ≤ (r : Int) + (t : Int) := by omega
        have FE := Lib.hid (show FigE (wv us) (wv vs) g' from fig_out2 HS.out (FD.out.2.1) c3 (by omega) FD.out.2.2)
        clear c3 FD FB HG HB
        have gb := FE.out.b
        have hg' : (g' : Int) ≤ 4294967295 := by omega
        have HV0 := Lib.hid (show 0 < wv vs from by
          rcases Nat.eq_zero_or_pos (wv vs) with e | e
          · rw [e] at hlt; exact absurd hlt (Nat.not_lt_zero _)
          · exact e)
        clear hlt gb HS
        go_wp2_with fail
        go_loopw [10, 11, 12, 13, 14] (fun n10 n11 n12 n13 n14 wr => ∃ (i c bo : Nat) (xs : List Nat), n10 = .int .u64 c ∧ n11 = .int .u64 bo ∧ n12 = .int .i64 i ∧ i ≤ n ∧ SubRel us vs g' n i c bo xs ∧ (∀ j, j ≤ n → wr.cell? ⟨bu, ou + j, none⟩ = some (.int .u32 ((xs.getD j 0 : Nat) : Int))) ∧ Tch bu ou n w wr) (fun _ _ n12 _ _ _ => n - (intOf n12).toNat)
        case atStart => exact ⟨0, 0, 0, us, rfl, rfl, rfl, Nat.zero_le _, sub_start hul HUS.out, fun j hj => HU.out j hj, by first | exact (Tch.refl _ _ _ _).drewN _ | exact ((Tch.refl _ _ _ _).drewN _).drewN _⟩
        case round =>
          obtain ⟨i, c, bo, xs, rfl, rfl, rfl, hi, hR, hc, hT⟩ := hrel
          have HR := Lib.hid hR
          have HC := Lib.hid hc
          have HT := Lib.hid hT
          clear hR hc hT
          by_cases hin : i < n
          · have cu1 := HC.out i (by omega)
            rw [HR.out.rest i (Nat.le_refl _)] at cu1
            have cv1 := HV.out i hin
            rw [← HT.out.cell bv (ov + i) (.inl hne)] at cv1
            have f1 : wr.frozen? ⟨bu, ou + i, none⟩ = false := (HT.out.frz _).trans (HF.out _)
            obtain ⟨u, eu⟩ : ∃ u, u = us.getD i 0 := ⟨_, rfl⟩
            obtain ⟨v, ev⟩ : ∃ v, v = vs.getD i 0 := ⟨_, rfl⟩
            have ub := sm_getD HUS.out i
            have vb := sm_getD HVS.out i
            rw [← eu] at cu1 ub
            rw [← ev] at cv1 vb
            have EU := Lib.hid eu
            have EV := Lib.hid ev
            clear eu ev
            obtain ⟨p1, p2, x, bo', x1, x2, x3, x4, x5, x6⟩ := sub_word (g := g') (v := v) (c := c) (u := u) (bo := bo) (by omega) vb HR.out.car ub HR.out.bor
            have cb := HR.out.car
            obtain ⟨p, ep⟩ : ∃ p, p = g' * v + c := ⟨_, rfl⟩
            have EP := Lib.hid ep
            rw [← ep] at p1 p2 x3 x4 x5 x6
            have w1 : IntKind.u64.wrap ((g' : Int) * (v : Int)) = (g' : Int) * (v : Int) := by
              rw [IntKind.wrap_u64, ← Int.natCast_mul]
              have : g' * v < 18446744073709551616 := by omega
              omega
            have w2 : IntKind.u64.wrap ((g' : Int) * (v : Int) + (c : Int)) = (p : Int) := by
              rw [IntKind.wrap_u64, ← Int.natCast_mul]
              omega
            obtain ⟨m, em⟩ : ∃ m, m = p % 4294967296 := ⟨_, rfl⟩
            have w3 : bits .and .u64 (p : Int) 4294967295 = (m : Int) := by rw [and_mask p p1, em]
            obtain ⟨T, eT⟩ : ∃ T : Nat, (T : Int) = ((u : Int) - (m : Int) - (bo : Int)) % 18446744073709551616 := ⟨(((u : Int) - (m : Int) - (bo : Int)) % 18446744073709551616).toNat, by omega⟩
            have w4 : IntKind.u64.wrap (IntKind.u64.wrap ((u : Int) - (m : Int)) - (bo : Int)) = (T : Int) := by
              rw [IntKind.wrap_u64, IntKind.wrap_u64, eT]; omega
            rw [← em] at x3 x5 x6
            have y1 := Lib.hid (show (T : Int) % 4294967296 = (x : Int) from by rw [x5, eT]; omega)
            have y2 := Lib.hid (show (T : Int) / 9223372036854775808 = (bo' : Int) from by rw [x6, eT])
            have y3 := Lib.hid (show (p : Int) / 4294967296 = ((p / 4294967296 : Nat) : Int) from rfl)
            have HST := Lib.hid (show SubRel us vs g' n (i + 1) (p / 4294967296) bo' (xs.set i x) from by
              have := sub_step HR.out hin hvl hul x1 x2 (x := x) (bo' := bo') (by rw [← EV.out, ← EP.out]; exact p2) (by rw [← EV.out, ← EU.out, ← EP.out]; exact x4)
              rw [← EV.out, ← EP.out] at this
              exact this)
            have pb : (p : Int) ≤ 18446744073709551615 := by omega
            have Tb : (T : Int) ≤ 18446744073709551615 := by omega
            have XL := Lib.hid (show xs.length = n + 1 from HR.out.len)
            clear p1 p2 x1 x2 x3 x4 x5 x6 em eT ep
            go_wp2_with fail
            go_roundw
            case rel =>
              refine ⟨i + 1, p / 4294967296, bo', xs.set i x, by rw [y3.out], by rw [y2.out], by go_num, by omega, HST.out, ?_, ?_⟩
              · rw [y1.out]; exact set_cells HC.out XL.out (by omega) x
              · exact HT.out.set (by omega) _
            case measure => (simp [intOf] <;> omega)
          · have hi2 : n = i := by omega
            subst hi2
            have ca := HC.out n (Nat.le_refl _)
            rw [HR.out.rest n (Nat.le_refl _)] at ca
            have f1 : wr.frozen? ⟨bu, ou + n, none⟩ = false := (HT.out.frz _).trans (HF.out _)
            have ab := sm_getD HUS.out n
            obtain ⟨a, ea⟩ : ∃ a, a = us.getD n 0 := ⟨_, rfl⟩
            have EA := Lib.hid ea
            rw [← ea] at ca ab
            have cb := HR.out.car
            have bb := HR.out.bor
            have XL := Lib.hid (show xs.length = n + 1 from HR.out.len)
            obtain ⟨T, eT⟩ : ∃ T : Nat, (T : Int) = ((a : Int) - (c : Int) - (bo : Int)) % 18446744073709551616 := ⟨(((a : Int) - (c : Int) - (bo : Int)) % 18446744073709551616).toNat, by omega⟩
            have w4 : IntKind.u64.wrap (IntKind.u64.wrap ((a : Int) - (c : Int)) - (bo : Int)) = (T : Int) := by
              rw [IntKind.wrap_u64, IntKind.wrap_u64, eT]; omega
            have Tb : (T : Int) ≤ 18446744073709551615 := by omega
            by_cases hge : c + bo ≤ a
            · have y1 := Lib.hid (show (T : Int) % 4294967296 = ((a - c - bo : Nat) : Int) from by rw [eT]; omega)
              have y2 : ((T : Int) / 9223372036854775808 == 0) = true := by rw [beq_iff_eq, eT]; omega
              have FF := Lib.hid (fig_fin1 HR.out hul hvl FE.out HV0.out (by rw [← EA.out]; exact hge))
              have AB := Lib.hid (show a - c - bo < 4294967296 from by omega)
              clear eT ea hge
              go_wp2_with fail
              go_ret
              refine ⟨xs.set n (a - c - bo), ?_, ?_, sm_set HR.out.sm _ AB.out, ?_, ?_, ?_⟩
              · rw [← FF.out.1]; rfl
              · rw [List.length_set]; exact XL.out
              · rw [EA.out]; exact FF.out.2
              · rw [y1.out]; exact set_cells HC.out XL.out (Nat.le_refl _) _
              · exact HT.out.set (Nat.le_refl _) _
            · obtain ⟨tw, etw⟩ : ∃ tw, tw = (a + 4294967296 - (c + bo)) % 4294967296 := ⟨_, rfl⟩
              have y1 := Lib.hid (show (T : Int) % 4294967296 = (tw : Int) from by rw [eT, etw]; omega)
              have y2 : ((T : Int) / 9223372036854775808 == 0) = false := by
                have : (T : Int) / 9223372036854775808 = 1 := by rw [eT]; omega
                rw [this]; rfl
              have TW := Lib.hid (show tw < 4294967296 from by omega)
              have ETW := Lib.hid etw
              have HGE := Lib.hid hge
              have HWS := Lib.hid (show Sm (xs.set n tw) from sm_set HR.out.sm _ TW.out)
              have HWL := Lib.hid (show (xs.set n tw).length = n + 1 from by rw [List.length_set]; exact XL.out)
              clear eT ea hge etw
              go_wp2_with fail
              obtain ⟨wo, ewo⟩ : ∃ wo : World, wo = wr := ⟨_, rfl⟩
              subst ewo
              go_loopw [16, 17, 18] (fun n16 n17 n18 wz => ∃ (i c2 : Nat) (ys : List Nat), n16 = .int .u64 c2 ∧ n17 = .int .i64 i ∧ i ≤ n ∧ AddRel (xs.set n tw) vs n i c2 ys ∧ (∀ j, j ≤ n → wz.cell? ⟨bu, ou + j, none⟩ = some (.int .u32 ((ys.getD j 0 : Nat) : Int))) ∧ Tch bu ou n w wz) (fun _ n17 _ _ => n - (intOf n17).toNat)
              case atStart => exact ⟨0, 0, xs.set n tw, rfl, rfl, Nat.zero_le _, add_start HWL.out HWS.out, by rw [y1.out]; exact set_cells HC.out XL.out (Nat.le_refl _) _, HT.out.set (Nat.le_refl _) _⟩
              case round =>
                obtain ⟨i, c2, ys, rfl, rfl, hi, hR2, hc2, hT2⟩ := hrel
                have HR2 := Lib.hid hR2
                have HC2 := Lib.hid hc2
                have HT2 := Lib.hid hT2
                clear hR2 hc2 hT2
                by_cases hin : i < n
                · have cu1 := HC2.out i (by omega)
                  rw [HR2.out.rest i (Nat.le_refl _)] at cu1
                  have cv1 := HV.out i hin
                  rw [← HT2.out.cell bv (ov + i) (.inl hne)] at cv1
                  have f2 : wr.frozen? ⟨bu, ou + i, none⟩ = false := (HT2.out.frz _).trans (HF.out _)
                  have ub := sm_getD HWS.out i
                  have vb := sm_getD HVS.out i
                  obtain ⟨u, eu⟩ : ∃ u, u = (xs.set n tw).getD i 0 := ⟨_, rfl⟩
                  obtain ⟨v, ev⟩ : ∃ v, v = vs.getD i 0 := ⟨_, rfl⟩
                  rw [← eu] at cu1 ub
                  rw [← ev] at cv1 vb
                  have EU := Lib.hid eu
                  have EV := Lib.hid ev
                  have c21 := HR2.out.car
                  clear eu ev
                  have w5 : IntKind.u64.wrap ((u : Int) + (v : Int)) = (u : Int) + (v : Int) := by rw [IntKind.wrap_u64]; omega
                  have w6 : IntKind.u64.wrap ((u : Int) + (v : Int) + (c2 : Int)) = (u : Int) + (v : Int) + (c2 : Int) := by rw [IntKind.wrap_u64]; omega
                  have z1 := Lib.hid (show ((u : Int) + (v : Int) + (c2 : Int)) % 4294967296 = (((u + v + c2) % 4294967296 : Nat) : Int) from by omega)
                  have z2 := Lib.hid (show ((u : Int) + (v : Int) + (c2 : Int)) / 4294967296 = (((u + v + c2) / 4294967296 : Nat) : Int) from by omega)
                  have HST := Lib.hid (show AddRel (xs.set n tw) vs n (i + 1) ((u + v + c2) / 4294967296) (ys.set i ((u + v + c2) % 4294967296)) from by
                    have := add_step HR2.out HWS.out HVS.out hin hvl HWL.out
                    rw [← EU.out, ← EV.out] at this; exact this)
                  have YL := Lib.hid (show ys.length = n + 1 from HR2.out.len)
                  go_wp2_with fail
                  go_quiet (fail)
                  go_wp2_with fail
                  go_roundw
                  case rel =>
                    refine ⟨i + 1, (u + v + c2) / 4294967296, _, by rw [z2.out], by go_num, by omega, HST.out, ?_, ?_⟩
                    · rw [z1.out]
                      exact set_cells (w := wr.drewN _) (fun j hj => HC2.out j hj) YL.out (by omega) _
                    · exact (HT2.out.drewN _).set (by omega) _
                  case measure => (simp [intOf] <;> omega)
                · have hi3 : n = i := by omega
                  subst hi3
                  have FF := Lib.hid (fig_fin2 HR.out hul hvl FE.out HV0.out HVS.out (by rw [← EA.out]; have := HGE.out; omega) (by rw [← EA.out]; exact ETW.out) HR2.out)
                  obtain ⟨q1, q2, q3, q4, q5⟩ := FF.out
                  have ca2 := HC2.out n (Nat.le_refl _)
                  rw [q4] at ca2
                  have f2 : wr.frozen? ⟨bu, ou + n, none⟩ = false := (HT2.out.frz _).trans (HF.out _)
                  have YL := Lib.hid (show ys.length = n + 1 from HR2.out.len)
                  subst q3
                  have Q2 := Lib.hid q2
                  have g1i : (1 : Int) ≤ (g' : Int) := by omega
                  have Q1 := Lib.hid q1
                  clear q1 q2 q4 q5
                  go_wp2_with fail
                  go_ret
                  refine ⟨ys.set n 0, ?_, ?_, sm_set HR2.out.sm _ (by decide), FF.out.2.2.2.2, ?_, ?_⟩
                  · rw [← Q2.out]
                    have eg : ((g' - 1 : Nat) : Int) = (g' : Int) - 1 := by have := Q1.out; omega
                    rw [eg]
                    rfl
                  · rw [List.length_set]; exact YL.out
                  · exact set_cells HC2.out YL.out (Nat.le_refl _) 0
                  · exact HT2.out.set (Nat.le_refl _) _
      · have c3' : ¬ (4294967296 : Int) ≤ (r : Int) + (t : Int) := by omega
        have C3 := Lib.hid c3
        clear c3
        go_wp2_with fail
        go_roundw
        case rel => exact ⟨g', r + t, _, by go_num, by go_num, FB.out, ⟨FD.out.2.1, by have := C3.out; omega, FD.out.2.2⟩, rfl⟩
        case measure => (simp [intOf] <;> omega)
    · have c1' : ¬ (4294967296 : Int) ≤ (g : Int) := by omega
      have c1d : decide ((4294967296 : Int) ≤ (g : Int)) = false := by simpa using c1'
      have C1 := Lib.hid c1
      have hp : g * v2 < 18446744073709551616 := by
        have : g * v2 ≤ 4294967295 * 4294967295 := Nat.mul_le_mul (by omega) (by omega)
        omega
      have k7 : IntKind.u64.wrap ((g : Int) * (v2 : Int)) = (g : Int) * (v2 : Int) := by
        rw [IntKind.wrap_u64]
        have e : (g : Int) * (v2 : Int) = ((g * v2 : Nat) : Int) := (Int.natCast_mul g v2).symm
        rw [e]; omega
      clear c1 c1' hp
      by_cases c2 : r * 4294967296 + un2 < g * v2
      · have c2d : decide ((r : Int) * 4294967296 + (un2 : Int) < (g : Int) * (v2 : Int)) = true := by
          rw [decide_eq_true_eq]; exact fig_test.1 c2
        have C2 := Lib.hid c2
        have g0 : 0 < g := by
          rcases Nat.eq_zero_or_pos g with e | e
          · rw [e, Nat.zero_mul] at c2; exact absurd c2 (Nat.not_lt_zero _)
          · exact e
        have G0 := Lib.hid g0
        clear c2 g0
        go_wp2_with fail
        go_quiet (fail)
        clear k7 c2d c1d
        have g0 := G0.out
        obtain ⟨g', rfl⟩ : ∃ g', g = g' + 1 := ⟨g - 1, by omega⟩
        have FD := Lib.hid (fig_down HS.out HG.out (by exact .inr C2.out))
        have FB := Lib.hid (show g' < 18446744073709551616 from by have := HB.out; omega)
        by_cases c3 : 4294967296 ≤ r + t
        · have c3' : (4294967296 : Int) ≤ (r : Int) + (t : Int) := by omega
          have FE := Lib.hid (show FigE (wv us) (wv vs) g' from fig_out2 HS.out (FD.out.2.1) c3 (by omega) FD.out.2.2)
          clear c3 FD FB HG HB
          have gb := FE.out.b
          have hg' : (g' : Int) ≤ 4294967295 := by omega
          have HV0 := Lib.hid (show 0 < wv vs from by
            rcases Nat.eq_zero_or_pos (wv vs) with e | e
            · rw [e] at hlt; exact absurd hlt (Nat.not_lt_zero _)
            · exact e)
          clear hlt gb HS
          go_wp2_with fail
          go_loopw [10, 11, 12, 13, 14] (fun n10 n11 n12 n13 n14 wr => ∃ (i c bo : Nat) (xs : List Nat), n10 = .int .u64 c ∧ n11 = .int .u64 bo ∧ n12 = .int .i64 i ∧ i ≤ n ∧ SubRel us vs g' n i c bo xs ∧ (∀ j, j ≤ n → wr.cell? ⟨bu, ou + j, none⟩ = some (.int .u32 ((xs.getD j 0 : Nat) : Int))) ∧ Tch bu ou n w wr) (fun _ _ n12 _ _ _ => n - (intOf n12).toNat)
          case atStart => exact ⟨0, 0, 0, us, rfl, rfl, rfl, Nat.zero_le _, sub_start hul HUS.out, fun j hj => HU.out j hj, by first | exact (Tch.refl _ _ _ _).drewN _ | exact ((Tch.refl _ _ _ _).drewN _).drewN _⟩
          case round =>
            obtain ⟨i, c, bo, xs, rfl, rfl, rfl, hi, hR, hc, hT⟩ := hrel
            have HR := Lib.hid hR
            have HC := Lib.hid hc
            have HT := Lib.hid hT
            clear hR hc hT
            by_cases hin : i < n
            · have cu1 := HC.out i (by omega)
              rw [HR.out.rest i (Nat.le_refl _)] at cu1
              have cv1 := HV.out i hin
              rw [← HT.out.cell bv (ov + i) (.inl hne)] at cv1
              have f1 : wr.frozen? ⟨bu, ou + i, none⟩ = false := (HT.out.frz _).trans (HF.out _)
              obtain ⟨u, eu⟩ : ∃ u, u = us.getD i 0 := ⟨_, rfl⟩
              obtain ⟨v, ev⟩ : ∃ v, v = vs.getD i 0 := ⟨_, rfl⟩
              have ub := sm_getD HUS.out i
              have vb := sm_getD HVS.out i
              rw [← eu] at cu1 ub
              rw [← ev] at cv1 vb
              have EU := Lib.hid eu
              have EV := Lib.hid ev
              clear eu ev
              obtain ⟨p1, p2, x, bo', x1, x2, x3, x4, x5, x6⟩ := sub_word (g := g') (v := v) (c := c) (u := u) (bo := bo) (by omega) vb HR.out.car ub HR.out.bor
              have cb := HR.out.car
              obtain ⟨p, ep⟩ : ∃ p, p = g' * v + c := ⟨_, rfl⟩
              have EP := Lib.hid ep
              rw [← ep] at p1 p2 x3 x4 x5 x6
              have w1 : IntKind.u64.wrap ((g' : Int) * (v : Int)) = (g' : Int) * (v : Int) := by
                rw [IntKind.wrap_u64, ← Int.natCast_mul]
                have : g' * v < 18446744073709551616 := by omega
                omega
              have w2 : IntKind.u64.wrap ((g' : Int) * (v : Int) + (c : Int)) = (p : Int) := by
                rw [IntKind.wrap_u64, ← Int.natCast_mul]
                omega
              obtain ⟨m, em⟩ : ∃ m, m = p % 4294967296 := ⟨_, rfl⟩
              have w3 : bits .and .u64 (p : Int) 4294967295 = (m : Int) := by rw [and_mask p p1, em]
              obtain ⟨T, eT⟩ : ∃ T : Nat, (T : Int) = ((u : Int) - (m : Int) - (bo : Int)) % 18446744073709551616 := ⟨(((u : Int) - (m : Int) - (bo : Int)) % 18446744073709551616).toNat, by omega⟩
              have w4 : IntKind.u64.wrap (IntKind.u64.wrap ((u : Int) - (m : Int)) - (bo : Int)) = (T : Int) := by
                rw [IntKind.wrap_u64, IntKind.wrap_u64, eT]; omega
              rw [← em] at x3 x5 x6
              have y1 := Lib.hid (show (T : Int) % 4294967296 = (x : Int) from by rw [x5, eT]; omega)
              have y2 := Lib.hid (show (T : Int) / 9223372036854775808 = (bo' : Int) from by rw [x6, eT])
              have y3 := Lib.hid (show (p : Int) / 4294967296 = ((p / 4294967296 : Nat) : Int) from rfl)
              have HST := Lib.hid (show SubRel us vs g' n (i + 1) (p / 4294967296) bo' (xs.set i x) from by
                have := sub_step HR.out hin hvl hul x1 x2 (x := x) (bo' := bo') (by rw [← EV.out, ← EP.out]; exact p2) (by rw [← EV.out, ← EU.out, ← EP.out]; exact x4)
                rw [← EV.out, ← EP.out] at this
                exact this)
              have pb : (p : Int) ≤ 18446744073709551615 := by omega
              have Tb : (T : Int) ≤ 18446744073709551615 := by omega
              have XL := Lib.hid (show xs.length = n + 1 from HR.out.len)
              clear p1 p2 x1 x2 x3 x4 x5 x6 em eT ep
              go_wp2_with fail
              go_roundw
              case rel =>
                refine ⟨i + 1, p / 4294967296, bo', xs.set i x, by rw [y3.out], by rw [y2.out], by go_num, by omega, HST.out, ?_, ?_⟩
                · rw [y1.out]; exact set_cells HC.out XL.out (by omega) x
                · exact HT.out.set (by omega) _
              case measure => (simp [intOf] <;> omega)
            · have hi2 : n = i := by omega
              subst hi2
              have ca := HC.out n (Nat.le_refl _)
              rw [HR.out.rest n (Nat.le_refl _)] at ca
              have f1 : wr.frozen? ⟨bu, ou + n, none⟩ = false := (HT.out.frz _).trans (HF.out _)
              have ab := sm_getD HUS.out n
              obtain ⟨a, ea⟩ : ∃ a, a = us.getD n 0 := ⟨_, rfl⟩
              have EA := Lib.hid ea
              rw [← ea] at ca ab
              have cb := HR.out.car
              have bb := HR.out.bor
              have XL := Lib.hid (show xs.length = n + 1 from HR.out.len)
              obtain ⟨T, eT⟩ : ∃ T : Nat, (T : Int) = ((a : Int) - (c : Int) - (bo : Int)) % 18446744073709551616 := ⟨(((a : Int) - (c : Int) - (bo : Int)) % 18446744073709551616).toNat, by omega⟩
              have w4 : IntKind.u64.wrap (IntKind.u64.wrap ((a : Int) - (c : Int)) - (bo : Int)) = (T : Int) := by
                rw [IntKind.wrap_u64, IntKind.wrap_u64, eT]; omega
              have Tb : (T : Int) ≤ 18446744073709551615 := by omega
              by_cases hge : c + bo ≤ a
              · have y1 := Lib.hid (show (T : Int) % 4294967296 = ((a - c - bo : Nat) : Int) from by rw [eT]; omega)
                have y2 : ((T : Int) / 9223372036854775808 == 0) = true := by rw [beq_iff_eq, eT]; omega
                have FF := Lib.hid (fig_fin1 HR.out hul hvl FE.out HV0.out (by rw [← EA.out]; exact hge))
                have AB := Lib.hid (show a - c - bo < 4294967296 from by omega)
                clear eT ea hge
                go_wp2_with fail
                go_ret
                refine ⟨xs.set n (a - c - bo), ?_, ?_, sm_set HR.out.sm _ AB.out, ?_, ?_, ?_⟩
                · rw [← FF.out.1]; rfl
                · rw [List.length_set]; exact XL.out
                · rw [EA.out]; exact FF.out.2
                · rw [y1.out]; exact set_cells HC.out XL.out (Nat.le_refl _) _
                · exact HT.out.set (Nat.le_refl _) _
              · obtain ⟨tw, etw⟩ : ∃ tw, tw = (a + 4294967296 - (c + bo)) % 4294967296 := ⟨_, rfl⟩
                have y1 := Lib.hid (show (T : Int) % 4294967296 = (tw : Int) from by rw [eT, etw]; omega)
                have y2 : ((T : Int) / 9223372036854775808 == 0) = false := by
                  have : (T : Int) / 9223372036854775808 = 1 := by rw [eT]; omega
                  rw [this]; rfl
                have TW := Lib.hid (show tw < 4294967296 from by omega)
                have ETW := Lib.hid etw
                have HGE := Lib.hid hge
                have HWS := Lib.hid (show Sm (xs.set n tw) from sm_set HR.out.sm _ TW.out)
                have HWL := Lib.hid (show (xs.set n tw).length = n + 1 from by rw [List.length_set]; exact XL.out)
                clear eT ea hge etw
                go_wp2_with fail
                obtain ⟨wo, ewo⟩ : ∃ wo : World, wo = wr := ⟨_, rfl⟩
                subst ewo
                go_loopw [16, 17, 18] (fun n16 n17 n18 wz => ∃ (i c2 : Nat) (ys : List Nat), n16 = .int .u64 c2 ∧ n17 = .int .i64 i ∧ i ≤ n ∧ AddRel (xs.set n tw) vs n i c2 ys ∧ (∀ j, j ≤ n → wz.cell? ⟨bu, ou + j, none⟩ = some (.int .u32 ((ys.getD j 0 : Nat) : Int))) ∧ Tch bu ou n w wz) (fun _ n17 _ _ => n - (intOf n17).toNat)
                case atStart => exact ⟨0, 0, xs.set n tw, rfl, rfl, Nat.zero_le _, add_start HWL.out HWS.out, by rw [y1.out]; exact set_cells HC.out XL.out (Nat.le_refl _) _, HT.out.set (Nat.le_refl _) _⟩
                case round =>
                  obtain ⟨i, c2, ys, rfl, rfl, hi, hR2, hc2, hT2⟩ := hrel
                  have HR2 := Lib.hid hR2
                  have HC2 := Lib.hid hc2
                  have HT2 := Lib.hid hT2
                  clear hR2 hc2 hT2
                  by_cases hin : i < n
                  · have cu1 := HC2.out i (by omega)
                    rw [HR2.out.rest i (Nat.le_refl _)] at cu1
                    have cv1 := HV.out i hin
                    rw [← HT2.out.cell bv (ov + i) (.inl hne)] at cv1
                    have f2 : wr.frozen? ⟨bu, ou + i, none⟩ = false := (HT2.out.frz _).trans (HF.out _)
                    have ub := sm_getD HWS.out i
                    have vb := sm_getD HVS.out i
                    obtain ⟨u, eu⟩ : ∃ u, u = (xs.set n tw).getD i 0 := ⟨_, rfl⟩
                    obtain ⟨v, ev⟩ : ∃ v, v = vs.getD i 0 := ⟨_, rfl⟩
                    rw [← eu] at cu1 ub
                    rw [← ev] at cv1 vb
                    have EU := Lib.hid eu
                    have EV := Lib.hid ev
                    have c21 := HR2.out.car
                    clear eu ev
                    have w5 : IntKind.u64.wrap ((u : Int) + (v : Int)) = (u : Int) + (v : Int) := by rw [IntKind.wrap_u64]; omega
                    have w6 : IntKind.u64.wrap ((u : Int) + (v : Int) + (c2 : Int)) = (u : Int) + (v : Int) + (c2 : Int) := by rw [IntKind.wrap_u64]; omega
                    have z1 := Lib.hid (show ((u : Int) + (v : Int) + (c2 : Int)) % 4294967296 = (((u + v + c2) % 4294967296 : Nat) : Int) from by omega)
                    have z2 := Lib.hid (show ((u : Int) + (v : Int) + (c2 : Int)) / 4294967296 = (((u + v + c2) / 4294967296 : Nat) : Int) from by omega)
                    have HST := Lib.hid (show AddRel (xs.set n tw) vs n (i + 1) ((u + v + c2) / 4294967296) (ys.set i ((u + v + c2) % 4294967296)) from by
                      have := add_step HR2.out HWS.out HVS.out hin hvl HWL.out
                      rw [← EU.out, ← EV.out] at this; exact this)
                    have YL := Lib.hid (show ys.length = n + 1 from HR2.out.len)
                    go_wp2_with fail
                    go_quiet (fail)
                    go_wp2_with fail
                    go_roundw
                    case rel =>
                      refine ⟨i + 1, (u + v + c2) / 4294967296, _, by rw [z2.out], by go_num, by omega, HST.out, ?_, ?_⟩
                      · rw [z1.out]
                        exact set_cells (w := wr.drewN _) (fun j hj => HC2.out j hj) YL.out (by omega) _
                      · exact (HT2.out.drewN _).set (by omega) _
                    case measure => (simp [intOf] <;> omega)
                  · have hi3 : n = i := by omega
                    subst hi3
                    have FF := Lib.hid (fig_fin2 HR.out hul hvl FE.out HV0.out HVS.out (by rw [← EA.out]; have := HGE.out; omega) (by rw [← EA.out]; exact ETW.out) HR2.out)
                    obtain ⟨q1, q2, q3, q4, q5⟩ := FF.out
                    have ca2 := HC2.out n (Nat.le_refl _)
                    rw [q4] at ca2
                    have f2 : wr.frozen? ⟨bu, ou + n, none⟩ = false := (HT2.out.frz _).trans (HF.out _)
                    have YL := Lib.hid (show ys.length = n + 1 from HR2.out.len)
                    subst q3
                    have Q2 := Lib.hid q2
                    have g1i : (1 : Int) ≤ (g' : Int) := by omega
                    have Q1 := Lib.hid q1
                    clear q1 q2 q4 q5
                    go_wp2_with fail
                    go_ret
                    refine ⟨ys.set n 0, ?_, ?_, sm_set HR2.out.sm _ (by decide), FF.out.2.2.2.2, ?_, ?_⟩
                    · rw [← Q2.out]
                      have eg : ((g' - 1 : Nat) : Int) = (g' : Int) - 1 := by have := Q1.out; omega
                      rw [eg]
                      rfl
                    · rw [List.length_set]; exact YL.out
                    · exact set_cells HC2.out YL.out (Nat.le_refl _) 0
                    · exact HT2.out.set (Nat.le_refl _) _
        · have c3' : ¬ (4294967296 : Int) ≤ (r : Int) + (t : Int) := by omega
          have C3 := Lib.hid c3
          clear c3
          go_wp2_with fail
          go_roundw
          case rel => exact ⟨g', r + t, _, by go_num, by go_num, FB.out, ⟨FD.out.2.1, by have := C3.out; omega, FD.out.2.2⟩, rfl⟩
          case measure => (simp [intOf] <;> omega)
      · have c2d : decide ((r : Int) * 4294967296 + (un2 : Int) < (g : Int) * (v2 : Int)) = false := by
          rw [decide_eq_false_iff_not]; intro h; exact c2 (fig_test.2 h)
        have FE := Lib.hid (show FigE (wv us) (wv vs) g from fig_out1 HS.out HG.out (by have := C1.out; omega) (by omega))
        clear c2
        go_wp2_with fail
        go_quiet (fail)
        clear k7 c2d c1d
        have gb := FE.out.b
        have hg' : (g : Int) ≤ 4294967295 := by omega
        have HV0 := Lib.hid (show 0 < wv vs from by
          rcases Nat.eq_zero_or_pos (wv vs) with e | e
          · rw [e] at hlt; exact absurd hlt (Nat.not_lt_zero _)
          · exact e)
        clear hlt gb HS
        go_wp2_with fail
        go_loopw [10, 11, 12, 13, 14] (fun n10 n11 n12 n13 n14 wr => ∃ (i c bo : Nat) (xs : List Nat), n10 = .int .u64 c ∧ n11 = .int .u64 bo ∧ n12 = .int .i64 i ∧ i ≤ n ∧ SubRel us vs g n i c bo xs ∧ (∀ j, j ≤ n → wr.cell? ⟨bu, ou + j, none⟩ = some (.int .u32 ((xs.getD j 0 : Nat) : Int))) ∧ Tch bu ou n w wr) (fun _ _ n12 _ _ _ => n - (intOf n12).toNat)
        case atStart => exact ⟨0, 0, 0, us, rfl, rfl, rfl, Nat.zero_le _, sub_start hul HUS.out, fun j hj => HU.out j hj, by first | exact (Tch.refl _ _ _ _).drewN _ | exact ((Tch.refl _ _ _ _).drewN _).drewN _⟩
        case round =>
          obtain ⟨i, c, bo, xs, rfl, rfl, rfl, hi, hR, hc, hT⟩ := hrel
          have HR := Lib.hid hR
          have HC := Lib.hid hc
          have HT := Lib.hid hT
          clear hR hc hT
          by_cases hin : i < n
          · have cu1 := HC.out i (by omega)
            rw [HR.out.rest i (Nat.le_refl _)] at cu1
            have cv1 := HV.out i hin
            rw [← HT.out.cell bv (ov + i) (.inl hne)] at cv1
            have f1 : wr.frozen? ⟨bu, ou + i, none⟩ = false := (HT.out.frz _).trans (HF.out _)
            obtain ⟨u, eu⟩ : ∃ u, u = us.getD i 0 := ⟨_, rfl⟩
            obtain ⟨v, ev⟩ : ∃ v, v = vs.getD i 0 := ⟨_, rfl⟩
            have ub := sm_getD HUS.out i
            have vb := sm_getD HVS.out i
            rw [← eu] at cu1 ub
            rw [← ev] at cv1 vb
            have EU := Lib.hid eu
            have EV := Lib.hid ev
            clear eu ev
            obtain ⟨p1, p2, x, bo', x1, x2, x3, x4, x5, x6⟩ := sub_word (g := g) (v := v) (c := c) (u := u) (bo := bo) (by omega) vb HR.out.car ub HR.out.bor
            have cb := HR.out.car
            obtain ⟨p, ep⟩ : ∃ p, p = g * v + c := ⟨_, rfl⟩
            have EP := Lib.hid ep
            rw [← ep] at p1 p2 x3 x4 x5 x6
            have w1 : IntKind.u64.wrap ((g : Int) * (v : Int)) = (g : Int) * (v : Int) := by
              rw [IntKind.wrap_u64, ← Int.natCast_mul]
              have : g * v < 18446744073709551616 := by omega
              omega
            have w2 : IntKind.u64.wrap ((g : Int) * (v : Int) + (c : Int)) = (p : Int) := by
              rw [IntKind.wrap_u64, ← Int.natCast_mul]
              omega
            obtain ⟨m, em⟩ : ∃ m, m = p % 4294967296 := ⟨_, rfl⟩
            have w3 : bits .and .u64 (p : Int) 4294967295 = (m : Int) := by rw [and_mask p p1, em]
            obtain ⟨T, eT⟩ : ∃ T : Nat, (T : Int) = ((u : Int) - (m : Int) - (bo : Int)) % 18446744073709551616 := ⟨(((u : Int) - (m : Int) - (bo : Int)) % 18446744073709551616).toNat, by omega⟩
            have w4 : IntKind.u64.wrap (IntKind.u64.wrap ((u : Int) - (m : Int)) - (bo : Int)) = (T : Int) := by
              rw [IntKind.wrap_u64, IntKind.wrap_u64, eT]; omega
            rw [← em] at x3 x5 x6
            have y1 := Lib.hid (show (T : Int) % 4294967296 = (x : Int) from by rw [x5, eT]; omega)
            have y2 := Lib.hid (show (T : Int) / 9223372036854775808 = (bo' : Int) from by rw [x6, eT])
            have y3 := Lib.hid (show (p : Int) / 4294967296 = ((p / 4294967296 : Nat) : Int) from rfl)
            have HST := Lib.hid (show SubRel us vs g n (i + 1) (p / 4294967296) bo' (xs.set i x) from by
              have := sub_step HR.out hin hvl hul x1 x2 (x := x) (bo' := bo') (by rw [← EV.out, ← EP.out]; exact p2) (by rw [← EV.out, ← EU.out, ← EP.out]; exact x4)
              rw [← EV.out, ← EP.out] at this
              exact this)
            have pb : (p : Int) ≤ 18446744073709551615 := by omega
            have Tb : (T : Int) ≤ 18446744073709551615 := by omega
            have XL := Lib.hid (show xs.length = n + 1 from HR.out.len)
            clear p1 p2 x1 x2 x3 x4 x5 x6 em eT ep
            go_wp2_with fail
            go_roundw
            case rel =>
              refine ⟨i + 1, p / 4294967296, bo', xs.set i x, by rw [y3.out], by rw [y2.out], by go_num, by omega, HST.out, ?_, ?_⟩
              · rw [y1.out]; exact set_cells HC.out XL.out (by omega) x
              · exact HT.out.set (by omega) _
            case measure => (simp [intOf] <;> omega)
          · have hi2 : n = i := by omega
            subst hi2
            have ca := HC.out n (Nat.le_refl _)
            rw [HR.out.rest n (Nat.le_refl _)] at ca
            have f1 : wr.frozen? ⟨bu, ou + n, none⟩ = false := (HT.out.frz _).trans (HF.out _)
            have ab := sm_getD HUS.out n
            obtain ⟨a, ea⟩ : ∃ a, a = us.getD n 0 := ⟨_, rfl⟩
            have EA := Lib.hid ea
            rw [← ea] at ca ab
            have cb := HR.out.car
            have bb := HR.out.bor
            have XL := Lib.hid (show xs.length = n + 1 from HR.out.len)
            obtain ⟨T, eT⟩ : ∃ T : Nat, (T : Int) = ((a : Int) - (c : Int) - (bo : Int)) % 18446744073709551616 := ⟨(((a : Int) - (c : Int) - (bo : Int)) % 18446744073709551616).toNat, by omega⟩
            have w4 : IntKind.u64.wrap (IntKind.u64.wrap ((a : Int) - (c : Int)) - (bo : Int)) = (T : Int) := by
              rw [IntKind.wrap_u64, IntKind.wrap_u64, eT]; omega
            have Tb : (T : Int) ≤ 18446744073709551615 := by omega
            by_cases hge : c + bo ≤ a
            · have y1 := Lib.hid (show (T : Int) % 4294967296 = ((a - c - bo : Nat) : Int) from by rw [eT]; omega)
              have y2 : ((T : Int) / 9223372036854775808 == 0) = true := by rw [beq_iff_eq, eT]; omega
              have FF := Lib.hid (fig_fin1 HR.out hul hvl FE.out HV0.out (by rw [← EA.out]; exact hge))
              have AB := Lib.hid (show a - c - bo < 4294967296 from by omega)
              clear eT ea hge
              go_wp2_with fail
              go_ret
              refine ⟨xs.set n (a - c - bo), ?_, ?_, sm_set HR.out.sm _ AB.out, ?_, ?_, ?_⟩
              · rw [← FF.out.1]; rfl
              · rw [List.length_set]; exact XL.out
              · rw [EA.out]; exact FF.out.2
              · rw [y1.out]; exact set_cells HC.out XL.out (Nat.le_refl _) _
              · exact HT.out.set (Nat.le_refl _) _
            · obtain ⟨tw, etw⟩ : ∃ tw, tw = (a + 4294967296 - (c + bo)) % 4294967296 := ⟨_, rfl⟩
              have y1 := Lib.hid (show (T : Int) % 4294967296 = (tw : Int) from by rw [eT, etw]; omega)
              have y2 : ((T : Int) / 9223372036854775808 == 0) = false := by
                have : (T : Int) / 9223372036854775808 = 1 := by rw [eT]; omega
                rw [this]; rfl
              have TW := Lib.hid (show tw < 4294967296 from by omega)
              have ETW := Lib.hid etw
              have HGE := Lib.hid hge
              have HWS := Lib.hid (show Sm (xs.set n tw) from sm_set HR.out.sm _ TW.out)
              have HWL := Lib.hid (show (xs.set n tw).length = n + 1 from by rw [List.length_set]; exact XL.out)
              clear eT ea hge etw
              go_wp2_with fail
              obtain ⟨wo, ewo⟩ : ∃ wo : World, wo = wr := ⟨_, rfl⟩
              subst ewo
              go_loopw [16, 17, 18] (fun n16 n17 n18 wz => ∃ (i c2 : Nat) (ys : List Nat), n16 = .int .u64 c2 ∧ n17 = .int .i64 i ∧ i ≤ n ∧ AddRel (xs.set n tw) vs n i c2 ys ∧ (∀ j, j ≤ n → wz.cell? ⟨bu, ou + j, none⟩ = some (.int .u32 ((ys.getD j 0 : Nat) : Int))) ∧ Tch bu ou n w wz) (fun _ n17 _ _ => n - (intOf n17).toNat)
              case atStart => exact ⟨0, 0, xs.set n tw, rfl, rfl, Nat.zero_le _, add_start HWL.out HWS.out, by rw [y1.out]; exact set_cells HC.out XL.out (Nat.le_refl _) _, HT.out.set (Nat.le_refl _) _⟩
              case round =>
                obtain ⟨i, c2, ys, rfl, rfl, hi, hR2, hc2, hT2⟩ := hrel
                have HR2 := Lib.hid hR2
                have HC2 := Lib.hid hc2
                have HT2 := Lib.hid hT2
                clear hR2 hc2 hT2
                by_cases hin : i < n
                · have cu1 := HC2.out i (by omega)
                  rw [HR2.out.rest i (Nat.le_refl _)] at cu1
                  have cv1 := HV.out i hin
                  rw [← HT2.out.cell bv (ov + i) (.inl hne)] at cv1
                  have f2 : wr.frozen? ⟨bu, ou + i, none⟩ = false := (HT2.out.frz _).trans (HF.out _)
                  have ub := sm_getD HWS.out i
                  have vb := sm_getD HVS.out i
                  obtain ⟨u, eu⟩ : ∃ u, u = (xs.set n tw).getD i 0 := ⟨_, rfl⟩
                  obtain ⟨v, ev⟩ : ∃ v, v = vs.getD i 0 := ⟨_, rfl⟩
                  rw [← eu] at cu1 ub
                  rw [← ev] at cv1 vb
                  have EU := Lib.hid eu
                  have EV := Lib.hid ev
                  have c21 := HR2.out.car
                  clear eu ev
                  have w5 : IntKind.u64.wrap ((u : Int) + (v : Int)) = (u : Int) + (v : Int) := by rw [IntKind.wrap_u64]; omega
                  have w6 : IntKind.u64.wrap ((u : Int) + (v : Int) + (c2 : Int)) = (u : Int) + (v : Int) + (c2 : Int) := by rw [IntKind.wrap_u64]; omega
                  have z1 := Lib.hid (show ((u : Int) + (v : Int) + (c2 : Int)) % 4294967296 = (((u + v + c2) % 4294967296 : Nat) : Int) from by omega)
                  have z2 := Lib.hid (show ((u : Int) + (v : Int) + (c2 : Int)) / 4294967296 = (((u + v + c2) / 4294967296 : Nat) : Int) from by omega)
                  have HST := Lib.hid (show AddRel (xs.set n tw) vs n (i + 1) ((u + v + c2) / 4294967296) (ys.set i ((u + v + c2) % 4294967296)) from by
                    have := add_step HR2.out HWS.out HVS.out hin hvl HWL.out
                    rw [← EU.out, ← EV.out] at this; exact this)
                  have YL := Lib.hid (show ys.length = n + 1 from HR2.out.len)
                  go_wp2_with fail
                  go_quiet (fail)
                  go_wp2_with fail
                  go_roundw
                  case rel =>
                    refine ⟨i + 1, (u + v + c2) / 4294967296, _, by rw [z2.out], by go_num, by omega, HST.out, ?_, ?_⟩
                    · rw [z1.out]
                      exact set_cells (w := wr.drewN _) (fun j hj => HC2.out j hj) YL.out (by omega) _
                    · exact (HT2.out.drewN _).set (by omega) _
                  case measure => (simp [intOf] <;> omega)
                · have hi3 : n = i := by omega
                  subst hi3
                  have FF := Lib.hid (fig_fin2 HR.out hul hvl FE.out HV0.out HVS.out (by rw [← EA.out]; have := HGE.out; omega) (by rw [← EA.out]; exact ETW.out) HR2.out)
                  obtain ⟨q1, q2, q3, q4, q5⟩ := FF.out
                  have ca2 := HC2.out n (Nat.le_refl _)
                  rw [q4] at ca2
                  have f2 : wr.frozen? ⟨bu, ou + n, none⟩ = false := (HT2.out.frz _).trans (HF.out _)
                  have YL := Lib.hid (show ys.length = n + 1 from HR2.out.len)
                  subst q3
                  have Q2 := Lib.hid q2
                  have g1i : (1 : Int) ≤ (g : Int) := by omega
                  have Q1 := Lib.hid q1
                  clear q1 q2 q4 q5
                  go_wp2_with fail
                  go_ret
                  refine ⟨ys.set n 0, ?_, ?_, sm_set HR2.out.sm _ (by decide), FF.out.2.2.2.2, ?_, ?_⟩
                  · rw [← Q2.out]
                    have eg : ((g - 1 : Nat) : Int) = (g : Int) - 1 := by have := Q1.out; omega
                    rw [eg]
                    rfl
                  · rw [List.length_set]; exact YL.out
                  · exact set_cells HC2.out YL.out (Nat.le_refl _) 0
                  · exact HT2.out.set (Nat.le_refl _) _
end Go.Proofs.Ytcfkhhnkboealaa
