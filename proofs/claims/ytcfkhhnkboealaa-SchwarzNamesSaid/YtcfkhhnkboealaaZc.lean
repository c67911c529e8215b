/- Half planes bent to polygons: places, sums, the slope. -/
import Derived.Test.YtcfkhhnkboealaaZb
import Derived.Deep.RegionHeld3
namespace Go.Proofs.Ytcfkhhnkboealaa
open Go.RowKit
set_option linter.unusedVariables false
set_option linter.unusedSimpArgs false
set_option maxRecDepth 100000
set_option maxHeartbeats 4000000
section
variable {x y z t s f g h k p : Nat} (hx : Rep x f) (hy : Rep y g) (hz : Rep z h) (ht : Rep t k) (hs : Rep s p) (w : World)
include hx hy
theorem upperOk_c (h1 : (within f 4787326403894837248 && within g 4787326403894837248) = true) (h2 : Proofs.Ytcfkhhnkboealaa.flt g 0 = false) : Calls Try.prog 134 #[.complex .f64 x y] w (RetI .i64 0 w) := by
  have q := hy.lt' Rep.c0
  rw [h2] at q
  have H1 := Lib.hid h1
  have k40 := Rep.c40
  clear h1 h2
  go_enter Try.func134, Try.ntmps134
  go_wp2_with (first | (go_at_call 125; (with_reducible refine (cwithin_c hx hy k40 _).mono ?_); rw [H1.out]; rintro e w' ⟨n1, rfl, rfl⟩))
  go_ret
  exact RetI.mk _ rfl
theorem upperLow_c (h1 : (within f 4787326403894837248 && within g 4787326403894837248) = true) (h2 : Proofs.Ytcfkhhnkboealaa.flt g 0 = true) : Calls Try.prog 134 #[.complex .f64 x y] w (RetI .i64 6 w) := by
  have q := hy.lt' Rep.c0
  rw [h2] at q
  have H1 := Lib.hid h1
  have k40 := Rep.c40
  clear h1 h2
  go_enter Try.func134, Try.ntmps134
  go_wp2_with (first | (go_at_call 125; (with_reducible refine (cwithin_c hx hy k40 _).mono ?_); rw [H1.out]; rintro e w' ⟨n1, rfl, rfl⟩))
  go_ret
  exact RetI.mk _ rfl
theorem upperWild_c (h1 : (within f 4787326403894837248 && within g 4787326403894837248) = false) : Calls Try.prog 134 #[.complex .f64 x y] w (RetI .i64 5 w) := by
  have H1 := Lib.hid h1
  have k40 := Rep.c40
  clear h1
  go_enter Try.func134, Try.ntmps134
  go_wp2_with (first | (go_at_call 125; (with_reducible refine (cwithin_c hx hy k40 _).mono ?_); rw [H1.out]; rintro e w' ⟨n1, rfl, rfl⟩))
  go_ret
  exact RetI.mk _ rfl
theorem placed_c (h1 : (fin f && fin g) = true) : Calls Try.prog 135 #[.complex .f64 x y] w (fun e w' => ∃ n, e = .returned (.tuple #[.complex .f64 x y, .int .i64 0]) ∧ w' = w.drewN n) := by
  have H1 := Lib.hid h1
  clear h1
  go_enter Try.func135, Try.ntmps135
  go_wp2_with (first | (go_at_call 61; (with_reducible refine (cfinite_c hx hy _).mono ?_); rw [H1.out]; rintro e w' ⟨n1, rfl, rfl⟩))
  go_ret2
  exact ⟨_, rfl, rfl⟩
theorem placedNo_c (h1 : (fin f && fin g) = false) : Calls Try.prog 135 #[.complex .f64 x y] w (fun e w' => ∃ n, e = .returned (.tuple #[.complex .f64 0 0, .int .i64 6]) ∧ w' = w.drewN n) := by
  have H1 := Lib.hid h1
  clear h1
  go_enter Try.func135, Try.ntmps135
  go_wp2_with (first | (go_at_call 61; (with_reducible refine (cfinite_c hx hy _).mono ?_); rw [H1.out]; rintro e w' ⟨n1, rfl, rfl⟩))
  go_ret2
  exact ⟨_, rfl, rfl⟩
include hz ht
theorem cadd_c : Calls Try.prog 124 #[.complex .f64 x y, .complex .f64 z t] w (RetC (fadd f h) (fadd g k) w) := by
  go_enter Try.func124, Try.ntmps124
  go_wp2
  go_ret
  exact RetC.mk _ (hx.add hz) (hy.add ht)
include hs
theorem along_c : Calls Try.prog 165 #[.complex .f64 x y, .complex .f64 z t, .float .f64 s] w (RetC (fadd f (fmul p h)) (fadd g (fmul p k)) w) := by
  go_enter Try.func165, Try.ntmps165
  go_wp2
  go_ret
  exact RetC.mk _ (hx.add (hs.mul hz)) (hy.add (hs.mul ht))
end
theorem countYes_c {n : Int} (h1 : 1 ≤ n) (h2 : n ≤ 16384) (w : World) : Calls Try.prog 137 #[.int .i64 n] w (RetB true w) := by
  go_enter Try.func137, Try.ntmps137
  go_wp2
  go_ret
  exact RetB.mk0 (by simp)
theorem countLow_c {n : Int} (h1 : n < 1) (w : World) : Calls Try.prog 137 #[.int .i64 n] w (RetB false w) := by
  go_enter Try.func137, Try.ntmps137
  go_wp2
  go_ret
  exact RetB.mk0 (by simp)
theorem countHigh_c {n : Int} (h1 : 16384 < n) (w : World) : Calls Try.prog 137 #[.int .i64 n] w (RetB false w) := by
  have h2 : ¬ n ≤ 16384 := by omega
  have h3 : 1 ≤ n := by omega
  go_enter Try.func137, Try.ntmps137
  go_wp2
  go_ret
  exact RetB.mk0 (by simp)
/-- a row of numbers, added from the left. -/
def sumC (F : Nat → Nat) : Nat → Nat
  | 0 => F 0
  | k + 1 => fadd (sumC F k) (F (k + 1))
theorem psum_c {b n : Nat} {w : World} (F G : Nat → Nat) (h0 : 0 < n) (hn : n ≤ 1000000) (hc : ∀ j, j < n → ∃ r s, w.cell? ⟨b, j, none⟩ = some (.complex .f64 r s) ∧ Rep r (F j) ∧ Rep s (G j)) :
    Calls Try.prog 127 #[.slice (some ⟨b, 0, none⟩) n n] w (RetC (sumC F (n - 1)) (sumC G (n - 1)) w) := by
  have HC := Lib.hid hc
  have h5 : (0 : Int) < n := by omega
  clear hc
  go_enter Try.func127, Try.ntmps127
  go_wp2
  go_loopw [3, 7] (fun s i wr => ∃ k d r t : Nat, k ≤ n ∧ i = .int .i64 k ∧ s = .complex .f64 r t ∧ wr = w.drewN d ∧ (0 < k → RowKit.Hid (Rep r (sumC F (k - 1)) ∧ Rep t (sumC G (k - 1))))) (fun _ i _ => n - (intOf i).toNat)
  case atStart => exact ⟨0, 0, 0, 0, by omega, rfl, rfl, rfl, fun h => by omega⟩
  case round =>
    obtain ⟨k, d, r, t, hk, rfl, rfl, rfl, hrep⟩ := hrel
    by_cases hlt : k < n
    · obtain ⟨x, y, c0, q1, q2⟩ := HC.out k hlt
      rcases k with _ | j
      · clear hrep
        go_wp2
        go_roundw
        case rel => exact ⟨1, _, _, _, by omega, rfl, rfl, rfl, fun _ => Lib.hid ⟨q1, q2⟩⟩
        case measure => simp [intOf]; omega
      · have hh := hrep (by omega)
        clear hrep
        have hk1 : ((j : Int) + 1).toNat = j + 1 := by omega
        have hj1 : (j : Int) + 1 < n := by omega
        have hj0 : ¬ (j : Int) + 1 = 0 := by omega
        obtain ⟨f, ef⟩ : ∃ f, F (j + 1) = f := ⟨_, rfl⟩
        obtain ⟨g, eg⟩ : ∃ g, G (j + 1) = g := ⟨_, rfl⟩
        have HE := Lib.hid (And.intro ef eg)
        rw [ef] at q1
        rw [eg] at q2
        clear ef eg
        go_wp2_with (first | (go_at_call 124; (with_reducible refine (cadd_c hh.out.1 hh.out.2 q1 q2 _).mono ?_); rintro e w' ⟨u, v, n2, rfl, hu, hv, rfl⟩))
        go_roundw
        case rel =>
          refine ⟨j + 1 + 1, _, _, _, by omega, by go_num, rfl, rfl, fun _ => Lib.hid ?_⟩
          rw [show j + 1 + 1 - 1 = j + 1 by omega, sumC, sumC, HE.out.1, HE.out.2]
          exact ⟨hu, hv⟩
        case measure => simp [intOf]; omega
    · have hkn : k = n := by omega
      have hh := hrep (by omega)
      rw [hkn] at hh
      clear hrep
      go_wp2
      go_ret
      exact RetC.mk _ hh.out.1 hh.out.2
end Go.Proofs.Ytcfkhhnkboealaa
