/- Half planes bent to polygons: which map may not be. -/
import Derived.Test.YtcfkhhnkboealaaZb
namespace Go.Proofs.Ytcfkhhnkboealaa
open Go.RowKit
set_option linter.unusedVariables false
set_option linter.unusedSimpArgs false
set_option maxRecDepth 100000
set_option maxHeartbeats 4000000
theorem polyBad_c {w : World} {b cap n b2 c2 m : Nat} {xs fs ys gs : List Nat} (h : FW w b cap xs fs) (hn : xs.length = n) (k : FW w b2 c2 ys gs) (kn : ys.length = n) (h1 : 3 ≤ n) (h2 : n ≤ 16) (hw : okL fs = true) (kw : okL gs = true)
    (hg : ∀ j, j < m + 1 → goodP fs gs j = true) (hm : m + 1 < n) (b1 : fle (gs.getD (m + 1) 0) 0 = false) (b2' : fle 4611686018427387904 (gs.getD (m + 1) 0) = false) (b3 : fle (fs.getD (m + 1) 0) (fs.getD m 0) = true) : Calls Try.prog 79 #[.slice (some ⟨b, 0, none⟩) n cap, .slice (some ⟨b2, 0, none⟩) n c2] w (RetI .i64 190 w) := by
  have h3 : ¬ (n : Int) < 3 := by omega
  have h4 : ¬ (16 : Int) < n := by omega
  have h5 : (0 : Int) < n := by omega
  have HR := Lib.hid (reals_c h hn)
  have HW := Lib.hid hw
  have KR := Lib.hid fun d => reals_c (k.up ((GrW.refl w).drewN d)) kn
  have KW := Lib.hid kw
  have H := Lib.hid h
  have K := Lib.hid k
  have hcap := h.lc
  have htop := h.top
  have kcap := k.lc
  have ktop := k.top
  rw [hn] at hcap
  rw [kn] at kcap
  have HG := Lib.hid hg
  have HB := Lib.hid (And.intro b1 (And.intro b2' b3))
  have HN := Lib.hid hn
  have KN := Lib.hid kn
  clear h hw k kw hg b1 b2' b3 hn kn
  go_enter Try.func79, Try.ntmps79
  go_wp2_with (first | (go_at_call 133; (with_reducible refine (HR.out).mono ?_); rw [HW.out]; rintro e w' ⟨n1, rfl, rfl⟩) | (go_at_call 133; (with_reducible refine (KR.out _).mono ?_); rw [KW.out]; rintro e w' ⟨n2, rfl, rfl⟩))
  go_loopw [32] (fun i wr => ∃ k d : Nat, k ≤ m + 1 ∧ i = .int .i64 k ∧ wr = w.drewN d) (fun i _ => n - (intOf i).toNat)
  case atStart => exact ⟨0, _, by omega, rfl, rfl⟩
  case round =>
    obtain ⟨k, d, hk, rfl, rfl⟩ := hrel
    have hlt : k < n := by omega
    have r := K.out.rep k (by rw [KN.out]; exact hlt)
    have c0 := K.out.cell k (by rw [KN.out]; exact hlt)
    rcases k with _ | j
    · obtain ⟨g1, g2⟩ := goodP_first (HG.out 0 (by omega))
      have q1 := r.le' Rep.c0
      have q2 := r.ge' Rep.two
      rw [g1] at q1
      rw [g2] at q2
      clear g1 g2 r
      obtain ⟨y, ey⟩ : ∃ y, ys.getD 0 0 = y := ⟨_, rfl⟩
      rw [ey] at c0 q1 q2
      clear ey
      go_wp2
      go_quiet (fail)
      go_wp2
      go_roundw
      case rel => exact ⟨1, _, by omega, rfl, rfl⟩
      case measure => simp [intOf]; omega
    · have c1 := H.out.cell (j + 1) (by rw [HN.out]; exact hlt)
      have c2 := H.out.cell j (by rw [HN.out]; omega)
      have q1 := r.le' Rep.c0
      have q2 := r.ge' Rep.two
      have q3 := (H.out.rep (j + 1) (by rw [HN.out]; exact hlt)).le' (H.out.rep j (by rw [HN.out]; omega))
      have hk1 : ((j : Int) + 1).toNat = j + 1 := by omega
      have hj0 : (0 : Int) < (j : Int) + 1 := by omega
      have hj1 : (j : Int) + 1 < n := by omega
      have hj2 : (j : Int) < n := by omega
      by_cases hjm : j < m
      · obtain ⟨g1, g2, g3⟩ := goodP_next (HG.out (j + 1) (by omega))
        rw [g1] at q1
        rw [g2] at q2
        rw [g3] at q3
        clear g1 g2 g3 r
        obtain ⟨y, ey⟩ : ∃ y, ys.getD (j + 1) 0 = y := ⟨_, rfl⟩
        rw [ey] at c0 q1 q2
        obtain ⟨x, ex⟩ : ∃ x, xs.getD (j + 1) 0 = x := ⟨_, rfl⟩
        rw [ex] at c1 q3
        obtain ⟨x', ex'⟩ : ∃ x, xs.getD j 0 = x := ⟨_, rfl⟩
        rw [ex'] at c2 q3
        clear ey ex ex'
        go_wp2
        go_quiet (fail)
        go_wp2
        go_roundw
        case rel => exact ⟨j + 1 + 1, _, by omega, by go_num, rfl⟩
        case measure => simp [intOf]; omega
      · obtain rfl : j = m := by omega
        rw [HB.out.1] at q1
        rw [HB.out.2.1] at q2
        rw [HB.out.2.2] at q3
        clear r
        obtain ⟨y, ey⟩ : ∃ y, ys.getD (j + 1) 0 = y := ⟨_, rfl⟩
        rw [ey] at c0 q1 q2
        obtain ⟨x, ex⟩ : ∃ x, xs.getD (j + 1) 0 = x := ⟨_, rfl⟩
        rw [ex] at c1 q3
        obtain ⟨x', ex'⟩ : ∃ x, xs.getD j 0 = x := ⟨_, rfl⟩
        rw [ex'] at c2 q3
        clear ey ex ex'
        go_wp2
        go_quiet (fail)
        go_wp2
        go_ret
        exact ⟨d + nq, rfl, World.drewN_drewN _ _ _⟩
end Go.Proofs.Ytcfkhhnkboealaa
