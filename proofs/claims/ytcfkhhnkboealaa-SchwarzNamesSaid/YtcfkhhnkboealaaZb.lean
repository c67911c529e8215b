/- Half planes bent to polygons: which maps may be. -/
import Derived.Test.YtcfkhhnkboealaaZa
namespace Go.Proofs.Ytcfkhhnkboealaa
open Go.RowKit
set_option linter.unusedVariables false
set_option linter.unusedSimpArgs false
set_option maxRecDepth 100000
set_option maxHeartbeats 4000000
theorem polyFew_c {a a2 : Option Addr} {n c m c2 : Nat} (h : n < 3 ∨ 16 < n) (w : World) : Calls Try.prog 79 #[.slice a n c, .slice a2 m c2] w (RetI .i64 4 w) := by
  rcases h with h | h
  · have h1 : (n : Int) < 3 := by omega
    go_enter Try.func79, Try.ntmps79
    go_wp2
    go_ret
    exact RetI.mk0 rfl
  · have h1 : ¬ (n : Int) < 3 := by omega
    have h2 : (16 : Int) < n := by omega
    go_enter Try.func79, Try.ntmps79
    go_wp2
    go_ret
    exact RetI.mk0 rfl
theorem polyWild_c {w : World} {b cap n m c2 : Nat} {a2 : Option Addr} {xs fs : List Nat} (h : FW w b cap xs fs) (hn : xs.length = n) (h1 : 3 ≤ n) (h2 : n ≤ 16) (hw : okL fs = false) : Calls Try.prog 79 #[.slice (some ⟨b, 0, none⟩) n cap, .slice a2 m c2] w (RetI .i64 5 w) := by
  have h3 : ¬ (n : Int) < 3 := by omega
  have h4 : ¬ (16 : Int) < n := by omega
  have HR := Lib.hid (reals_c h hn)
  have HW := Lib.hid hw
  clear h hw
  go_enter Try.func79, Try.ntmps79
  go_wp2_with (first | (go_at_call 133; (with_reducible refine (HR.out).mono ?_); rw [HW.out]; rintro e w' ⟨n1, rfl, rfl⟩))
  go_ret
  exact RetI.mk _ rfl
theorem polyUneven_c {w : World} {b cap n m c2 : Nat} {a2 : Option Addr} {xs fs : List Nat} (h : FW w b cap xs fs) (hn : xs.length = n) (h1 : 3 ≤ n) (h2 : n ≤ 16) (hw : okL fs = true) (hm : m ≠ n) : Calls Try.prog 79 #[.slice (some ⟨b, 0, none⟩) n cap, .slice a2 m c2] w (RetI .i64 4 w) := by
  have h3 : ¬ (n : Int) < 3 := by omega
  have h4 : ¬ (16 : Int) < n := by omega
  have h5 : ¬ (m : Int) = n := by omega
  have HR := Lib.hid (reals_c h hn)
  have HW := Lib.hid hw
  clear h hw
  go_enter Try.func79, Try.ntmps79
  go_wp2_with (first | (go_at_call 133; (with_reducible refine (HR.out).mono ?_); rw [HW.out]; rintro e w' ⟨n1, rfl, rfl⟩))
  go_ret
  exact RetI.mk _ rfl
theorem polyWild2_c {w : World} {b cap n b2 c2 : Nat} {xs fs ys gs : List Nat} (h : FW w b cap xs fs) (hn : xs.length = n) (k : FW w b2 c2 ys gs) (kn : ys.length = n) (h1 : 3 ≤ n) (h2 : n ≤ 16) (hw : okL fs = true) (kw : okL gs = false) : Calls Try.prog 79 #[.slice (some ⟨b, 0, none⟩) n cap, .slice (some ⟨b2, 0, none⟩) n c2] w (RetI .i64 5 w) := by
  have h3 : ¬ (n : Int) < 3 := by omega
  have h4 : ¬ (16 : Int) < n := by omega
  have HR := Lib.hid (reals_c h hn)
  have HW := Lib.hid hw
  have KR := Lib.hid fun d => reals_c (k.up ((GrW.refl w).drewN d)) kn
  have KW := Lib.hid kw
  clear h hw k kw
  go_enter Try.func79, Try.ntmps79
  go_wp2_with (first | (go_at_call 133; (with_reducible refine (HR.out).mono ?_); rw [HW.out]; rintro e w' ⟨n1, rfl, rfl⟩) | (go_at_call 133; (with_reducible refine (KR.out _).mono ?_); rw [KW.out]; rintro e w' ⟨n2, rfl, rfl⟩))
  go_ret
  exact RetI.mk _ rfl
/-- an angle, and a place, that may be. -/
def goodP (fs gs : List Nat) (j : Nat) : Bool := !fle (gs.getD j 0) 0 && !fle 4611686018427387904 (gs.getD j 0) && (j == 0 || !fle (fs.getD j 0) (fs.getD (j - 1) 0))
theorem goodP_first {fs gs : List Nat} (h : goodP fs gs 0 = true) : fle (gs.getD 0 0) 0 = false ∧ fle 4611686018427387904 (gs.getD 0 0) = false := by
  unfold goodP at h
  simp only [Bool.and_eq_true, Bool.not_eq_true'] at h
  exact ⟨h.1.1, h.1.2⟩
theorem goodP_next {fs gs : List Nat} {j : Nat} (h : goodP fs gs (j + 1) = true) : fle (gs.getD (j + 1) 0) 0 = false ∧ fle 4611686018427387904 (gs.getD (j + 1) 0) = false ∧ fle (fs.getD (j + 1) 0) (fs.getD j 0) = false := by
  unfold goodP at h
  simp only [Bool.and_eq_true, Bool.not_eq_true', Bool.or_eq_true, beq_iff_eq, Nat.add_one_ne_zero, false_or, Nat.add_sub_cancel] at h
  exact ⟨h.1.1, h.1.2, h.2⟩
def polyAns (t : Bool) : Int := if t then 0 else 190
def polyEnd (gs : List Nat) (n : Nat) : Bool := within (fsub (sumF gs) (ofInt ((n : Int) - 2))) 4427038433705197568
theorem polySum_c {w : World} {b cap n b2 c2 : Nat} {xs fs ys gs : List Nat} (h : FW w b cap xs fs) (hn : xs.length = n) (k : FW w b2 c2 ys gs) (kn : ys.length = n) (h1 : 3 ≤ n) (h2 : n ≤ 16) (hw : okL fs = true) (kw : okL gs = true)
    (hg : ∀ j, j < n → goodP fs gs j = true) {t : Bool} (he : polyEnd gs n = t) : Calls Try.prog 79 #[.slice (some ⟨b, 0, none⟩) n cap, .slice (some ⟨b2, 0, none⟩) n c2] w (RetI .i64 (polyAns t) w) := by
  have h3 : ¬ (n : Int) < 3 := by omega
  have h4 : ¬ (16 : Int) < n := by omega
  have h5 : (0 : Int) < n := by omega
  have HR := Lib.hid (reals_c h hn)
  have HW := Lib.hid hw
  have KR := Lib.hid fun d => reals_c (k.up ((GrW.refl w).drewN d)) kn
  have KW := Lib.hid kw
  have H := Lib.hid h
  have K := Lib.hid k
  have hcap := h.lc
  have htop := h.top
  have kcap := k.lc
  have ktop := k.top
  rw [hn] at hcap
  rw [kn] at kcap
  have HG := Lib.hid hg
  have HE := Lib.hid he
  have HN := Lib.hid hn
  have KN := Lib.hid kn
  have c40 : Rep 4427038433705197568 4427038433705197568 := Rep.self (by decide) (by decide +kernel)
  clear h hw k kw hg he hn kn
  go_enter Try.func79, Try.ntmps79
  go_wp2_with (first | (go_at_call 133; (with_reducible refine (HR.out).mono ?_); rw [HW.out]; rintro e w' ⟨n1, rfl, rfl⟩) | (go_at_call 133; (with_reducible refine (KR.out _).mono ?_); rw [KW.out]; rintro e w' ⟨n2, rfl, rfl⟩))
  go_loopw [32] (fun i wr => ∃ k d : Nat, k ≤ n ∧ i = .int .i64 k ∧ wr = w.drewN d) (fun i _ => n - (intOf i).toNat)
  case atStart => exact ⟨0, _, by omega, rfl, rfl⟩
  case round =>
    obtain ⟨k, d, hk, rfl, rfl⟩ := hrel
    by_cases hlt : k < n
    · have r := K.out.rep k (by rw [KN.out]; exact hlt)
      have c0 := K.out.cell k (by rw [KN.out]; exact hlt)
      have g := HG.out k hlt
      rcases k with _ | j
      · obtain ⟨g1, g2⟩ := goodP_first g
        have q1 := r.le' Rep.c0
        have q2 := r.ge' Rep.two
        rw [g1] at q1
        rw [g2] at q2
        clear g g1 g2 r
        obtain ⟨y, ey⟩ : ∃ y, ys.getD 0 0 = y := ⟨_, rfl⟩
        rw [ey] at c0 q1 q2
        clear ey
        go_wp2
        go_quiet (fail)
        go_wp2
        go_roundw
        case rel => exact ⟨1, _, by omega, rfl, rfl⟩
        case measure => simp [intOf]; omega
      · obtain ⟨g1, g2, g3⟩ := goodP_next g
        have c1 := H.out.cell (j + 1) (by rw [HN.out]; exact hlt)
        have c2 := H.out.cell j (by rw [HN.out]; omega)
        have q1 := r.le' Rep.c0
        have q2 := r.ge' Rep.two
        have q3 := (H.out.rep (j + 1) (by rw [HN.out]; exact hlt)).le' (H.out.rep j (by rw [HN.out]; omega))
        rw [g1] at q1
        rw [g2] at q2
        rw [g3] at q3
        clear g g1 g2 g3 r
        obtain ⟨y, ey⟩ : ∃ y, ys.getD (j + 1) 0 = y := ⟨_, rfl⟩
        rw [ey] at c0 q1 q2
        obtain ⟨x, ex⟩ : ∃ x, xs.getD (j + 1) 0 = x := ⟨_, rfl⟩
        rw [ex] at c1 q3
        obtain ⟨x', ex'⟩ : ∃ x, xs.getD j 0 = x := ⟨_, rfl⟩
        rw [ex'] at c2 q3
        clear ey ex ex'
        have hk1 : ((j : Int) + 1).toNat = j + 1 := by omega
        have hj0 : (0 : Int) < (j : Int) + 1 := by omega
        have hj1 : (j : Int) + 1 < n := by omega
        have hj2 : (j : Int) < n := by omega
        go_wp2
        go_quiet (fail)
        go_wp2
        go_roundw
        case rel => exact ⟨j + 1 + 1, _, by omega, by go_num, rfl⟩
        case measure => simp [intOf]; omega
    · have hkn : k = n := by omega
      have HS := Lib.hid (sum_c b2 0 n c2 ys gs (w.drewN d) (by omega) kcap ktop (by rw [K.out.len, KN.out]) (fun j hj => by rw [Nat.zero_add]; exact K.out.cell j (by rw [KN.out]; exact hj)) (fun j hj => K.out.rep j (by rw [KN.out]; exact hj)))
      cases t
      all_goals
        go_wp2_with (first | (go_at_call 12; (with_reducible refine (HS.out).mono ?_); rintro e w' ⟨r, n3, rfl, hr, rfl⟩) | (go_at_call 132; (with_reducible refine (within_c (hr.sub (ofInt_rep _)) c40 _).mono ?_); rw [show within (fsub (sumF gs) (ofInt ((n : Int) - 2))) 4427038433705197568 = _ from HE.out]; rintro e w' ⟨n4, rfl, rfl⟩))
        go_ret
        exact RetI.mk _ rfl
end Go.Proofs.Ytcfkhhnkboealaa
