/- A quotient of words: the walk. -/
import Derived.Test.YtndknkdfbjfjcaaDoorBigR
import Derived.Deep.RegionWith
namespace Go.Proofs.YtndknkdfbjfjcaaDoor
open Go.RowKit
set_option linter.unusedVariables false
set_option linter.unusedSimpArgs false
set_option maxRecDepth 100000
set_option maxHeartbeats 4000000
def RetWW (Q R : Nat) (w : World) (e : Ending) (w' : World) : Prop := ∃ v1 v2, e = .returned (.tuple #[v1, v2]) ∧ IsW w' v1 (digs Q) ∧ IsW w' v2 (digs R) ∧ Grown w w'
theorem IsW.drewN {w : World} {v : Value} {l : List Nat} (h : IsW w v l) (n : Nat) : IsW (w.drewN n) v l := h.grown (gr_drewN n (Grown.refl w))
theorem cmpI_lt {A B : Nat} (h : A < B) : cmpI A B = -1 := by unfold cmpI; rw [if_pos h]
theorem cmpI_ge {A B : Nat} (h : B ≤ A) : (cmpI A B < 0) = False := by
  unfold cmpI; rw [if_neg (by omega)]; split <;> simp
theorem cmpI_ge' {A B : Nat} (h : B ≤ A) : cmpI A B = 0 ∨ cmpI A B = 1 := by
  unfold cmpI; rw [if_neg (by omega)]; split <;> simp
theorem isW_new1 (w : World) (x : Nat) (t : TypeId) : IsW (w.alloc (.cells #[.int .u32 (x : Int)] t)) (.slice (some ⟨w.heap.size, 0, none⟩) 1 1) [x] := by
  refine ⟨_, 1, rfl, by simp, by decide, fun _ => ⟨w.heap.size, 0, rfl, by rw [size_alloc]; omega, fun j hj => ?_⟩⟩
  rw [Nat.zero_add, World.cell?_alloc_new]
  have : j = 0 := by simp at hj; omega
  subst this; rfl
theorem digs_one {x : Nat} (h : x < 4294967296) (h0 : x ≠ 0) : digs x = [x] := by
  rw [digs_pos h0, show x % 4294967296 = x by omega, show x / 4294967296 = 0 by omega, digs_zero]
theorem divW_small {v1 v2 : Value} {A B : Nat} {w : World} (h1 : IsW w v1 (digs A)) (h2 : IsW w v2 (digs B)) (h : A < B) : Calls Tryd.prog 150 #[v1, v2] w (RetWW 0 A w) := by
  have H1 := Lib.hid h1
  have H2 := Lib.hid h2
  have HC := Lib.hid (cmpI_lt h)
  obtain ⟨s1, c1, rfl, _, _, _⟩ := h1
  obtain ⟨s2, c2, rfl, _, _, _⟩ := h2
  go_enter Tryd.func150, Tryd.ntmps150
  go_wp2_with (first | (go_at_call 146; (with_reducible refine (cmp_c H1.out H2.out).mono ?_); rw [HC.out]; rintro e w' ⟨n, rfl, rfl⟩) | (go_at_call 149; (with_reducible refine (copied_c (H1.out.drewN _)).mono ?_); rintro e w' ⟨v, rfl, hv, hg⟩))
  go_ret2
  exact ⟨_, _, rfl, IsW.nil _, hv, gr_trans (gr_drewN _ (Grown.refl _)) hg⟩
theorem div_one {v1 : Value} {s2 : Option Addr} {c2 : Nat} {A B : Nat} {w : World} (h1 : IsW w v1 (digs A)) (h2 : IsW w (.slice s2 1 c2) (digs B)) (h : B ≤ A) (hB : B ≠ 0) (hB2 : B < 4294967296) :
    Calls Tryd.prog 150 #[v1, .slice s2 1 c2] w (RetWW (A / B) (A % B) w) := by
  have H1 := Lib.hid h1
  have H2 := Lib.hid h2
  have hd := digs_one hB2 hB
  obtain ⟨s, c, e0, k1, k2, k3⟩ := h2
  obtain ⟨b, off, e1, hb, hc⟩ := k3 (mt digs_nil.1 hB)
  injection e0 with e2 e3 e4
  subst e2
  subst e1
  have hcell := hc 0 (by rw [hd]; exact Nat.succ_pos _)
  rw [hd] at hcell
  have hcell' : w.cell? ⟨b, off, none⟩ = some (.int .u32 (B : Int)) := by simpa using hcell
  have hA : A ≠ 0 := by omega
  have HA := Lib.hid hA
  have HB := Lib.hid hB2
  have HB0 := Lib.hid (show 0 < B by omega)
  have HW := Lib.hid (wv_digs)
  obtain ⟨r, hr⟩ : ∃ r, A % B = r := ⟨_, rfl⟩
  have hRr : RowKit.Hid (A % B = r) := Lib.hid hr
  have hRs : RowKit.Hid (Sm [r]) := Lib.hid (sm_cons.2 ⟨by rw [← hr]; exact Nat.lt_trans (Nat.mod_lt _ (by omega)) hB2, sm_nil⟩)
  have hRv : RowKit.Hid (wv [r] = A % B) := Lib.hid (by rw [hr]; simp [wv])
  have hc2 : 1 ≤ c2 := by rw [hd] at k1; subst e4; simpa using k1
  have hc3 : c2 ≤ 1000000000 := by subst e4; exact k2
  have hpos : (0 : Int) < 1 := by decide
  obtain ⟨s1, c1, rfl, a1, a2, a3⟩ := h1
  clear hr hc hcell k3 k1 k2 hd e3 e4 hB hB2 hA a3
  rcases cmpI_ge' h with hcm | hcm
  all_goals
    have HC := Lib.hid hcm
    clear hcm
    go_enter Tryd.func150, Tryd.ntmps150
    go_wp2_with (first | (go_at_call 146; (with_reducible refine (cmp_c H1.out H2.out).mono ?_); rw [HC.out]; rintro e w' ⟨n, rfl, rfl⟩) | (go_at_call 160; (with_reducible refine (divSmall_c (H1.out.drewN _) HA.out HB0.out HB.out).mono ?_); rw [hRr.out]; rintro e w' ⟨q, rfl, hq, hg⟩) | (go_at_call 142; (with_reducible refine (trim_c (isW_new1 _ r _) hRs.out).mono ?_); rw [hRv.out]; rintro e w' ⟨v', n', rfl, hv, rfl⟩))
    go_ret2
    exact ⟨_, _, rfl, (hq.grown ((Grown.refl _).alloc _ _)).drewN _, hv, gr_drewN _ (gr_alloc (gr_trans (gr_drewN _ (Grown.refl _)) hg) _ _)⟩
end Go.Proofs.YtndknkdfbjfjcaaDoor
