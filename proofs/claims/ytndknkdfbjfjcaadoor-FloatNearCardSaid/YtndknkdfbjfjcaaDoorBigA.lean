/- Words: without the noughts at the end; copied; of a number; their bits. -/
import Derived.Test.YtndknkdfbjfjcaaDoorBigW
namespace Go.Proofs.YtndknkdfbjfjcaaDoor
open Go.RowKit
set_option linter.unusedVariables false
set_option linter.unusedSimpArgs false
set_option maxRecDepth 100000
set_option maxHeartbeats 4000000
theorem trim_c {v : Value} {l : List Nat} {w : World} (h : IsW w v l) (hs : Sm l) : Calls Tryd.prog 142 #[v] w (fun e w' => ∃ v' n, e = .returned v' ∧ IsW w' v' (digs (wv l)) ∧ w' = w.drewN n) := by
  have HI := Lib.hid h
  obtain ⟨s, cap, rfl, hc1, hc2, hcell⟩ := h
  have HC := Lib.hid hcell
  have HS := Lib.hid hs
  have HE : RowKit.Hid (∀ k, k ≤ l.length → (∀ j, k ≤ j → j < l.length → l.getD j 0 = 0) → (k = 0 ∨ l.getD (k - 1) 0 ≠ 0) → ∀ d, IsW (w.drewN d) (.slice s k cap) (digs (wv l))) := Lib.hid (by
    intro k hk hz h0 d
    rw [← take_digs hs k hk hz h0]
    have e : (l.take k).length = k := by rw [List.length_take]; omega
    refine ⟨s, cap, by rw [e], by omega, hc2, fun hl => ?_⟩
    have hl' : l ≠ [] := by intro e2; subst e2; simp at hl
    obtain ⟨b, off, e1, hb, hc⟩ := hcell hl'
    refine ⟨b, off, e1, hb, fun j hj => ?_⟩
    have := hc j (by omega)
    rw [gd_lt (by omega)] at this
    rw [gd_lt hj, List.getElem_take]
    exact this)
  clear hcell hs
  have hbig : (cap : Int) ≤ 9223372036854775807 := by omega
  have hlc : (l.length : Int) ≤ cap := by omega
  go_enter Tryd.func142, Tryd.ntmps142
  go_wp2
  go_loopw [3] (fun n wr => ∃ k d : Nat, k ≤ l.length ∧ n = .int .i64 k ∧ (∀ j, k ≤ j → j < l.length → l.getD j 0 = 0) ∧ wr = w.drewN d) (fun n _ => (intOf n).toNat)
  case atStart => exact ⟨l.length, 0, Nat.le_refl _, rfl, fun j h1 h2 => absurd h2 (by omega), rfl⟩
  case round =>
    obtain ⟨k, d, hk, rfl, hz, rfl⟩ := hrel
    have HZ := Lib.hid hz
    clear hz
    by_cases h0 : k = 0
    · subst h0
      go_wp2
      go_ret
      exact ⟨_, _, rfl, HE.out 0 (Nat.zero_le _) HZ.out (.inl rfl) _, rfl⟩
    · have hne : l ≠ [] := by intro e; subst e; simp at hk; exact h0 hk
      obtain ⟨b, off, e1, hb, hc⟩ := HC.out hne
      subst e1
      have hcell := hc (k - 1) (by omega)
      have hk1 : ((k : Int) - 1).toNat = k - 1 := by omega
      clear hc
      by_cases hl : l.getD (k - 1) 0 = 0
      · rw [hl] at hcell
        go_wp2
        go_roundw
        case rel => exact ⟨k - 1, _, by omega, by go_num, fun j h1 h2 => by
          by_cases e : j = k - 1
          · rw [e]; exact hl
          · exact HZ.out j (by omega) h2, rfl⟩
        case measure => simp [intOf]; omega
      · obtain ⟨x, hx⟩ : ∃ x, x = l.getD (k - 1) 0 := ⟨_, rfl⟩
        rw [← hx] at hcell hl
        have HX := Lib.hid hx
        clear hx
        have hx0 : ((x : Int) == 0) = false := by simp; omega
        go_wp2
        go_ret
        exact ⟨_, _, rfl, HE.out k hk HZ.out (.inr (by rw [← HX.out]; exact hl)) _, rfl⟩
end Go.Proofs.YtndknkdfbjfjcaaDoor
