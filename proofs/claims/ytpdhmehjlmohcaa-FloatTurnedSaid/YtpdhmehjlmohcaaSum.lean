/- What the sum of floats in a slice comes to. No condition. -/
import Derived.Test.YtpdhmehjlmohcaaMid3
namespace Go.Proofs.Ytpdhmehjlmohcaa
open Go.RowKit
set_option linter.unusedVariables false
set_option maxRecDepth 100000

def sumF : List Nat → Nat
  | [] => 0
  | f :: l => l.foldl fadd f
theorem sumF_take (fs : List Nat) (k : Nat) (hk : k + 1 < fs.length) : sumF (fs.take (k + 2)) = fadd (sumF (fs.take (k + 1))) (fs.getD (k + 1) 0) := by
  cases fs with
  | nil => simp at hk
  | cons f l =>
    simp only [List.take_succ_cons, sumF]
    have hk' : k < l.length := by simpa using hk
    rw [List.take_succ_eq_append_getElem hk', List.foldl_append]
    simp [List.getD, hk']
theorem sumF_one (fs : List Nat) (h : 0 < fs.length) : sumF (fs.take 1) = fs.getD 0 0 := by
  cases fs with
  | nil => simp at h
  | cons f l => rfl
theorem sum_nil (a : Option Addr) (cap : Nat) (w : World) : Calls Try.prog 24 #[.slice a 0 cap] w (RetF 0 w) := by
  go_enter Try.func24, Try.ntmps24
  go_wp2
  go_ret
  exact RetF.mk0 Rep.c0

theorem sum_c (b off len cap : Nat) (xs fs : List Nat) (w : World) (h1 : 0 < len) (hcap : len ≤ cap) (hbig : cap ≤ 9223372036854775807) (hf : fs.length = len)
    (hc : ∀ j, j < len → w.cell? ⟨b, off + j, none⟩ = some (.float .f64 (xs.getD j 0))) (hr : ∀ j, j < len → Rep (xs.getD j 0) (fs.getD j 0)) :
    Calls Try.prog 24 #[.slice (some ⟨b, off, none⟩) len cap] w (RetF (sumF fs) w) := by
  have c0 := hc 0 h1
  rw [Nat.add_zero] at c0
  have h0 : ((len : Int) == 0) = false := by simp; omega
  have hlen : (0 : Int) < (len : Int) := by omega
  have hcap' : (1 : Int) ≤ (cap : Int) := by omega
  have hl1 : (1 : Int) ≤ (len : Int) := by omega
  have HC := Lib.hid hc
  have HR := Lib.hid hr
  have HF := Lib.hid hf
  clear hc hr hf
  by_cases h2 : cap = 1
  · have h3 : len = 1 := by omega
    subst h2
    subst h3
    go_enter Try.func24, Try.ntmps24
    go_wp2
    go_loopw [3, 15] (fun s i wr => ∃ k n r : Nat, k + 1 ≤ 1 ∧ i = .int .i64 k ∧ s = .float .f64 r ∧ Rep r (sumF (fs.take (k + 1))) ∧ wr = w.drewN n) (fun _ i _ => 1 - (intOf i).toNat)
    case atStart => exact ⟨0, 0, _, by omega, rfl, rfl, by rw [sumF_one fs (by rw [HF.out]; omega)]; simpa [List.getD] using HR.out 0 (by omega), rfl⟩
    case round =>
      obtain ⟨k, n, r, hk, rfl, rfl, hrep, rfl⟩ := hrel
      by_cases hlt : k + 1 < 1
      · omega
      · have hk1 : k + 1 = 1 := by omega
        have HK := Lib.hid hk1
        clear hk1
        go_wp2
        go_ret
        have e : fs.take (k + 1) = fs := by rw [HK.out, ← HF.out]; exact List.take_length
        rw [e] at hrep
        exact RetF.mk _ hrep
  · have hcap2 : (1 : Int) < (cap : Int) := by omega
    go_enter Try.func24, Try.ntmps24
    go_wp2
    go_loopw [3, 15] (fun s i wr => ∃ k n r : Nat, k + 1 ≤ len ∧ i = .int .i64 k ∧ s = .float .f64 r ∧ Rep r (sumF (fs.take (k + 1))) ∧ wr = w.drewN n) (fun _ i _ => len - (intOf i).toNat)
    case atStart => exact ⟨0, 0, _, by omega, rfl, rfl, by rw [sumF_one fs (by rw [HF.out]; omega)]; simpa [List.getD] using HR.out 0 (by omega), rfl⟩
    case round =>
      obtain ⟨k, n, r, hk, rfl, rfl, hrep, rfl⟩ := hrel
      by_cases hlt : k + 1 < len
      · have hcell := HC.out (k + 1) hlt
        have ea : off + (k + 1) = off + 1 + k := by omega
        rw [ea] at hcell
        have hstep := Lib.hid (sumF_take fs k (by rw [HF.out]; exact hlt))
        have hx := Lib.hid (HR.out (k + 1) hlt)
        clear ea
        go_wp2
        go_roundw
        case rel => exact ⟨k + 1, _, _, by omega, by go_num, rfl, by rw [hstep.out]; simpa [List.getD] using hrep.add hx.out, rfl⟩
        case measure => simp [intOf]; omega
      · have hk1 : k + 1 = len := by omega
        have HK := Lib.hid hk1
        clear hk1
        go_wp2
        go_ret
        have e : fs.take (k + 1) = fs := by rw [HK.out, ← HF.out]; exact List.take_length
        rw [e] at hrep
        exact RetF.mk _ hrep
end Go.Proofs.Ytpdhmehjlmohcaa
