/- Whirls: the circle, what may be, in any memory. -/
import Derived.Test.YtcfkhhnkboealaaFSu
import Derived.Test.YtcfkhhnkboealaaPow2
import Derived.Handy
namespace Go.Proofs.Ytcfkhhnkboealaa
open Go.RowKit
set_option linter.unusedVariables false
set_option linter.unusedSimpArgs false
set_option maxRecDepth 100000
set_option maxHeartbeats 4000000
@[go_sem] theorem run_store_cplx {P : Program} {w : World} {a : Addr} {m : Mode} (k : FloatKind) (x y : Nat) : (store a (.complex k x y) m).run P w = stored P w a (.complex k x y) m := run_store P w a _ m rfl
@[go_sem] theorem run_store_flt {P : Program} {w : World} {a : Addr} {m : Mode} (k : FloatKind) (x : Nat) : (store a (.float k x) m).run P w = stored P w a (.float k x) m := run_store P w a _ m rfl
theorem cu_alloc {w : World} {a : Addr} {o : Obj} {v : Value} (h : w.cell? a = some v) : (w.alloc o).cell? a = some v := by
  refine Eq.trans (World.cell?_alloc_lt _ _ _ ?_) h
  rcases Nat.lt_or_ge a.block w.heap.size with k | k
  · exact k
  · exfalso
    unfold World.cell? at h
    rw [Array.getElem?_eq_none k] at h
    cases h
theorem cu_drewN {w : World} {a : Addr} {n : Nat} {v : Value} (h : w.cell? a = some v) : (w.drewN n).cell? a = some v := h
theorem cu_set {w : World} {b i j : Nat} {x v : Value} (hne : i ≠ j) (h : w.cell? ⟨b, j, none⟩ = some v) : (w.setCell ⟨b, i, none⟩ x).cell? ⟨b, j, none⟩ = some v := by
  exact Eq.trans (World.cell?_setCell_other _ _ _ _ (by intro e; cases e; exact hne rfl)) h
theorem cu_setb {w : World} {b c i j : Nat} {x v : Value} (hne : b ≠ c) (h : w.cell? ⟨c, j, none⟩ = some v) : (w.setCell ⟨b, i, none⟩ x).cell? ⟨c, j, none⟩ = some v := by
  exact Eq.trans (World.cell?_setCell_other _ _ _ _ (by intro e; cases e; exact hne rfl)) h
def HasCell (w : World) (a : Addr) : Prop := ∃ u, w.cell? a = some u
theorem hc_alloc {w : World} {a : Addr} {o : Obj} (h : HasCell w a) : HasCell (w.alloc o) a := h.imp fun _ k => cu_alloc k
theorem hc_drewN {w : World} {a : Addr} {n : Nat} (h : HasCell w a) : HasCell (w.drewN n) a := h
theorem hc_set {w : World} {a b : Addr} {x : Value} (h : HasCell w a) : HasCell (w.setCell b x) a := by
  obtain ⟨u, k⟩ := h
  exact cell?_setCell_some k
theorem hc_new {w : World} {c : Array Value} {t : TypeId} {i : Nat} (h : i < c.size) : HasCell (w.alloc (.cells c t)) ⟨w.heap.size, i, none⟩ := ⟨c[i], by rw [World.cell?_alloc_new]; simp [h]⟩
theorem hc_of {w : World} {a : Addr} {u : Value} (h : w.cell? a = some u) : HasCell w a := ⟨u, h⟩
theorem cu_same {w : World} {a : Addr} {x : Value} (h : HasCell w a) : (w.setCell a x).cell? a = some x := by
  obtain ⟨u, k⟩ := h
  exact World.cell?_setCell_same _ _ _ k
theorem cu_new {w : World} {c : Array Value} {t : TypeId} {i : Nat} {v : Value} (h : c[i]? = some v) : (w.alloc (.cells c t)).cell? ⟨w.heap.size, i, none⟩ = some v := by
  rw [World.cell?_alloc_new]; exact h
theorem cwithin_c {x y m f g k : Nat} (hx : Rep x f) (hy : Rep y g) (hm : Rep m k) (w : World) : Calls Try.prog 125 #[.complex .f64 x y, .float .f64 m] w (RetB (within f k && within g k) w) := by
  cases h1 : within f k
  all_goals
    have H1 := Lib.hid h1
    clear h1
    go_enter Try.func125, Try.ntmps125
    go_wp2_with (first | (go_at_call 132; (with_reducible refine (within_c hx hm _).mono ?_); rw [H1.out]; rintro e w' ⟨n, rfl, rfl⟩) | (go_at_call 132; (with_reducible refine (within_c hy hm _).mono ?_); rintro e w' ⟨n, rfl, rfl⟩))
    go_ret
    exact RetB.mk _ rfl
def twoPi : Nat := 4618760256179416344
theorem circle_c (w : World) : Calls Try.prog 130 #[] w (fun e w' => ∃ n, e = .returned (.float .f64 4618760256179416344) ∧ w' = w.drewN n) := by
  have f2 : ∀ w : World, fres .mul 4611686018427387904 4614256656552045848 w = 4618760256179416344 := fun w => (Rep.mul Rep.two (show Rep 4614256656552045848 4614256656552045848 from Rep.self (by decide) (by decide +kernel))).eq_of (by decide +kernel)
  go_enter Try.func130, Try.ntmps130
  go_wp2_with (first | (go_at_call 117; (with_reducible refine (Pi_c _).mono ?_); rintro e w' ⟨r1, r2, n, rfl, hr1, hr2, rfl⟩; obtain rfl := hr1.eq_of (by decide +kernel)))
  go_ret
  exact ⟨_, rfl, rfl⟩
/-- a whirl that may be: three floats. -/
def whOk (x y t : Nat) : Bool := within x 4787326403894837248 && within y 4787326403894837248 && within t 4787326403894837248
theorem Rep.c40 : Rep 4787326403894837248 4787326403894837248 := Rep.self (by decide) (by decide +kernel)
theorem checkOk_c (g n cap : Nat) (X Y T : Nat → Nat) (w : World) (hn : n ≤ cap) (hcap : cap ≤ 9223372036854775807) (h4 : n ≤ 4096) (hg : g < w.heap.size)
    (hc : ∀ k, k < n → w.cell? ⟨g, k * 2, none⟩ = some (.complex .f64 (X k) (Y k)) ∧ w.cell? ⟨g, k * 2 + 1, none⟩ = some (.float .f64 (T k)))
    (hr : ∀ k, k < n → Rep (X k) (X k) ∧ Rep (Y k) (Y k) ∧ Rep (T k) (T k)) (hok : ∀ k, k < n → whOk (X k) (Y k) (T k) = true) :
    Calls Try.prog 78 #[.slice (some ⟨g, 0, none⟩) n cap] w (fun e w' => e = .returned (.int .i64 0) ∧ Grown w w') := by
  have HC := Lib.hid hc
  have HR := Lib.hid hr
  have HO := Lib.hid hok
  have HG := Lib.hid hg
  clear hc hr hok hg
  have k40 := Rep.c40
  go_enter Try.func78, Try.ntmps78
  go_wp2
  go_loopw [10] (fun i wr => ∃ k : Nat, k ≤ n ∧ i = .int .i64 k ∧ Grown w wr) (fun i _ => n - (intOf i).toNat)
  case atStart => exact ⟨0, by omega, rfl, by first | exact Grown.refl _ | exact gr_drewN _ (Grown.refl _)⟩
  case round =>
    obtain ⟨k, hk, rfl, hgr⟩ := hrel
    by_cases hlt : k < n
    · have c0 := (HC.out k hlt).1
      have c1 := (HC.out k hlt).2
      rw [← grown_cell hgr HG.out] at c0 c1
      obtain ⟨r1, r2, r3⟩ := HR.out k hlt
      have o := HO.out k hlt
      unfold whOk at o
      simp only [Bool.and_eq_true] at o
      obtain ⟨⟨o1, o2⟩, o3⟩ := o
      have O1 := Lib.hid o1
      have O2 := Lib.hid o2
      have O3 := Lib.hid o3
      have HGR := Lib.hid hgr
      clear o1 o2 o3 hgr
      go_wp2_with (first | (go_at_call 125; (with_reducible refine (cwithin_c r1 r2 k40 _).mono ?_); rw [O1.out, O2.out]; rintro e w' ⟨n1, rfl, rfl⟩) | (go_at_call 132; (with_reducible refine (within_c r3 k40 _).mono ?_); rw [O3.out]; rintro e w' ⟨n2, rfl, rfl⟩))
      go_roundw
      case rel => exact ⟨k + 1, by omega, rfl, gr_drewN _ (HGR.out.alloc _ _)⟩
      case measure => simp [intOf]; omega
    · go_wp2
      go_ret
      exact ⟨rfl, hgr⟩
end Go.Proofs.Ytcfkhhnkboealaa
