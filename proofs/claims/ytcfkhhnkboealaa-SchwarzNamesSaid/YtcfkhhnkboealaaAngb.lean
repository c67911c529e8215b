/- Sines, cosines and the core of angles, by their steps: the program's and the document's come to one. No condition. Quarters of a circle: the program's and the document's come to one. No condition. Quarters, sines and cosines of any float: the program's and the document's come to one. No condition. Sine and cosine together, and wrapped angles: the program's and the document's come to one. No condition. Wrapped angles: the program's and the document's come to one. No condition. The angle of a place: what the program's and the document's steps come to. No condition. The law's own check of angles answers true. No condition. The angle of a place, by the document: what its steps come to. No condition. -/
import Derived.Test.YtcfkhhnkboealaaWhb
import Derived.Test.YtcfkhhnkboealaaStra
namespace Go.Proofs.Ytcfkhhnkboealaa
open Go.RowKit
set_option linter.unusedVariables false
set_option linter.unusedSimpArgs false
set_option maxRecDepth 100000

def one : Nat := 4607182418800017408
def sinSeq (z : Nat) : Nat → Nat
  | 0 => 4607182418800017408
  | j + 1 => fsub 4607182418800017408 (fmul (fdiv z (ofInt (2 * (9 - (j : Int)) * (2 * (9 - (j : Int)) + 1)))) (sinSeq z j))
def cosSeq (z : Nat) : Nat → Nat
  | 0 => 4607182418800017408
  | j + 1 => fsub 4607182418800017408 (fmul (fdiv z (ofInt ((2 * (9 - (j : Int)) - 1) * (2 * (9 - (j : Int)))))) (cosSeq z j))
def sineF (y : Nat) : Nat := fmul y (sinSeq (fmul y y) 9)
def cosF (y : Nat) : Nat := cosSeq (fmul y y) 9
def coreSeq (z : Nat) : Nat → Nat
  | 0 => 0
  | j + 1 => fsub (fdiv 4607182418800017408 (ofInt (2 * (24 - (j : Int)) + 1))) (fmul z (coreSeq z j))
def piH : Nat := 4614256656552045848
def piL : Nat := 4368955796522032135
def farF (t : Nat) : Bool := flt 4601130706800738304 t
def coreU (t : Nat) : Nat := if farF t then fdiv (fsub t 4607182418800017408) (fadd t 4607182418800017408) else t
def coreV (t : Nat) : Nat := fmul (coreU t) (coreSeq (fmul (coreU t) (coreU t)) 25)
def coreF (t : Nat) : Nat := if farF t then fadd (fdiv 4614256656552045848 4616189618054758400) (fadd (coreV t) (fdiv 4368955796522032135 4616189618054758400)) else coreV t

theorem k9_down : ∀ j : Nat, j < 9 → fsub (ofInt (9 - (j : Int))) 4607182418800017408 = ofInt (9 - ((j + 1 : Nat) : Int)) := by decide +kernel
theorem k9_sin : ∀ j : Nat, j < 9 → fmul (fmul 4611686018427387904 (ofInt (9 - (j : Int)))) (fadd (fmul 4611686018427387904 (ofInt (9 - (j : Int)))) 4607182418800017408) = ofInt (2 * (9 - (j : Int)) * (2 * (9 - (j : Int)) + 1)) := by decide +kernel
theorem k9_cos : ∀ j : Nat, j < 9 → fmul (fsub (fmul 4611686018427387904 (ofInt (9 - (j : Int)))) 4607182418800017408) (fmul 4611686018427387904 (ofInt (9 - (j : Int)))) = ofInt ((2 * (9 - (j : Int)) - 1) * (2 * (9 - (j : Int)))) := by decide +kernel
theorem k9_test : ∀ j : Nat, j < 10 → fle 4607182418800017408 (ofInt (9 - (j : Int))) = decide (j < 9) := by decide +kernel
theorem k24_down : ∀ j : Nat, j < 25 → fsub (ofInt (24 - (j : Int))) 4607182418800017408 = ofInt (24 - ((j + 1 : Nat) : Int)) := by decide +kernel
theorem k24_odd : ∀ j : Nat, j < 25 → fadd (fmul 4611686018427387904 (ofInt (24 - (j : Int)))) 4607182418800017408 = ofInt (2 * (24 - (j : Int)) + 1) := by decide +kernel
theorem k24_test : ∀ j : Nat, j < 26 → fle 0 (ofInt (24 - (j : Int))) = decide (j < 25) := by decide +kernel
def m9 (b : Nat) : Nat := ((List.range 11).find? (fun i : Nat => ofInt ((i : Int) - 1) == b)).getD 0
theorem m9_eq : ∀ j : Nat, j < 11 → m9 (ofInt (9 - (j : Int))) = 10 - j := by decide +kernel
def m24 (b : Nat) : Nat := ((List.range 26).find? (fun i : Nat => ofInt ((i : Int) - 1) == b)).getD 0
theorem m24_eq : ∀ j : Nat, j < 26 → m24 (ofInt (24 - (j : Int))) = 25 - j := by decide +kernel
theorem ofInt_self (n : Int) : Rep (ofInt n) (ofInt n) := Rep.self (ofInt_lt n) (nrm_of_not (ofInt_notN n))
theorem ofInt_9 : (4621256167635550208 : Nat) = ofInt 9 := by decide +kernel
theorem ofInt_24 : (4627448617123184640 : Nat) = ofInt 24 := by decide +kernel
theorem Rep.ct : Rep 4601130706800738304 4601130706800738304 := Rep.self (by decide) (by decide +kernel)
theorem Rep.c4 : Rep 4616189618054758400 4616189618054758400 := Rep.self (by decide) (by decide +kernel)
theorem Rep.cpiH : Rep 4614256656552045848 4614256656552045848 := Rep.self (by decide) (by decide +kernel)
theorem Rep.cpiL : Rep 4368955796522032135 4368955796522032135 := Rep.self (by decide) (by decide +kernel)
theorem pi_c (w : World) : Calls Try.prog 155 #[] w (RetFF 4614256656552045848 4368955796522032135 w) := by
  go_enter Try.func155, Try.ntmps155
  go_wp2
  go_ret2
  exact RetFF.mk0 Rep.cpiH Rep.cpiL
theorem Pi_c (w : World) : Calls Try.prog 117 #[] w (RetFF 4614256656552045848 4368955796522032135 w) := by
  go_enter Try.func117, Try.ntmps117
  go_wp2
  go_ret2
  exact RetFF.mk0 Rep.cpiH Rep.cpiL
section
variable {x y f g : Nat} (hx : Rep x f) (hy : Rep y g) (w : World)
include hx
theorem steps_c : Calls Try.prog 160 #[.float .f64 x] w (RetFF (sineF f) (cosF f) w) := by
  go_enter Try.func160, Try.ntmps160
  go_wp2
  have hs := hx.mul hx (w := w)
  generalize fres .mul x x w = z at hs ⊢
  generalize fdr .mul x x = d0
  have H9 := Lib.hid ofInt_9
  go_loopw [2, 3, 5] (fun s c k wr => ∃ j d a b : Nat, k = .float .f64 (ofInt (9 - (j : Int))) ∧ j ≤ 9 ∧ s = .float .f64 a ∧ c = .float .f64 b ∧ Rep a (sinSeq (fmul f f) j) ∧ Rep b (cosSeq (fmul f f) j) ∧ wr = w.drewN d) (fun _ _ k _ => m9 (fltOf k))
  case atStart => exact ⟨0, _, _, _, by rw [H9.out]; rfl, by omega, rfl, rfl, Rep.cone, Rep.cone, rfl⟩
  case round =>
    obtain ⟨j, d, a, b, rfl, hj, rfl, rfl, ha, hb, rfl⟩ := hrel
    have hk := ofInt_self (9 - (j : Int))
    have q1 := hk.ge' Rep.cone
    rw [k9_test j (by omega)] at q1
    by_cases hlt : j < 9
    · rw [decide_eq_true hlt] at q1
      have e1 : ∀ w, fres .sub (ofInt (9 - (j : Int))) 4607182418800017408 w = ofInt (9 - ((j + 1 : Nat) : Int)) := fun w => by
        have h := hk.sub Rep.cone (w := w)
        rw [k9_down j hlt] at h
        exact h.eq_of (ofInt_notN _)
      have HS := Lib.hid (k9_sin j hlt)
      have HC := Lib.hid (k9_cos j hlt)
      have HE := Lib.hid e1
      clear e1
      go_wp2
      go_roundw
      case rel =>
        refine ⟨j + 1, _, _, _, by rw [HE.out], by omega, rfl, rfl, ?_, ?_, rfl⟩
        · rw [sinSeq, ← HS.out]
          exact Rep.cone.sub ((hs.quo ((Rep.two.mul hk).mul ((Rep.two.mul hk).add Rep.cone))).mul ha)
        · rw [cosSeq, ← HC.out]
          exact Rep.cone.sub ((hs.quo (((Rep.two.mul hk).sub Rep.cone).mul (Rep.two.mul hk))).mul hb)
      case measure =>
        simp only [fltOf]
        rw [HE.out, m9_eq (j + 1) (by omega), m9_eq j (by omega)]
        omega
    · have hj9 : j = 9 := by omega
      subst hj9
      rw [decide_eq_false hlt] at q1
      go_wp2
      go_ret2
      exact RetFF.mk _ (hx.mul ha) hb
theorem core_c : Calls Try.prog 156 #[.float .f64 x] w (RetF (coreF f) w) := by
  have H24 := Lib.hid ofInt_24
  have q0 := hx.gt' Rep.ct
  cases hf : flt 4601130706800738304 f
  · have HF := Lib.hid hf
    have hU : coreU f = f := by unfold coreU farF; rw [hf, if_neg (by simp)]
    have hCF : coreF f = coreV f := by unfold coreF farF; rw [hf, if_neg (by simp)]
    have HU := Lib.hid hU
    have HCF := Lib.hid hCF
    clear hU hCF
    have hu := hx
    rw [← HU.out] at hu
    go_enter Try.func156, Try.ntmps156
    go_wp2
    have hs := hu.mul hu (w := w)
    generalize fres .mul x x w = z at hs ⊢
    generalize fdr .mul x x = d0
    go_loopw [8, 9] (fun s k wr => ∃ j d a : Nat, k = .float .f64 (ofInt (24 - (j : Int))) ∧ j ≤ 25 ∧ s = .float .f64 a ∧ Rep a (coreSeq (fmul (coreU f) (coreU f)) j) ∧ wr = w.drewN d) (fun _ k _ => m24 (fltOf k))
    case atStart => exact ⟨0, _, _, by rw [H24.out]; rfl, by omega, rfl, Rep.c0, rfl⟩
    case round =>
      obtain ⟨j, d, a, rfl, hj, rfl, ha, rfl⟩ := hrel
      have hk := ofInt_self (24 - (j : Int))
      have q1 := hk.ge' Rep.c0
      rw [k24_test j (by omega)] at q1
      by_cases hlt : j < 25
      · rw [decide_eq_true hlt] at q1
        have e1 : ∀ w, fres .sub (ofInt (24 - (j : Int))) 4607182418800017408 w = ofInt (24 - ((j + 1 : Nat) : Int)) := fun w => by
          have h := hk.sub Rep.cone (w := w)
          rw [k24_down j hlt] at h
          exact h.eq_of (ofInt_notN _)
        have HS := Lib.hid (k24_odd j hlt)
        have HE := Lib.hid e1
        clear e1
        go_wp2
        go_roundw
        case rel =>
          refine ⟨j + 1, _, _, by rw [HE.out], by omega, rfl, ?_, rfl⟩
          rw [coreSeq, ← HS.out]
          exact (Rep.cone.quo ((Rep.two.mul hk).add Rep.cone)).sub (hs.mul ha)
        case measure =>
          simp only [fltOf]
          rw [HE.out, m24_eq (j + 1) (by omega), m24_eq j (by omega)]
          omega
      · have hj9 : j = 25 := by omega
        subst hj9
        rw [decide_eq_false hlt] at q1
        go_wp2
        go_ret
        exact RetF.mk _ (by rw [HCF.out]; exact (hu.mul ha))
  · have HF := Lib.hid hf
    have hU : coreU f = fdiv (fsub f 4607182418800017408) (fadd f 4607182418800017408) := by unfold coreU farF; rw [hf, if_pos rfl]
    have hCF : coreF f = fadd (fdiv 4614256656552045848 4616189618054758400) (fadd (coreV f) (fdiv 4368955796522032135 4616189618054758400)) := by unfold coreF farF; rw [hf, if_pos rfl]
    have HU := Lib.hid hU
    have HCF := Lib.hid hCF
    clear hU hCF
    have hu0 := (hx.sub Rep.cone (w := w)).quo (hx.add Rep.cone (w := w.drewN (fdr .sub x 4607182418800017408))) (w := w.drewN (fdr .sub x 4607182418800017408 + fdr .add x 4607182418800017408))
    go_enter Try.func156, Try.ntmps156
    go_wp2
    have hu := hu0
    rw [← HU.out] at hu
    clear hu0
    generalize fres .quo (fres .sub x 4607182418800017408 w) (fres .add x 4607182418800017408 (w.drewN (fdr .sub x 4607182418800017408))) (w.drewN (fdr .sub x 4607182418800017408 + fdr .add x 4607182418800017408)) = u at hu ⊢
    generalize hdd : fdr .sub x 4607182418800017408 + fdr .add x 4607182418800017408 + fdr .quo (fres .sub x 4607182418800017408 w) (fres .add x 4607182418800017408 (w.drewN (fdr .sub x 4607182418800017408))) = dd
    clear hdd
    have hs := hu.mul hu (w := w.drewN dd)
    generalize fres .mul u u (w.drewN dd) = z at hs ⊢
    go_loopw [8, 9] (fun s k wr => ∃ j d a : Nat, k = .float .f64 (ofInt (24 - (j : Int))) ∧ j ≤ 25 ∧ s = .float .f64 a ∧ Rep a (coreSeq (fmul (coreU f) (coreU f)) j) ∧ wr = w.drewN d) (fun _ k _ => m24 (fltOf k))
    case atStart => exact ⟨0, _, _, by rw [H24.out]; rfl, by omega, rfl, Rep.c0, rfl⟩
    case round =>
      obtain ⟨j, d, a, rfl, hj, rfl, ha, rfl⟩ := hrel
      have hk := ofInt_self (24 - (j : Int))
      have q1 := hk.ge' Rep.c0
      rw [k24_test j (by omega)] at q1
      by_cases hlt : j < 25
      · rw [decide_eq_true hlt] at q1
        have e1 : ∀ w, fres .sub (ofInt (24 - (j : Int))) 4607182418800017408 w = ofInt (24 - ((j + 1 : Nat) : Int)) := fun w => by
          have h := hk.sub Rep.cone (w := w)
          rw [k24_down j hlt] at h
          exact h.eq_of (ofInt_notN _)
        have HS := Lib.hid (k24_odd j hlt)
        have HE := Lib.hid e1
        clear e1
        go_wp2
        go_roundw
        case rel =>
          refine ⟨j + 1, _, _, by rw [HE.out], by omega, rfl, ?_, rfl⟩
          rw [coreSeq, ← HS.out]
          exact (Rep.cone.quo ((Rep.two.mul hk).add Rep.cone)).sub (hs.mul ha)
        case measure =>
          simp only [fltOf]
          rw [HE.out, m24_eq (j + 1) (by omega), m24_eq j (by omega)]
          omega
      · have hj9 : j = 25 := by omega
        subst hj9
        rw [decide_eq_false hlt] at q1
        go_wp2
        go_ret
        exact RetF.mk _ (by rw [HCF.out]; exact ((Rep.cpiH.quo Rep.c4).add ((hu.mul ha).add (Rep.cpiL.quo Rep.c4))))
end
end Go.Proofs.Ytcfkhhnkboealaa
namespace Go.Proofs.Ytcfkhhnkboealaa
open Go.RowKit
set_option linter.unusedVariables false
set_option linter.unusedSimpArgs false
set_option maxRecDepth 100000
set_option maxHeartbeats 4000000

def piece : Nat → Nat
  | 0 => 4609753056924401664
  | 1 => 4454258360616747008
  | _ => 4297306550709518336
def lessSeq (x m t : Nat) : Nat → Nat
  | 0 => x
  | k + 1 => fsub (lessSeq x m t k) (fmul m (fmul t (piece k)))
def lessF (x m t : Nat) : Nat := lessSeq x m t 3
def RetG (f : Nat) (w : World) (e : Ending) (w' : World) : Prop := ∃ r, e = .returned (.float .f64 r) ∧ Rep r f ∧ Grown w w'
def RetGI (f : Nat) (i : Int) (w : World) (e : Ending) (w' : World) : Prop := ∃ r, e = .returned (.tuple #[.float .f64 r, .int .i64 i]) ∧ Rep r f ∧ Grown w w'
def RetGG (f g : Nat) (w : World) (e : Ending) (w' : World) : Prop := ∃ r s, e = .returned (.tuple #[.float .f64 r, .float .f64 s]) ∧ Rep r f ∧ Rep s g ∧ Grown w w'
theorem cell_new (w : World) (cs : Array Value) (t : TypeId) (d i : Nat) (v : Value) (h : cs[i]? = some v) : ((w.alloc (.cells cs t)).drewN d).cell? ⟨w.heap.size, i, none⟩ = some v := by
  rw [World.cell?_drewN, World.cell?_alloc_new]; exact h
theorem grown_trans {a b c : World} (h : Grown a b) (k : Grown b c) : Grown a c :=
  ⟨World.keptBut_trans h.1 k.1, fun x => (k.2.1 x).trans (h.2.1 x), Nat.le_trans h.2.2 k.2.2⟩
theorem Rep.cp0 : Rep 4609753056924401664 (piece 0) := Rep.self (by decide) (by decide +kernel)
theorem Rep.cp1 : Rep 4454258360616747008 (piece 1) := Rep.self (by decide) (by decide +kernel)
theorem Rep.cp2 : Rep 4297306550709518336 (piece 2) := Rep.self (by decide) (by decide +kernel)
section
variable {x y z f g h : Nat} (hx : Rep x f) (hy : Rep y g) (hz : Rep z h) (w : World)
include hx hy hz
theorem less_c : Calls Try.prog 179 #[.float .f64 x, .float .f64 y, .float .f64 z] w (RetG (lessF f g h) w) := by
  go_enter Try.func179, Try.ntmps179
  go_wp2
  go_loopw [0, 11] (fun v i wr => ∃ k d a : Nat, i = .int .i64 k ∧ k ≤ 3 ∧ v = .float .f64 a ∧ Rep a (lessSeq f g h k) ∧ wr = (w.alloc (.cells #[.int .u64 4609753056924401664, .int .u64 4454258360616747008, .int .u64 4297306550709518336] 23)).drewN d) (fun _ i _ => 3 - (intOf i).toNat)
  case atStart => exact ⟨0, 0, _, rfl, by omega, rfl, hx, rfl⟩
  case round =>
    obtain ⟨k, d, a, rfl, hk, rfl, ha, rfl⟩ := hrel
    have hk4 : k = 0 ∨ k = 1 ∨ k = 2 ∨ k = 3 := by omega
    have c0 : ((w.alloc (.cells #[.int .u64 4609753056924401664, .int .u64 4454258360616747008, .int .u64 4297306550709518336] 23)).drewN d).cell? ⟨w.heap.size, 0, none⟩ = some (.int .u64 4609753056924401664) := cell_new w _ _ _ _ _ rfl
    have c1 : ((w.alloc (.cells #[.int .u64 4609753056924401664, .int .u64 4454258360616747008, .int .u64 4297306550709518336] 23)).drewN d).cell? ⟨w.heap.size, 1, none⟩ = some (.int .u64 4454258360616747008) := cell_new w _ _ _ _ _ rfl
    have c2 : ((w.alloc (.cells #[.int .u64 4609753056924401664, .int .u64 4454258360616747008, .int .u64 4297306550709518336] 23)).drewN d).cell? ⟨w.heap.size, 2, none⟩ = some (.int .u64 4297306550709518336) := cell_new w _ _ _ _ _ rfl
    rcases hk4 with rfl | rfl | rfl | rfl
    · go_wp2
      go_roundw
      case rel => exact ⟨1, _, _, rfl, by omega, rfl, ha.sub (hy.mul (hz.mul Rep.cp0)), rfl⟩
      case measure => simp [intOf]
    · go_wp2
      go_roundw
      case rel => exact ⟨2, _, _, rfl, by omega, rfl, ha.sub (hy.mul (hz.mul Rep.cp1)), rfl⟩
      case measure => simp [intOf]
    · go_wp2
      go_roundw
      case rel => exact ⟨3, _, _, rfl, by omega, rfl, ha.sub (hy.mul (hz.mul Rep.cp2)), rfl⟩
      case measure => simp [intOf]
    · go_wp2
      go_ret
      exact ⟨_, rfl, ha, grown_drewN' _ ((Grown.refl _).alloc _ _)⟩
end
end Go.Proofs.Ytcfkhhnkboealaa
namespace Go.Proofs.Ytcfkhhnkboealaa
open Go.RowKit
set_option linter.unusedVariables false
set_option linter.unusedSimpArgs false
set_option maxRecDepth 100000
set_option maxHeartbeats 4000000

theorem bits_and3 (n : Int) : bits .and .i64 n 3 = n % 4 := by
  have h3 : (BitVec.ofInt 64 3).toNat = 2 ^ 2 - 1 := by decide
  have key : (BitVec.ofInt 64 n &&& BitVec.ofInt 64 3).toNat = (n % ((2 ^ 64 : Nat) : Int)).toNat % 2 ^ 2 := by
    rw [BitVec.toNat_and, BitVec.toNat_ofInt, h3, Nat.and_two_pow_sub_one_eq_mod]
  show IntKind.i64.wrap ((BitVec.ofInt 64 n &&& BitVec.ofInt 64 3).toNat : Nat) = n % 4
  rw [key, IntKind.wrap_i64]
  omega
def quarterM (f : Nat) : Nat := wholeF (fmul f 4603909380684499075)
def quarterX (f : Nat) : Nat := if fit f then (if feq (quarterM f) 0 then f else lessF f (quarterM f) 4607182418800017408) else nanB
def quarterN (f : Nat) : Int := if fit f then (if feq (quarterM f) 0 then 0 else wInt (quarterM f) % 4) else 0
theorem quarterM_bd {f : Nat} (hl : f < 18446744073709551616) (h : fit f = true) : Bd (quarterM f) 20 :=
  (((fit_bd hl h).mul (Bd.const' (k := 0) (by decide) (by decide +kernel) (by decide +kernel) (by decide)) (by decide)).whole (by decide)).1
theorem Rep.cq : Rep 4603909380684499075 4603909380684499075 := Rep.self (by decide) (by decide +kernel)
theorem Rep.c20 : Rep 4697254411347427328 4697254411347427328 := Rep.self (by decide) (by decide +kernel)
theorem tmod4 (n : Int) : (if n.tmod 4 < 0 then n.tmod 4 + 4 else n.tmod 4) = n % 4 := by
  have h := Int.tmod_eq_emod (a := n) (b := 4)
  split at h <;> split <;> omega
theorem tmod_bd (n : Int) : -4 < n.tmod 4 ∧ n.tmod 4 < 4 := by
  have h := Int.tmod_eq_emod (a := n) (b := 4)
  split at h <;> omega
section
variable {x y f g : Nat} (hx : Rep x f) (hy : Rep y g) (w : World)
include hx
theorem fit_c : Calls Try.prog 178 #[.float .f64 x] w (RetB (fit f) w) := by
  go_enter Try.func178, Try.ntmps178
  go_wp2_with (go_at_call 132; refine (within_c hx Rep.c20 _).mono ?_; rintro e w' ⟨n, rfl, rfl⟩)
  go_ret
  exact RetB.mk _ rfl
theorem quarter_c : Calls Try.prog 159 #[.float .f64 x] w (RetGI (quarterX f) (quarterN f) w) := by
  cases hf : fit f
  · have HF := Lib.hid hf
    go_enter Try.func159, Try.ntmps159
    go_wp2_with (first | (go_at_call 178; refine (fit_c hx _).mono ?_; rintro e w' ⟨n, rfl, rfl⟩) | (go_at_call 67; refine (nan_c _).mono ?_; rintro e w' ⟨r, n, rfl, hr, rfl⟩))
    go_ret2
    exact ⟨_, by unfold quarterN; rw [if_neg (by rw [HF.out]; simp)]; rfl, by unfold quarterX; rw [if_neg (by rw [HF.out]; simp)]; exact hr, grown_drewN _ _⟩
  · have HF := Lib.hid hf
    have HB := Lib.hid (quarterM_bd hx.flt hf)
    obtain ⟨m, hm⟩ : ∃ m, m = quarterM f := ⟨_, rfl⟩
    have HM := Lib.hid hm
    rw [← hm] at HB
    clear hm
    have hmR : Rep m m := Rep.self HB.out.lt (nrm_of_not HB.out.notN)
    have q1 := hmR.eq' Rep.c0
    have hb := wInt_bd HB.out
    rw [show (2 : Nat) ^ 20 = 1048576 by decide] at hb
    have k4 : ∀ w : World, (convert 25 3 (.float .f64 m)).run Try.prog w = .ok (.int .i64 (wInt m)) w := fun w =>
      run_convert_float_int w 25 3 .f64 .i64 _ _ (by kernel_rfl) (by kernel_rfl) (toIntVal_i64 (toInt_wInt HB.out.fin) (by omega) (by omega))
    have k5 := bits_and3 (wInt m)
    clear hb
    cases hq : feq m 0
    all_goals
      have HQ := Lib.hid hq
      go_enter Try.func159, Try.ntmps159
      go_wp2_with (first | (go_at_call 178; refine (fit_c hx _).mono ?_; rintro e w' ⟨n, rfl, rfl⟩) | (go_at_call 161; refine (whole_c (hx.mul Rep.cq) _).mono ?_; rintro e w' ⟨r, n, rfl, hr, rfl⟩; obtain rfl : r = m := (hr.eq_of (by have := HB.out.notN; rw [HM.out] at this; exact this)).trans HM.out.symm) | (go_at_call 179; refine (less_c hx hmR Rep.cone _).mono ?_; rintro e w' ⟨r2, rfl, hr2, hg⟩) | go_in)
      go_ret2
    · exact ⟨_, by unfold quarterN; rw [if_pos HF.out, ← HM.out, if_neg (by rw [HQ.out]; simp)]; rfl, by unfold quarterX; rw [if_pos HF.out, ← HM.out, if_neg (by rw [HQ.out]; simp)]; exact hr2, hg⟩
    · exact ⟨_, by unfold quarterN; rw [if_pos HF.out, ← HM.out, if_pos HQ.out]; rfl, by unfold quarterX; rw [if_pos HF.out, ← HM.out, if_pos HQ.out]; exact hx, grown_drewN _ _⟩
end
end Go.Proofs.Ytcfkhhnkboealaa
namespace Go.Proofs.Ytcfkhhnkboealaa
open Go.RowKit
set_option linter.unusedVariables false
set_option linter.unusedSimpArgs false
set_option maxRecDepth 100000
set_option maxHeartbeats 4000000

theorem fneg_fneg {f : Nat} (hl : f < 18446744073709551616) (hn : nrm f = f) : fneg (fneg f) = f := by
  cases h : isN f
  · have e := fneg_wd hl h
    have hr := (notN_iff f).1 h
    rw [e, wd_neg hr, Bool.not_not, ← num_wd hl]
  · rw [nrm_of h] at hn; rw [← hn]; decide +kernel
def turnS (f : Nat) : Nat :=
  if quarterN f = 0 then sineF (quarterX f) else if quarterN f = 1 then cosF (quarterX f) else if quarterN f = 2 then fneg (sineF (quarterX f)) else fneg (cosF (quarterX f))
def turnC (f : Nat) : Nat :=
  if quarterN f = 0 then cosF (quarterX f) else if quarterN f = 1 then fneg (sineF (quarterX f)) else if quarterN f = 2 then fneg (cosF (quarterX f)) else sineF (quarterX f)
theorem quarterN_cases (f : Nat) : quarterN f = 0 ∨ quarterN f = 1 ∨ quarterN f = 2 ∨ quarterN f = 3 := by
  unfold quarterN
  split
  · split <;> omega
  · omega
theorem sineF_lt (y : Nat) : sineF y < 18446744073709551616 := canon_map_lt _
theorem sineF_nrm (y : Nat) : nrm (sineF y) = sineF y := nrm_fmul _ _
theorem turn_unfit {f : Nat} (h : fit f = false) : turnS f = nanB ∧ turnC f = nanB := by
  have e1 : quarterN f = 0 := by unfold quarterN; rw [if_neg (by rw [h]; simp)]
  have e2 : quarterX f = nanB := by unfold quarterX; rw [if_neg (by rw [h]; simp)]
  unfold turnS turnC
  rw [e1, e2, if_pos rfl, if_pos rfl]
  decide +kernel
section
variable {x y f g : Nat} (hx : Rep x f) (hy : Rep y g) (w : World)
include hx
theorem turn_c : Calls Try.prog 115 #[.float .f64 x] w (RetGG (turnS f) (turnC f) w) := by
  have hff := Lib.hid (fneg_fneg (sineF_lt (quarterX f)) (sineF_nrm (quarterX f)))
  have h4 := Lib.hid (quarterN_cases f)
  rcases h4.out with hn | hn | hn | hn
  all_goals
    have HN := Lib.hid hn
    clear hn
    go_enter Try.func115, Try.ntmps115
    go_wp2_with (first | (go_at_call 159; refine (quarter_c hx _).mono ?_; rw [HN.out]; rintro e w' ⟨r, rfl, hr, hg⟩) | (go_at_call 160; refine (steps_c (by assumption) _).mono ?_; rintro e w' ⟨r1, r2, n, rfl, hr1, hr2, rfl⟩))
    all_goals go_ret2
  · exact ⟨_, _, rfl, by unfold turnS; rw [HN.out, if_pos rfl]; exact hr1, by unfold turnC; rw [HN.out, if_pos rfl]; exact hr2, grown_drewN' _ hg⟩
  · exact ⟨_, _, rfl, by unfold turnS; rw [HN.out, if_neg (by decide), if_pos rfl]; exact hr2, by unfold turnC; rw [HN.out, if_neg (by decide), if_pos rfl]; exact hr1.neg, grown_drewN' _ hg⟩
  · exact ⟨_, _, rfl, by unfold turnS; rw [HN.out, if_neg (by decide), if_neg (by decide), if_pos rfl]; exact hr1.neg, by unfold turnC; rw [HN.out, if_neg (by decide), if_neg (by decide), if_pos rfl]; exact hr2.neg, grown_drewN' _ hg⟩
  · exact ⟨_, _, rfl, by unfold turnS; rw [HN.out, if_neg (by decide), if_neg (by decide), if_neg (by decide)]; exact hr2.neg, by unfold turnC; rw [HN.out, if_neg (by decide), if_neg (by decide), if_neg (by decide), ← hff.out]; exact hr1.neg.neg, grown_drewN' _ hg⟩
end
end Go.Proofs.Ytcfkhhnkboealaa
namespace Go.Proofs.Ytcfkhhnkboealaa
open Go.RowKit
set_option linter.unusedVariables false
set_option linter.unusedSimpArgs false
set_option maxRecDepth 100000
set_option maxHeartbeats 4000000

def wrapM (f : Nat) : Nat := wholeF (fmul f 4594902181429758083)
def wrapY (f : Nat) : Nat := lessF f (wrapM f) 4616189618054758400
def wrapD (y : Nat) : Nat := fsub (fsub y 4618760256179416344) 4373459396149402631
def wrapA (y : Nat) : Nat := fadd (fadd y 4618760256179416344) 4373459396149402631
def wrapZ (y : Nat) : Nat := if flt 4614256656552045848 y then wrapD y else if fle y 13837628693406821656 then wrapA y else y
def wrapE (z : Nat) : Nat := if flt 4614256656552045848 z || fle z 13837628693406821656 then 4614256656552045848 else z
def wrapF (f : Nat) : Nat := if fit f then (if flt 13837628693406821656 f && fle f 4614256656552045848 then f else wrapE (wrapZ (wrapY f))) else nanB
theorem Rep.cw : Rep 4594902181429758083 4594902181429758083 := Rep.self (by decide) (by decide +kernel)
theorem Rep.cNH : Rep 13837628693406821656 13837628693406821656 := Rep.self (by decide) (by decide +kernel)
theorem Rep.c2H : Rep 4618760256179416344 4618760256179416344 := Rep.self (by decide) (by decide +kernel)
theorem Rep.c2L : Rep 4373459396149402631 4373459396149402631 := Rep.self (by decide) (by decide +kernel)
theorem Bd.mk_c {c k : Nat} (h : (c < 18446744073709551616 ∧ Proofs.Ytcfkhhnkboealaa.fin c = true ∧ rung c ≤ 4503599627370496 * (1023 + k) ∧ k ≤ 900)) : Bd c k := Bd.const' h.1 h.2.1 h.2.2.1 h.2.2.2
theorem wrapM_bd {f : Nat} (hl : f < 18446744073709551616) (h : fit f = true) : Bd (wrapM f) 20 :=
  (((fit_bd hl h).mul (Bd.mk_c (k := 0) (by decide +kernel)) (by decide)).whole (by decide)).1
theorem less_bd {f m t : Nat} (hf : Bd f 20) (hm : Bd m 20) (ht : Bd t 2) : Bd (lessF f m t) 26 := by
  have p0 : Bd (piece 0) 1 := Bd.mk_c (by decide +kernel)
  have p1 : Bd (piece 1) 1 := Bd.mk_c (by decide +kernel)
  have p2 : Bd (piece 2) 1 := Bd.mk_c (by decide +kernel)
  have a0 := hm.mul (ht.mul p0 (by decide)) (by decide)
  have a1 := hm.mul (ht.mul p1 (by decide)) (by decide)
  have a2 := hm.mul (ht.mul p2 (by decide)) (by decide)
  have b0 := (hf.mono (show 20 ≤ 23 by decide)).sub a0 (by decide)
  have b1 := b0.sub (a1.mono (show 23 ≤ 24 by decide)) (by decide)
  exact b1.sub (a2.mono (show 23 ≤ 25 by decide)) (by decide)
theorem wrapY_bd {f : Nat} (hl : f < 18446744073709551616) (h : fit f = true) : Bd (wrapY f) 26 :=
  less_bd (fit_bd hl h) (wrapM_bd hl h) (Bd.mk_c (by decide +kernel))
theorem Bd.rep {f k : Nat} (h : Bd f k) : Rep f f := Rep.self h.lt (nrm_of_not h.notN)
theorem Bd.subV {a b k : Nat} (h : Bd a k) (h2 : Bd b k) (hk : k + 1 ≤ 900) (w : World) : fres .sub a b w = fsub a b := (h.rep.sub h2.rep).eq_of (h.sub h2 hk).notN
theorem Bd.addV {a b k : Nat} (h : Bd a k) (h2 : Bd b k) (hk : k + 1 ≤ 900) (w : World) : fres .add a b w = fadd a b := (h.rep.add h2.rep).eq_of (h.add h2 hk).notN
theorem not_gt {y c : Nat} (hy : isN y = false) (hc : isN c = false) : (!flt c y) = fle y c := by
  rw [flt_eq, fle_eq, hy, hc, Bool.eq_iff_iff]; simp
theorem nle {y : Nat} (hy : isN y = false) : flt 13837628693406821656 y = !fle y 13837628693406821656 := by
  rw [← not_gt hy (by decide +kernel), Bool.not_not]
section
variable {x y f g : Nat} (hx : Rep x f) (hy : Rep y g) (w : World)
include hx
end
end Go.Proofs.Ytcfkhhnkboealaa
namespace Go.Proofs.Ytcfkhhnkboealaa
open Go.RowKit
set_option linter.unusedVariables false
set_option linter.unusedSimpArgs false
set_option maxRecDepth 100000
set_option maxHeartbeats 2000000

def cH4 : Nat := fdiv 4614256656552045848 4616189618054758400
def cH2 : Nat := fdiv 4614256656552045848 4611686018427387904
def cL2 : Nat := fdiv 4368955796522032135 4611686018427387904
def placeP (p q : Nat) : Nat := if feq p 0 then 0 else if feq p q && isInf p 1 then cH4 else if fle p q then coreF (fdiv p q) else fsub cH2 (fsub (coreF (fdiv q p)) cL2)
def backP (s : Bool) (b : Nat) : Nat := if s then fsub 4614256656552045848 (fsub b 4368955796522032135) else b
def ofAbs (y x : Nat) : Nat := backP (sgn x) (placeP (fabs y) (fabs x))
def ofF (y x : Nat) : Nat := if isN y || isN x then nanB else signed (ofAbs y x) y
def ofR (y x : Nat) : Nat := if isN y || isN x then nanB else if sgn y then fneg (ofAbs y x) else ofAbs y x
theorem sval_inf_only {q : Nat} (hl : q < 18446744073709551616) (hn : isN q = false) (h : sval q = sval 9218868437227405312) : q = 9218868437227405312 := by
  have h1 := mval_le_inf hn
  rw [sval_infP] at h
  unfold sval at h
  have h0 : 0 < mval 9218868437227405312 := by decide +kernel
  generalize hM : mval 9218868437227405312 = M at *
  cases hs : sgn q
  · rw [hs, if_neg (by simp)] at h
    have h2 : mval 9218868437227405312 ≤ mval (rung q) := by omega
    have h3 := mval_le_iff.1 h2
    have h4 := (notN_iff q).1 hn
    unfold sgn at hs; unfold rung at h3 h4
    simp at hs
    omega
  · rw [hs, if_pos rfl] at h; omega
theorem feq_inf {p q : Nat} (hp : p < 18446744073709551616) (hq : q < 18446744073709551616) (hn : isN p = false) (hm : isN q = false) : (isInf p 1 && isInf q 1) = (feq p q && isInf p 1) := by
  rw [infP_iff hp hn, infP_iff hq hm, feq_eq, hn, hm, Bool.eq_iff_iff]
  simp only [Bool.and_eq_true, Bool.not_false, Bool.true_and, decide_eq_true_eq]
  constructor
  · rintro ⟨rfl, rfl⟩; exact ⟨rfl, rfl⟩
  · rintro ⟨h1, rfl⟩; exact ⟨rfl, sval_inf_only hq hm h1.symm⟩
theorem Rep.cH4 : Rep cH4 cH4 := Rep.self (by decide +kernel) (by decide +kernel)
section
variable {x y z f g h : Nat} (hx : Rep x f) (hy : Rep y g) (w : World)
include hx hy
theorem of_c : Calls Try.prog 114 #[.float .f64 y, .float .f64 x] w (RetF (ofF g f) w) := by
  have ny := hy.none'
  have nx := hx.none'
  cases hn : isN g
  · cases hm : isN f
    · obtain rfl := hy.eq_of hn
      obtain rfl := hx.eq_of hm
      rw [hn] at ny
      rw [hm] at nx
      have HN : RowKit.Hid (isN y = false) := Lib.hid hn
      have HM : RowKit.Hid (isN x = false) := Lib.hid hm
      have hY := hy.flt
      have hX := hx.flt
      have pn : isN (fabs y) = false := by rw [isN_abs]; exact hn
      have qn : isN (fabs x) = false := by rw [isN_abs]; exact hm
      have hp0 : Rep (fabs y) (fabs y) := by rw [fabs_of hn]; exact (by have := hy.abs; rw [fabs_of hn] at this; exact this)
      have hq0 : Rep (fabs x) (fabs x) := by rw [fabs_of hm]; exact (by have := hx.abs; rw [fabs_of hm] at this; exact this)
      have hO : ofF y x = signed (ofAbs y x) y := by unfold ofF; rw [hn, hm, if_neg (by simp)]
      have hA : ofAbs y x = backP (sgn x) (placeP (fabs y) (fabs x)) := rfl
      have hmin : minus x = sgn x := by unfold minus; rw [hm]; rfl
      clear hn hm hY hX
      obtain ⟨P, hP⟩ : ∃ P, P = fabs y := ⟨_, rfl⟩
      obtain ⟨Q, hQ⟩ : ∃ Q, Q = fabs x := ⟨_, rfl⟩
      have HP := Lib.hid hP
      have HQ := Lib.hid hQ
      rw [← hP] at pn hp0 hA
      rw [← hQ] at qn hq0 hA
      clear hP hQ
      have NP := Lib.hid pn
      have NQ := Lib.hid qn
      clear pn qn
      have t0 := hp0.eq' Rep.c0
      have t1 := hp0.eq' hq0
      have t3 := hp0.le' hq0
      have hL : placeP P Q = if feq P 0 then 0 else if feq P Q && isInf P 1 then fdiv 4614256656552045848 4616189618054758400 else if fle P Q then coreF (fdiv P Q) else fsub (fdiv 4614256656552045848 4611686018427387904) (fsub (coreF (fdiv Q P)) (fdiv 4368955796522032135 4611686018427387904)) := by unfold placeP cH4 cH2 cL2; rfl
      have HO := Lib.hid hO
      clear hO
      cases hs : sgn x
      · cases c0 : feq P 0
        · rw [c0] at t0
          cases c1 : feq P Q
          · rw [c1] at t1
            cases c3 : fle P Q
            · rw [c3, t1, Bool.or_false] at t3
              rw [if_neg (by rw [c0]; simp), if_neg (by rw [c1]; simp), if_neg (by rw [c3]; simp)] at hL
              rw [hL] at hA
              rw [hs] at hmin hA
              have HA := Lib.hid hA
              clear hA hL
              have HMi := Lib.hid hmin
              clear hmin
              have HS := Lib.hid hs
              clear hs
              clear c0 c1 c3
              go_enter Try.func114, Try.ntmps114
              go_wp2_with (first | (go_at_call 23; refine (abs_c (by with_reducible first | exact hy | exact hx) _).mono ?_; (first | (rintro e w' ⟨r, n, rfl, hr, rfl⟩; rw [← HP.out] at hr; obtain rfl : P = r := (hr.eq_of NP.out).symm) | (rintro e w' ⟨r, n, rfl, hr, rfl⟩; rw [← HQ.out] at hr; obtain rfl : Q = r := (hr.eq_of NQ.out).symm))) | (go_at_call 104; refine (isInf_c hp0 _ _).mono ?_; rw [c2]; rintro e w' ⟨n, rfl, rfl⟩) | (go_at_call 156; refine (core_c (hq0.quo hp0) _).mono ?_; rintro e w' ⟨v, n, rfl, hv, rfl⟩) | (go_at_call 157; refine (minus_c hx _).mono ?_; rw [HMi.out]; rintro e w' ⟨n, rfl, rfl⟩) | (go_at_call 158; refine (signed_c ((Rep.cpiH.quo Rep.two).sub (hv.sub (Rep.cpiL.quo Rep.two))) hy _).mono ?_; rintro e w' ⟨u, n, rfl, hu, rfl⟩) | (go_at_call 155; refine (pi_c _).mono ?_; rintro e w' ⟨r1, r2, n, rfl, h1, h2, rfl⟩; obtain rfl := h1.eq_of (by decide +kernel); obtain rfl := h2.eq_of (by decide +kernel)))
              go_ret
              exact RetF.mk _ (by rw [HO.out, HA.out]; unfold backP; rw [if_neg (by simp)]; exact hu)
            · rw [c3, t1, Bool.or_false] at t3
              rw [if_neg (by rw [c0]; simp), if_neg (by rw [c1]; simp), if_pos c3] at hL
              rw [hL] at hA
              rw [hs] at hmin hA
              have HA := Lib.hid hA
              clear hA hL
              have HMi := Lib.hid hmin
              clear hmin
              have HS := Lib.hid hs
              clear hs
              clear c0 c1 c3
              go_enter Try.func114, Try.ntmps114
              go_wp2_with (first | (go_at_call 23; refine (abs_c (by with_reducible first | exact hy | exact hx) _).mono ?_; (first | (rintro e w' ⟨r, n, rfl, hr, rfl⟩; rw [← HP.out] at hr; obtain rfl : P = r := (hr.eq_of NP.out).symm) | (rintro e w' ⟨r, n, rfl, hr, rfl⟩; rw [← HQ.out] at hr; obtain rfl : Q = r := (hr.eq_of NQ.out).symm))) | (go_at_call 104; refine (isInf_c hp0 _ _).mono ?_; rw [c2]; rintro e w' ⟨n, rfl, rfl⟩) | (go_at_call 156; refine (core_c (hp0.quo hq0) _).mono ?_; rintro e w' ⟨v, n, rfl, hv, rfl⟩) | (go_at_call 157; refine (minus_c hx _).mono ?_; rw [HMi.out]; rintro e w' ⟨n, rfl, rfl⟩) | (go_at_call 158; refine (signed_c (hv) hy _).mono ?_; rintro e w' ⟨u, n, rfl, hu, rfl⟩) | (go_at_call 155; refine (pi_c _).mono ?_; rintro e w' ⟨r1, r2, n, rfl, h1, h2, rfl⟩; obtain rfl := h1.eq_of (by decide +kernel); obtain rfl := h2.eq_of (by decide +kernel)))
              go_ret
              exact RetF.mk _ (by rw [HO.out, HA.out]; unfold backP; rw [if_neg (by simp)]; exact hu)
          · rw [c1] at t1
            cases c2 : isInf P 1
            · cases c3 : fle P Q
              · exfalso
                rw [c3, t1, Bool.or_true] at t3
                cases t3
              · clear t3
                rw [if_neg (by rw [c0]; simp), if_neg (by rw [c2]; simp), if_pos c3] at hL
                rw [hL] at hA
                rw [hs] at hmin hA
                have HA := Lib.hid hA
                clear hA hL
                have HMi := Lib.hid hmin
                clear hmin
                have HS := Lib.hid hs
                clear hs
                clear c0 c1 c3
                go_enter Try.func114, Try.ntmps114
                go_wp2_with (first | (go_at_call 23; refine (abs_c (by with_reducible first | exact hy | exact hx) _).mono ?_; (first | (rintro e w' ⟨r, n, rfl, hr, rfl⟩; rw [← HP.out] at hr; obtain rfl : P = r := (hr.eq_of NP.out).symm) | (rintro e w' ⟨r, n, rfl, hr, rfl⟩; rw [← HQ.out] at hr; obtain rfl : Q = r := (hr.eq_of NQ.out).symm))) | (go_at_call 104; refine (isInf_c hp0 _ _).mono ?_; rw [c2]; rintro e w' ⟨n, rfl, rfl⟩) | (go_at_call 156; refine (core_c (hp0.quo hq0) _).mono ?_; rintro e w' ⟨v, n, rfl, hv, rfl⟩) | (go_at_call 157; refine (minus_c hx _).mono ?_; rw [HMi.out]; rintro e w' ⟨n, rfl, rfl⟩) | (go_at_call 158; refine (signed_c (hv) hy _).mono ?_; rintro e w' ⟨u, n, rfl, hu, rfl⟩) | (go_at_call 155; refine (pi_c _).mono ?_; rintro e w' ⟨r1, r2, n, rfl, h1, h2, rfl⟩; obtain rfl := h1.eq_of (by decide +kernel); obtain rfl := h2.eq_of (by decide +kernel)))
                go_ret
                exact RetF.mk _ (by rw [HO.out, HA.out]; unfold backP; rw [if_neg (by simp)]; exact hu)
            · rw [if_neg (by rw [c0]; simp), if_pos (by rw [c1, c2]; rfl)] at hL
              rw [hL] at hA
              rw [hs] at hmin hA
              have HA := Lib.hid hA
              clear hA hL
              have HMi := Lib.hid hmin
              clear hmin
              have HS := Lib.hid hs
              clear hs
              clear c0 c1
              go_enter Try.func114, Try.ntmps114
              go_wp2_with (first | (go_at_call 23; refine (abs_c (by with_reducible first | exact hy | exact hx) _).mono ?_; (first | (rintro e w' ⟨r, n, rfl, hr, rfl⟩; rw [← HP.out] at hr; obtain rfl : P = r := (hr.eq_of NP.out).symm) | (rintro e w' ⟨r, n, rfl, hr, rfl⟩; rw [← HQ.out] at hr; obtain rfl : Q = r := (hr.eq_of NQ.out).symm))) | (go_at_call 104; refine (isInf_c hp0 _ _).mono ?_; rw [c2]; rintro e w' ⟨n, rfl, rfl⟩) | (go_at_call 156; refine (core_c (hp0.quo hq0) _).mono ?_; rintro e w' ⟨v, n, rfl, hv, rfl⟩) | (go_at_call 157; refine (minus_c hx _).mono ?_; rw [HMi.out]; rintro e w' ⟨n, rfl, rfl⟩) | (go_at_call 158; refine (signed_c (Rep.cpiH.quo Rep.c4) hy _).mono ?_; rintro e w' ⟨u, n, rfl, hu, rfl⟩) | (go_at_call 155; refine (pi_c _).mono ?_; rintro e w' ⟨r1, r2, n, rfl, h1, h2, rfl⟩; obtain rfl := h1.eq_of (by decide +kernel); obtain rfl := h2.eq_of (by decide +kernel)))
              go_ret
              exact RetF.mk _ (by rw [HO.out, HA.out]; unfold backP; rw [if_neg (by simp)]; exact hu)
        · rw [c0] at t0
          rw [if_pos c0] at hL
          rw [hL] at hA
          rw [hs] at hmin hA
          have HA := Lib.hid hA
          clear hA hL
          have HMi := Lib.hid hmin
          clear hmin
          have HS := Lib.hid hs
          clear hs
          clear c0
          go_enter Try.func114, Try.ntmps114
          go_wp2_with (first | (go_at_call 23; refine (abs_c (by with_reducible first | exact hy | exact hx) _).mono ?_; (first | (rintro e w' ⟨r, n, rfl, hr, rfl⟩; rw [← HP.out] at hr; obtain rfl : P = r := (hr.eq_of NP.out).symm) | (rintro e w' ⟨r, n, rfl, hr, rfl⟩; rw [← HQ.out] at hr; obtain rfl : Q = r := (hr.eq_of NQ.out).symm))) | (go_at_call 104; refine (isInf_c hp0 _ _).mono ?_; rw [c2]; rintro e w' ⟨n, rfl, rfl⟩) | (go_at_call 156; refine (core_c (hp0.quo hq0) _).mono ?_; rintro e w' ⟨v, n, rfl, hv, rfl⟩) | (go_at_call 157; refine (minus_c hx _).mono ?_; rw [HMi.out]; rintro e w' ⟨n, rfl, rfl⟩) | (go_at_call 158; refine (signed_c (Rep.c0) hy _).mono ?_; rintro e w' ⟨u, n, rfl, hu, rfl⟩) | (go_at_call 155; refine (pi_c _).mono ?_; rintro e w' ⟨r1, r2, n, rfl, h1, h2, rfl⟩; obtain rfl := h1.eq_of (by decide +kernel); obtain rfl := h2.eq_of (by decide +kernel)))
          go_ret
          exact RetF.mk _ (by rw [HO.out, HA.out]; unfold backP; rw [if_neg (by simp)]; exact hu)
      · cases c0 : feq P 0
        · rw [c0] at t0
          cases c1 : feq P Q
          · rw [c1] at t1
            cases c3 : fle P Q
            · rw [c3, t1, Bool.or_false] at t3
              rw [if_neg (by rw [c0]; simp), if_neg (by rw [c1]; simp), if_neg (by rw [c3]; simp)] at hL
              rw [hL] at hA
              rw [hs] at hmin hA
              have HA := Lib.hid hA
              clear hA hL
              have HMi := Lib.hid hmin
              clear hmin
              have HS := Lib.hid hs
              clear hs
              clear c0 c1 c3
              go_enter Try.func114, Try.ntmps114
              go_wp2_with (first | (go_at_call 23; refine (abs_c (by with_reducible first | exact hy | exact hx) _).mono ?_; (first | (rintro e w' ⟨r, n, rfl, hr, rfl⟩; rw [← HP.out] at hr; obtain rfl : P = r := (hr.eq_of NP.out).symm) | (rintro e w' ⟨r, n, rfl, hr, rfl⟩; rw [← HQ.out] at hr; obtain rfl : Q = r := (hr.eq_of NQ.out).symm))) | (go_at_call 104; refine (isInf_c hp0 _ _).mono ?_; rw [c2]; rintro e w' ⟨n, rfl, rfl⟩) | (go_at_call 156; refine (core_c (hq0.quo hp0) _).mono ?_; rintro e w' ⟨v, n, rfl, hv, rfl⟩) | (go_at_call 157; refine (minus_c hx _).mono ?_; rw [HMi.out]; rintro e w' ⟨n, rfl, rfl⟩) | (go_at_call 158; refine (signed_c (Rep.cpiH.sub (((Rep.cpiH.quo Rep.two).sub (hv.sub (Rep.cpiL.quo Rep.two))).sub Rep.cpiL)) hy _).mono ?_; rintro e w' ⟨u, n, rfl, hu, rfl⟩) | (go_at_call 155; refine (pi_c _).mono ?_; rintro e w' ⟨r1, r2, n, rfl, h1, h2, rfl⟩; obtain rfl := h1.eq_of (by decide +kernel); obtain rfl := h2.eq_of (by decide +kernel)))
              go_ret
              exact RetF.mk _ (by rw [HO.out, HA.out]; unfold backP; rw [if_pos rfl]; exact hu)
            · rw [c3, t1, Bool.or_false] at t3
              rw [if_neg (by rw [c0]; simp), if_neg (by rw [c1]; simp), if_pos c3] at hL
              rw [hL] at hA
              rw [hs] at hmin hA
              have HA := Lib.hid hA
              clear hA hL
              have HMi := Lib.hid hmin
              clear hmin
              have HS := Lib.hid hs
              clear hs
              clear c0 c1 c3
              go_enter Try.func114, Try.ntmps114
              go_wp2_with (first | (go_at_call 23; refine (abs_c (by with_reducible first | exact hy | exact hx) _).mono ?_; (first | (rintro e w' ⟨r, n, rfl, hr, rfl⟩; rw [← HP.out] at hr; obtain rfl : P = r := (hr.eq_of NP.out).symm) | (rintro e w' ⟨r, n, rfl, hr, rfl⟩; rw [← HQ.out] at hr; obtain rfl : Q = r := (hr.eq_of NQ.out).symm))) | (go_at_call 104; refine (isInf_c hp0 _ _).mono ?_; rw [c2]; rintro e w' ⟨n, rfl, rfl⟩) | (go_at_call 156; refine (core_c (hp0.quo hq0) _).mono ?_; rintro e w' ⟨v, n, rfl, hv, rfl⟩) | (go_at_call 157; refine (minus_c hx _).mono ?_; rw [HMi.out]; rintro e w' ⟨n, rfl, rfl⟩) | (go_at_call 158; refine (signed_c (Rep.cpiH.sub ((hv).sub Rep.cpiL)) hy _).mono ?_; rintro e w' ⟨u, n, rfl, hu, rfl⟩) | (go_at_call 155; refine (pi_c _).mono ?_; rintro e w' ⟨r1, r2, n, rfl, h1, h2, rfl⟩; obtain rfl := h1.eq_of (by decide +kernel); obtain rfl := h2.eq_of (by decide +kernel)))
              go_ret
              exact RetF.mk _ (by rw [HO.out, HA.out]; unfold backP; rw [if_pos rfl]; exact hu)
          · rw [c1] at t1
            cases c2 : isInf P 1
            · cases c3 : fle P Q
              · exfalso
                rw [c3, t1, Bool.or_true] at t3
                cases t3
              · clear t3
                rw [if_neg (by rw [c0]; simp), if_neg (by rw [c2]; simp), if_pos c3] at hL
                rw [hL] at hA
                rw [hs] at hmin hA
                have HA := Lib.hid hA
                clear hA hL
                have HMi := Lib.hid hmin
                clear hmin
                have HS := Lib.hid hs
                clear hs
                clear c0 c1 c3
                go_enter Try.func114, Try.ntmps114
                go_wp2_with (first | (go_at_call 23; refine (abs_c (by with_reducible first | exact hy | exact hx) _).mono ?_; (first | (rintro e w' ⟨r, n, rfl, hr, rfl⟩; rw [← HP.out] at hr; obtain rfl : P = r := (hr.eq_of NP.out).symm) | (rintro e w' ⟨r, n, rfl, hr, rfl⟩; rw [← HQ.out] at hr; obtain rfl : Q = r := (hr.eq_of NQ.out).symm))) | (go_at_call 104; refine (isInf_c hp0 _ _).mono ?_; rw [c2]; rintro e w' ⟨n, rfl, rfl⟩) | (go_at_call 156; refine (core_c (hp0.quo hq0) _).mono ?_; rintro e w' ⟨v, n, rfl, hv, rfl⟩) | (go_at_call 157; refine (minus_c hx _).mono ?_; rw [HMi.out]; rintro e w' ⟨n, rfl, rfl⟩) | (go_at_call 158; refine (signed_c (Rep.cpiH.sub ((hv).sub Rep.cpiL)) hy _).mono ?_; rintro e w' ⟨u, n, rfl, hu, rfl⟩) | (go_at_call 155; refine (pi_c _).mono ?_; rintro e w' ⟨r1, r2, n, rfl, h1, h2, rfl⟩; obtain rfl := h1.eq_of (by decide +kernel); obtain rfl := h2.eq_of (by decide +kernel)))
                go_ret
                exact RetF.mk _ (by rw [HO.out, HA.out]; unfold backP; rw [if_pos rfl]; exact hu)
            · rw [if_neg (by rw [c0]; simp), if_pos (by rw [c1, c2]; rfl)] at hL
              rw [hL] at hA
              rw [hs] at hmin hA
              have HA := Lib.hid hA
              clear hA hL
              have HMi := Lib.hid hmin
              clear hmin
              have HS := Lib.hid hs
              clear hs
              clear c0 c1
              go_enter Try.func114, Try.ntmps114
              go_wp2_with (first | (go_at_call 23; refine (abs_c (by with_reducible first | exact hy | exact hx) _).mono ?_; (first | (rintro e w' ⟨r, n, rfl, hr, rfl⟩; rw [← HP.out] at hr; obtain rfl : P = r := (hr.eq_of NP.out).symm) | (rintro e w' ⟨r, n, rfl, hr, rfl⟩; rw [← HQ.out] at hr; obtain rfl : Q = r := (hr.eq_of NQ.out).symm))) | (go_at_call 104; refine (isInf_c hp0 _ _).mono ?_; rw [c2]; rintro e w' ⟨n, rfl, rfl⟩) | (go_at_call 156; refine (core_c (hp0.quo hq0) _).mono ?_; rintro e w' ⟨v, n, rfl, hv, rfl⟩) | (go_at_call 157; refine (minus_c hx _).mono ?_; rw [HMi.out]; rintro e w' ⟨n, rfl, rfl⟩) | (go_at_call 158; refine (signed_c (Rep.cpiH.sub ((Rep.cpiH.quo Rep.c4).sub Rep.cpiL)) hy _).mono ?_; rintro e w' ⟨u, n, rfl, hu, rfl⟩) | (go_at_call 155; refine (pi_c _).mono ?_; rintro e w' ⟨r1, r2, n, rfl, h1, h2, rfl⟩; obtain rfl := h1.eq_of (by decide +kernel); obtain rfl := h2.eq_of (by decide +kernel)))
              go_ret
              exact RetF.mk _ (by rw [HO.out, HA.out]; unfold backP; rw [if_pos rfl]; exact hu)
        · rw [c0] at t0
          rw [if_pos c0] at hL
          rw [hL] at hA
          rw [hs] at hmin hA
          have HA := Lib.hid hA
          clear hA hL
          have HMi := Lib.hid hmin
          clear hmin
          have HS := Lib.hid hs
          clear hs
          clear c0
          go_enter Try.func114, Try.ntmps114
          go_wp2_with (first | (go_at_call 23; refine (abs_c (by with_reducible first | exact hy | exact hx) _).mono ?_; (first | (rintro e w' ⟨r, n, rfl, hr, rfl⟩; rw [← HP.out] at hr; obtain rfl : P = r := (hr.eq_of NP.out).symm) | (rintro e w' ⟨r, n, rfl, hr, rfl⟩; rw [← HQ.out] at hr; obtain rfl : Q = r := (hr.eq_of NQ.out).symm))) | (go_at_call 104; refine (isInf_c hp0 _ _).mono ?_; rw [c2]; rintro e w' ⟨n, rfl, rfl⟩) | (go_at_call 156; refine (core_c (hp0.quo hq0) _).mono ?_; rintro e w' ⟨v, n, rfl, hv, rfl⟩) | (go_at_call 157; refine (minus_c hx _).mono ?_; rw [HMi.out]; rintro e w' ⟨n, rfl, rfl⟩) | (go_at_call 158; refine (signed_c (Rep.cpiH.sub ((Rep.c0).sub Rep.cpiL)) hy _).mono ?_; rintro e w' ⟨u, n, rfl, hu, rfl⟩) | (go_at_call 155; refine (pi_c _).mono ?_; rintro e w' ⟨r1, r2, n, rfl, h1, h2, rfl⟩; obtain rfl := h1.eq_of (by decide +kernel); obtain rfl := h2.eq_of (by decide +kernel)))
          go_ret
          exact RetF.mk _ (by rw [HO.out, HA.out]; unfold backP; rw [if_pos rfl]; exact hu)
    · obtain rfl := hy.eq_of hn
      rw [hn] at ny
      rw [hm] at nx
      have HM := Lib.hid hm
      clear hm hn
      go_enter Try.func114, Try.ntmps114
      go_wp2_with go_in
      go_ret
      have hR : Rep _ (ofF y f) := (by unfold ofF; rw [HM.out, if_pos (by simp)]; exact Rep.nanC)
      first | exact RetF.mk0 hR | exact RetF.mk _ hR
  · rw [hn] at ny
    have HN := Lib.hid hn
    clear hn nx
    go_enter Try.func114, Try.ntmps114
    go_wp2_with go_in
    go_ret
    · have hR : Rep _ (ofF g f) := (by unfold ofF; rw [HN.out, if_pos (by simp)]; exact Rep.nanC)
      first | exact RetF.mk0 hR | exact RetF.mk _ hR
end
section
variable {x f : Nat} (hx : Rep x f) (w : World)
include hx
end
end Go.Proofs.Ytcfkhhnkboealaa
namespace Go.Proofs.Ytcfkhhnkboealaa
open Go.RowKit
set_option linter.unusedVariables false
set_option linter.unusedSimpArgs false
set_option maxRecDepth 100000
set_option maxHeartbeats 4000000
section
variable {x y z f g h : Nat} (hx : Rep x f) (hy : Rep y g) (w : World)
include hx hy
end
end Go.Proofs.Ytcfkhhnkboealaa
namespace Go.Proofs.Ytcfkhhnkboealaa
open Go.RowKit
set_option linter.unusedVariables false
set_option linter.unusedSimpArgs false
set_option maxRecDepth 100000
set_option maxHeartbeats 4000000
section
variable {x y z f g h : Nat} (hx : Rep x f) (hy : Rep y g) (w : World)
include hx hy
end
section
variable {x f : Nat} (hx : Rep x f) (w : World)
include hx
end
end Go.Proofs.Ytcfkhhnkboealaa
