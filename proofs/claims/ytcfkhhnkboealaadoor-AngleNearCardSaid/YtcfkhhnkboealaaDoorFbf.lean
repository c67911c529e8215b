/- Big floats of 400 bits: set, with rounding. Big floats of 400 bits: set, where bits are cut; both together. Big floats of 400 bits by their values: what set leaves; new ones, powers of two, sizes without sign. Big floats of 400 bits by their values: new ones, of a float, without sign. Big floats of 400 bits by their values: two of them as whole numbers by the same power of two. Big floats of 400 bits by their values: sums, differences, comparisons. -/
import Derived.Test.YtcfkhhnkboealaaDoorWde
import Derived.Test.YtcfkhhnkboealaaDoorCwf
import Derived.Test.YtcfkhhnkboealaaDoorRtz
import Derived.Test.YtcfkhhnkboealaaDoorRsx
import Derived.OwnWalk
namespace Go.Proofs.YtcfkhhnkboealaaDoor
open Go.RowKit
set_option linter.unusedVariables false
set_option linter.unusedSimpArgs false
set_option maxRecDepth 100000
set_option maxHeartbeats 4000000
/-- a big float's cells. -/
structure FlC (w : World) (g : Nat) (b : Bool) (v : Value) (E most : Int) (far : Bool) : Prop where
  at' : FlAt w g b v E most far
  no : NoInt w g
  fz : ∀ j, w.frozen? ⟨g, j, none⟩ = false
section
variable {w w' : World} {g g' : Nat} {b far : Bool} {v : Value} {E most : Int}
theorem FlC.lt (h : FlC w g b v E most far) : g < w.heap.size := h.at'.lt
theorem FlC.grown (h : FlC w g b v E most far) (k : Grown w w') : FlC w' g b v E most far := ⟨h.at'.grown k, h.no.grown k h.lt, fun j => (k.2.1 _).trans (h.fz j)⟩
theorem FlC.kept (h : FlC w g b v E most far) (k : GrB g' w w') (hne : g ≠ g') : FlC w' g b v E most far :=
  ⟨⟨by rw [k.cell h.lt hne]; exact h.at'.c0, by rw [k.cell h.lt hne]; exact h.at'.c1, by rw [k.cell h.lt hne]; exact h.at'.c2, by rw [k.cell h.lt hne]; exact h.at'.c3, by rw [k.cell h.lt hne]; exact h.at'.c4, Nat.lt_of_lt_of_le h.lt k.2.2⟩, h.no.kept k h.lt hne, fun j => (k.2.1 _).trans (h.fz j)⟩
theorem FlC.s0 (h : FlC w g b v E most far) (b' : Bool) : FlC (w.setCell ⟨g, 0, none⟩ (.bool b')) g b' v E most far := ⟨h.at'.s0 b', h.no.set (by intro x; simp), fun j => (World.frozen?_setCell _ _ _ _).trans (h.fz j)⟩
theorem FlC.s1 (h : FlC w g b v E most far) (v' : Value) (hv : ∀ x, v' ≠ .int .u32 x) : FlC (w.setCell ⟨g, 1, none⟩ v') g b v' E most far := ⟨h.at'.s1 v', h.no.set hv, fun j => (World.frozen?_setCell _ _ _ _).trans (h.fz j)⟩
theorem FlC.s2 (h : FlC w g b v E most far) (E' : Int) : FlC (w.setCell ⟨g, 2, none⟩ (.int .i64 E')) g b v E' most far := ⟨h.at'.s2 E', h.no.set (by intro x; simp), fun j => (World.frozen?_setCell _ _ _ _).trans (h.fz j)⟩
theorem FlC.s3 (h : FlC w g b v E most far) (m' : Int) : FlC (w.setCell ⟨g, 3, none⟩ (.int .i64 m')) g b v E m' far := ⟨h.at'.s3 m', h.no.set (by intro x; simp), fun j => (World.frozen?_setCell _ _ _ _).trans (h.fz j)⟩
theorem FlC.s4 (h : FlC w g b v E most far) (f' : Bool) : FlC (w.setCell ⟨g, 4, none⟩ (.bool f')) g b v E most f' := ⟨h.at'.s4 f', h.no.set (by intro x; simp), fun j => (World.frozen?_setCell _ _ _ _).trans (h.fz j)⟩
end
theorem isW_sl {w : World} {v : Value} {l : List Nat} (h : IsW w v l) : ∀ x, v ≠ .int .u32 x := by
  obtain ⟨s, c, e, _⟩ := h
  subst e; intro x; simp
/-- what set leaves: figures A' by 2^E'. -/
def RetFb (g A' : Nat) (b' : Bool) (E' : Int) (w : World) (e : Ending) (w' : World) : Prop :=
  e = .returned (.pointer (some ⟨g, 0, none⟩)) ∧ (∃ v', FlC w' g b' v' E' 400 false ∧ IsW w' v' (digs A')) ∧ GrB g w w'
/-- the figures that are kept, and how many were cut. -/
def cutA (A : Nat) : Nat := if bl A ≤ 400 then A else A / 2 ^ (bl A - 400) + (if 2 ^ (bl A - 400 - 1) < A % 2 ^ (bl A - 400) ∨ (2 ^ (bl A - 400 - 1) = A % 2 ^ (bl A - 400) ∧ A / 2 ^ (bl A - 400) % 2 = 1) then 1 else 0)
def cutN (A : Nat) : Nat := bl A - 400
/-- what is set: without noughts at the end. -/
def SetTo (A A' : Nat) (b b' : Bool) (E E' : Int) : Prop := (cutA A = 0 ∧ A' = 0 ∧ b' = false ∧ E' = 0) ∨ (cutA A ≠ 0 ∧ ∃ k : Nat, 2 ^ k ∣ cutA A ∧ A' = cutA A / 2 ^ k ∧ b' = b ∧ E' = E + cutN A + k)
def RetSet (g A : Nat) (below : Bool) (E : Int) (w : World) (e : Ending) (w' : World) : Prop := ∃ A' b' E', SetTo A A' below b' E E' ∧ RetFb g A' b' E' w e w'
theorem fset_a {g A : Nat} {v v0 : Value} {E E0 : Int} {b0 far0 below : Bool} {w : World} (hT : TabAt w) (hz : FlC w g b0 v0 E0 400 far0)
    (h : IsW w v (digs A)) (hE1 : -1000000 ≤ E) (hE2 : E ≤ 1000000) (hl : (digs A).length ≤ 3000) (hb' : bl A ≤ 400) :
    Calls Tryd.prog 59 #[.pointer (some ⟨g, 0, none⟩), .bool below, v, .int .i64 E, .bool false] w (RetSet g A below E w) := by
  have H := Lib.hid h
  have HS := Lib.hid (digs_sm A)
  have HW := Lib.hid (wv_digs A)
  have hc3 := hz.at'.c3
  have HL := Lib.hid hl
  obtain ⟨n, hn⟩ : ∃ n, bl A = n := ⟨_, rfl⟩
  have hnb : n ≤ 96000 := by
    obtain ⟨K, hK⟩ : ∃ K : Nat, K = 96000 := ⟨_, rfl⟩
    have h1 := digs_lt A
    have h2 : A < 2 ^ K := Nat.lt_of_lt_of_le h1 (by rw [show (4294967296 : Nat) = 2 ^ 32 by decide, ← Nat.pow_mul]; exact Nat.pow_le_pow_right (by decide) (by omega))
    have := bl_le_of h2
    omega
  have HN := Lib.hid hn
  have HT := Lib.hid hT
  have HZ := Lib.hid hz
  have HKB : RowKit.Hid (∀ k : Nat, 2 ^ k ∣ A → (A = 0 → k = 0) → k ≤ 96000) := Lib.hid (fun k hk h0 => by
    by_cases hA : A = 0
    · have := h0 hA; omega
    · have h1 := Nat.le_of_dvd (Nat.pos_of_ne_zero hA) hk
      have h2 := bl_lt A
      rw [hn] at h2
      have h3 := (Nat.pow_lt_pow_iff_right (show 1 < 2 by decide)).1 (Nat.lt_of_le_of_lt h1 h2)
      omega)
  have hb : n ≤ 400 := by omega
  clear hb'
  have hd : decide ((0 : Int) < (n : Int) - 400) = false := decide_eq_false (by omega)
  have HC1 : RowKit.Hid (cutA A = A ∧ cutN A = 0) := Lib.hid (by unfold cutA cutN; rw [hn, if_pos hb]; omega)
  clear hn h hT hz hl
  go_enter Tryd.func59, Tryd.ntmps59
  go_upto_region 2 with (first
    | (go_at_call 89; (with_reducible refine (trim_c H.out HS.out).mono ?_); rw [HW.out]; rintro e w' ⟨v1, n1, rfl, hv1, rfl⟩; have HV1 := Lib.hid (isW_undrew hv1); clear hv1)
    | fail)
  go_cut [2, 11] (fun s2 s11 wx => IsW w s2 (digs A) ∧ s11 = .int .i64 ((n : Int) - 400) ∧ ∃ m, wx = w.drewN m)
  case first =>
    go_region_with (first
      | (go_at_call 90; (with_reducible refine (bitLen_c (HV1.out.drewN _)).mono ?_); rw [HN.out]; rintro e w1 ⟨n2, rfl, rfl⟩)
      | fail)
    all_goals
      go_wp2_with fail
      go_meet
      exact ⟨HV1.out, congrArg (Value.int .i64) (IntWalk.i64_in _ ⟨by omega, by omega⟩), _, by first | rfl | (rw [World.drewN_drewN])⟩
  case rest =>
    obtain ⟨hv1, rfl, m, rfl⟩ := hcut
    have HV1 := Lib.hid hv1
    clear hv1
    have HEN : RowKit.Hid ((((digs A).length : Nat) : Int) = 0 ↔ A = 0) := Lib.hid (by
      have := digs_nil (n := A)
      constructor
      · intro e; exact this.1 (List.length_eq_zero_iff.1 (by omega))
      · intro e; rw [e]; rfl)
    go_upto_region 12 with (first
      | (go_at_call 95; (with_reducible refine (zeros_c (HV1.out.drewN _) (tab_drew _ HT.out)).mono ?_); rintro e w2 ⟨k, n3, rfl, hk, hk0, rfl⟩; have HKK := Lib.hid hk; have HK0 := Lib.hid hk0; have hkb := HKB.out k hk hk0; clear hk hk0)
      | (go_at_call 92; (with_reducible refine (downW_c k (HV1.out.drewN _) (by omega)).mono ?_); rintro e w3 ⟨v2, rfl, hv2, hg2⟩; have HV2 := Lib.hid hv2; have HG2 := Lib.hid (gr_trans (gr_drewN _ (Grown.refl w)) hg2); clear hv2 hg2)
      | (go_at_call 96; (with_reducible refine (copied_new HV2.out).mono ?_); rintro e w4 ⟨rfl, hv3, hg3, hs3⟩; have HV3 := Lib.hid hv3; have HG3 := Lib.hid (gr_trans HG2.out hg3); have HS3 := Lib.hid hs3; clear hv3 hg3 hs3; have hz4 := HZ.out.grown HG3.out; have z0 := hz4.at'.c0; have z1 := hz4.at'.c1; have z2 := hz4.at'.c2; have z4 := hz4.at'.c4; have f0 := hz4.fz 0; have f1 := hz4.fz 1; have f2 := hz4.fz 2; have f4 := hz4.fz 4; clear hz4)
      | fail)
    have hne : w3.heap.size ≠ g := by have h1 := HZ.out.lt; have h2 := HG2.out.2.2; omega
    have HNE := Lib.hid hne
    have HSL := Lib.hid (isW_sl HV3.out)
    clear hne
    by_cases hA : A = 0
    · have hk0 : k = 0 := HK0.out hA
      subst hk0
      subst hA
      go_wp2_with fail
      all_goals go_ret
      all_goals
        refine ⟨0, false, 0, .inl ⟨HC1.out.1, rfl, rfl, rfl⟩, rfl, ⟨.slice (some ⟨w3.heap.size, 0, none⟩) (digs 0).length (digs 0).length, ?_, ?_⟩, ?_⟩
        · exact ((((((HZ.out.grown HG3.out).s1 _ HSL.out).s2 _).s0 _).s4 _).s2 _).s0 _
        · exact isW_setNe _ (isW_setNe _ (isW_setNe _ (isW_setNe _ (isW_setNe _ (isW_setNe _ HV3.out HNE.out) HNE.out) HNE.out) HNE.out) HNE.out) HNE.out
        · exact ((((((GrB.of HG3.out).set _ _).set _ _).set _ _).set _ _).set _ _).set _ _
    · have hl0 := fl_len hA HKK.out
      have HA := Lib.hid hA
      clear hA
      go_wp2_with fail
      go_ret
      refine ⟨A / 2 ^ k, below, E + k, .inr ⟨by rw [HC1.out.1]; exact HA.out, k, by rw [HC1.out.1]; exact HKK.out, by rw [HC1.out.1], rfl, by rw [HC1.out.2]; omega⟩, rfl, ⟨.slice (some ⟨w3.heap.size, 0, none⟩) (digs (A / 2 ^ k)).length (digs (A / 2 ^ k)).length, ?_, ?_⟩, ?_⟩
      · exact ((((HZ.out.grown HG3.out).s1 _ HSL.out).s2 _).s0 _).s4 _
      · exact isW_setNe _ (isW_setNe _ (isW_setNe _ (isW_setNe _ HV3.out HNE.out) HNE.out) HNE.out) HNE.out
      · exact ((((GrB.of HG3.out).set _ _).set _ _).set _ _).set _ _
end Go.Proofs.YtcfkhhnkboealaaDoor
namespace Go.Proofs.YtcfkhhnkboealaaDoor
open Go.RowKit
set_option linter.unusedVariables false
set_option linter.unusedSimpArgs false
set_option maxRecDepth 100000
set_option maxHeartbeats 4000000
theorem fset_b {g A : Nat} {v v0 : Value} {E E0 : Int} {b0 far0 below : Bool} {w : World} (hT : TabAt w) (htab : 1 < w.heap.size) (hz : FlC w g b0 v0 E0 400 far0)
    (h : IsW w v (digs A)) (hE1 : -1000000 ≤ E) (hE2 : E ≤ 1000000) (hl : (digs A).length ≤ 3000) (hb' : ¬ bl A ≤ 400) :
    Calls Tryd.prog 59 #[.pointer (some ⟨g, 0, none⟩), .bool below, v, .int .i64 E, .bool false] w (RetSet g A below E w) := by
  have H := Lib.hid h
  have HS := Lib.hid (digs_sm A)
  have HW := Lib.hid (wv_digs A)
  have hc3 := hz.at'.c3
  have HL := Lib.hid hl
  obtain ⟨n, hn⟩ : ∃ n, bl A = n := ⟨_, rfl⟩
  have hnb : n ≤ 96000 := by
    obtain ⟨K, hK⟩ : ∃ K : Nat, K = 96000 := ⟨_, rfl⟩
    have h1 := digs_lt A
    have h2 : A < 2 ^ K := Nat.lt_of_lt_of_le h1 (by rw [show (4294967296 : Nat) = 2 ^ 32 by decide, ← Nat.pow_mul]; exact Nat.pow_le_pow_right (by decide) (by omega))
    have := bl_le_of h2
    omega
  have HN := Lib.hid hn
  have HT := Lib.hid hT
  have HZ := Lib.hid hz
  have HKB : RowKit.Hid (∀ k : Nat, 2 ^ k ∣ A → (A = 0 → k = 0) → k ≤ 96000) := Lib.hid (fun k hk h0 => by
    by_cases hA : A = 0
    · have := h0 hA; omega
    · have h1 := Nat.le_of_dvd (Nat.pos_of_ne_zero hA) hk
      have h2 := bl_lt A
      rw [hn] at h2
      have h3 := (Nat.pow_lt_pow_iff_right (show 1 < 2 by decide)).1 (Nat.lt_of_le_of_lt h1 h2)
      omega)
  have hb : ¬ n ≤ 400 := by omega
  clear hb'
  obtain ⟨p, hp⟩ : ∃ p, n = 400 + p := ⟨n - 400, by omega⟩
  have hp0 : 0 < p := by omega
  have hA0 : A ≠ 0 := by intro e; rw [e, bl_zero] at hn; omega
  obtain ⟨Q, hQ⟩ : ∃ Q, A / 2 ^ p = Q := ⟨_, rfl⟩
  obtain ⟨R, hR⟩ : ∃ R, A % 2 ^ p = R := ⟨_, rfl⟩
  obtain ⟨M, hM⟩ : ∃ M, 2 ^ (p - 1) = M := ⟨_, rfl⟩
  have hQR : A - Q * 2 ^ p = R := by
    have := Nat.div_add_mod A (2 ^ p)
    rw [hQ, hR, Nat.mul_comm] at this; omega
  have hQle : Q * 2 ^ p ≤ A := by rw [← hQ]; exact Nat.div_mul_le_self _ _
  have hQ0 : Q ≠ 0 := by
    have h1 := bl_ge hA0
    rw [hn] at h1
    have h2 : 2 ^ p ≤ A := Nat.le_trans (Nat.pow_le_pow_right (by decide) (by omega)) h1
    have h3 := Nat.div_pos h2 (Nat.two_pow_pos p)
    omega
  have hQl : (digs Q).length ≤ 3000 := Nat.le_trans (digs_mono (by rw [← hQ]; exact Nat.div_le_self _ _)) hl
  have hUl : (digs (Q * 2 ^ p)).length ≤ 3000 := Nat.le_trans (digs_mono hQle) hl
  have HP := Lib.hid (And.intro hQ (And.intro hQR hQle))
  have HM := Lib.hid hM
  have HQ0 := Lib.hid hQ0
  have HQL := Lib.hid hQl
  have HD := Lib.hid (digs_pos hQ0)
  have HCQ : RowKit.Hid (cutA A = Q + (if M < R ∨ (M = R ∧ Q % 2 = 1) then 1 else 0) ∧ cutN A = p) := Lib.hid (by
    unfold cutA cutN
    rw [hn, if_neg (by omega), show n - 400 = p by omega, hQ, hR, hM]; exact ⟨rfl, rfl⟩)
  have hnI : ((n : Nat) : Int) = 400 + (p : Int) := by omega
  have HKQ : RowKit.Hid (∀ A1 : Nat, A1 = Q ∨ A1 = Q + 1 → ∀ k : Nat, 2 ^ k ∣ A1 → k ≤ 96100) := Lib.hid (fun A1 hA1 k hk => by
    have h1 := Nat.le_of_dvd (by omega) hk
    have h2 := bl_lt A
    rw [hn] at h2
    have h3 : Q ≤ A := by rw [← hQ]; exact Nat.div_le_self _ _
    have h4 : 2 ^ k < 2 ^ (n + 1) := by rw [Nat.pow_succ]; omega
    have h5 := (Nat.pow_lt_pow_iff_right (show 1 < 2 by decide)).1 h4
    omega)
  clear hn h hT hz hl hQ hR hM hQR hQle hQl hUl hA0
  clear HKB HN HW
  have HN : RowKit.Hid (bl A = 400 + p) := Lib.hid (by have := hnI; have h2 := HCQ.out.2; unfold cutN at h2; omega)
  go_enter Tryd.func59, Tryd.ntmps59
  go_upto_region 2 with (first
    | (go_at_call 89; (with_reducible refine (trim_c H.out HS.out).mono ?_); rw [wv_digs]; rintro e w' ⟨v1, n1, rfl, hv1, rfl⟩; have HV1 := Lib.hid (isW_undrew hv1); clear hv1)
    | fail)
  go_cut [2, 11] (fun s2 s11 wx => IsW w s2 (digs A) ∧ s11 = .int .i64 (p : Int) ∧ ∃ m, wx = w.drewN m)
  case first =>
    go_region_with (first
      | (go_at_call 90; (with_reducible refine (bitLen_c (HV1.out.drewN _)).mono ?_); rw [HN.out]; rintro e w1 ⟨n2, rfl, rfl⟩)
      | fail)
    all_goals
      go_wp2_with fail
      go_meet
      exact ⟨HV1.out, congrArg (Value.int .i64) ((IntWalk.i64_in _ ⟨by omega, by omega⟩).trans (by omega)), _, by first | rfl | (rw [World.drewN_drewN])⟩
  case rest =>
    obtain ⟨hv1, rfl, m, rfl⟩ := hcut
    have HV1 := Lib.hid hv1
    clear hv1
    go_upto_region 6 with (first
      | (go_at_call_of 92 u2; go_loud (first
          | ((with_reducible refine (downW_c p (HV1.out.grown HG4.out) (by omega)).mono ?_); rw [HP.out.1]; rintro e w5 ⟨v5, rfl, hv5, hg5⟩; have HV5 := Lib.hid hv5; have HR5 := Lib.hid (HR4.out.grown hg5); have HG5 := Lib.hid (gr_trans HG4.out hg5); clear hv5 hg5)
          | ((with_reducible refine (downW_c p (HV1.out.drewN _) (by omega)).mono ?_); rw [HP.out.1]; rintro e w3 ⟨v2, rfl, hv2, hg2⟩; have HV2 := Lib.hid hv2; have HG2 := Lib.hid (gr_trans (gr_drewN _ (Grown.refl w)) hg2); clear hv2 hg2)))
      | (go_at_call 80; go_loud ((with_reducible refine (upW_c p HV2.out (by omega) (Nat.le_trans HQL.out (by decide))).mono ?_); rintro e w3b ⟨v3, rfl, hv3, hg3⟩; have HV3 := Lib.hid hv3; have HG3 := Lib.hid (gr_trans HG2.out hg3); clear hv3 hg3))
      | (go_at_call 91; go_loud ((with_reducible refine (subW_c (HV1.out.grown HG3.out) HV3.out HP.out.2.2 (Nat.le_trans HL.out (by decide))).mono ?_); rw [HP.out.2.1]; rintro e w4 ⟨v4, rfl, hv4, hg4⟩; have HR4 := Lib.hid hv4; have HG4 := Lib.hid (gr_trans HG3.out hg4); clear hv4 hg4))
      | fail)
    clear HV1 HV2 HV3 HG2 HG3 HG4 HR4
    have hp1 : ((p : Int) - 1) = ((p - 1 : Nat) : Int) := by omega
    have HC1 : RowKit.Hid (IsW (w5.alloc (.cells #[.int .u32 1] 71)) (.slice (some ⟨w5.heap.size, 0, none⟩) 1 1) (digs 1)) := Lib.hid (isW_one w5 _)
    have GA1 : RowKit.Hid (Grown w5 (w5.alloc (.cells #[.int .u32 1] 71))) := Lib.hid ((Grown.refl w5).alloc _ _)
    obtain ⟨c, hc, hcases⟩ : ∃ c : Int, cmpI R M = c ∧ ((c = 1 ∧ (M < R ∨ (M = R ∧ Q % 2 = 1))) ∨ (c = -1 ∧ ¬ (M < R ∨ (M = R ∧ Q % 2 = 1))) ∨ (c = 0 ∧ (M < R ∨ (M = R ∧ Q % 2 = 1)) ∧ Q % 2 = 1) ∨ (c = 0 ∧ ¬ (M < R ∨ (M = R ∧ Q % 2 = 1)) ∧ Q % 2 = 0)) := by
      refine ⟨_, rfl, ?_⟩
      unfold cmpI
      rcases Nat.lt_trichotomy R M with h | h | h
      · rw [if_pos h]; right; left; exact ⟨rfl, by omega⟩
      · rw [if_neg (by omega), if_neg (by omega)]
        rcases Nat.mod_two_eq_zero_or_one Q with h2 | h2
        · right; right; right; exact ⟨rfl, by omega, h2⟩
        · right; right; left; exact ⟨rfl, by omega, h2⟩
      · rw [if_neg (by omega), if_pos h]; left; exact ⟨rfl, by omega⟩
    have HCV := Lib.hid hc
    have HCS := Lib.hid hcases
    clear hc hcases
    go_upto_region 7 with (first
      | (go_at_call 80; go_loud ((with_reducible refine (upW_c (A := 1) (p - 1) HC1.out (by omega) (by decide)).mono ?_); rw [Nat.one_mul, HM.out]; rintro e w6 ⟨v6, rfl, hv6, hg6⟩; have HV6 := Lib.hid hv6; have HG6 := Lib.hid (gr_trans GA1.out hg6); clear hv6 hg6))
      | (go_at_call 93; go_loud ((with_reducible refine (cmp_c (HR5.out.grown HG6.out) HV6.out).mono ?_); rw [HCV.out]; rintro e w7 ⟨n7, rfl, rfl⟩))
      | fail)
    -- the figure's first word
    have HV7 := Lib.hid (HV5.out.grown (gr_drewN n7 HG6.out))
    have HG7 := Lib.hid (gr_trans HG5.out (gr_drewN n7 HG6.out))
    have HC8 : RowKit.Hid (IsW ((w6.drewN n7).alloc (.cells #[.int .u32 1] 71)) (.slice (some ⟨w6.heap.size, 0, none⟩) 1 1) (digs 1)) := Lib.hid (isW_one (w6.drewN n7) _)
    clear HV5 HR5 HV6 HC1 GA1
    obtain ⟨s5, cap5, ev5, l5, l6, l7⟩ := HV7.out
    subst ev5
    obtain ⟨bq, oq, es5, lb5, lc5⟩ := l7 (by rw [HD.out]; simp)
    subst es5
    have hlen : 0 < (digs Q).length := digs_len_pos HQ0.out
    have hl3 := HQL.out
    have hw0 := lc5 0 hlen
    rw [HD.out] at hw0
    simp only [List.getD_cons_zero, Nat.add_zero] at hw0
    have hpar : bits .and .u32 ((Q % 4294967296 : Nat) : Int) 1 = ((Q % 2 : Nat) : Int) := by
      rw [show (1 : Int) = ((1 : Nat) : Int) from rfl, bits_and_u32n _ _ (Nat.mod_lt _ (by decide)) (by decide), Nat.and_one_is_mod]
      congr 1; omega
    obtain ⟨q0, hq0⟩ : ∃ q0, Q % 4294967296 = q0 := ⟨_, rfl⟩
    rw [hq0] at hw0 hpar
    clear lc5 l7 lb5
    have HQ2 := Lib.hid (rfl : Q % 2 = Q % 2)
    have HGS := HCS.out
    rcases HGS with ⟨rfl, hup⟩ | ⟨rfl, hup⟩ | ⟨rfl, hup, hq2⟩ | ⟨rfl, hup, hq2⟩
    all_goals
      have HUP := Lib.hid hup
      clear hup
      try rw [hq2] at hpar
      go_upto_region 10 with (first
        | (go_at_call 94; go_loud ((with_reducible refine (addW_c (HV7.out.grown ((Grown.refl _).alloc _ _)) HC8.out (Nat.le_trans HQL.out (by decide)) (by decide)).mono ?_); rintro e w8 ⟨v8, rfl, hv8, hg8⟩; have HV8 := Lib.hid hv8; have HG8 := Lib.hid (gr_trans HG7.out (gr_trans ((Grown.refl _).alloc _ _) hg8)); clear hv8 hg8))
        | fail)
      first
        | (have HVW := HV8; have HGW := HG8; have HA1 : RowKit.Hid (cutA A = Q + 1) := Lib.hid (by rw [HCQ.out.1, if_pos HUP.out]))
        | (have HVW := HV7; have HGW := HG7; have HA1 : RowKit.Hid (cutA A = Q) := Lib.hid (by rw [HCQ.out.1, if_neg HUP.out]; rfl))
      have HKA := Lib.hid (HKQ.out _ (by first | exact Or.inr HA1.out | exact Or.inl HA1.out))
      obtain ⟨A1, eA1⟩ : ∃ A1, cutA A = A1 := ⟨_, rfl⟩
      have HE1 := Lib.hid eA1
      have HA10 : RowKit.Hid (A1 ≠ 0) := Lib.hid (by have := HQ0.out; have := HA1.out; omega)
      rw [HE1.out] at HKA
      rw [HA1.out] at eA1
      rw [eA1] at HVW
      generalize eW : w6.drewN n7 = W7 at *
      go_upto_region 12 with (first
        | (go_at_call 95; go_loud ((with_reducible refine (zeros_c HVW.out (gr_tab HGW.out HT.out htab)).mono ?_); rintro e w9 ⟨k, n3, rfl, hk, hk0, rfl⟩; have HKK := Lib.hid hk; have hkb := HKA.out k hk; clear hk hk0))
        | (go_at_call 92; go_loud ((with_reducible refine (downW_c k (HVW.out.drewN _) (by omega)).mono ?_); rintro e w10 ⟨v2, rfl, hv2, hg2⟩; have HVX := Lib.hid hv2; have HGX := Lib.hid (gr_trans (gr_drewN _ HGW.out) hg2); clear hv2 hg2))
        | (go_at_call 96; go_loud ((with_reducible refine (copied_new HVX.out).mono ?_); rintro e w11 ⟨rfl, hv3, hg3, hs3⟩; have HVY := Lib.hid hv3; have HGY := Lib.hid (gr_trans HGX.out hg3); have HS3 := Lib.hid hs3; clear hv3 hg3 hs3; have hz4 := HZ.out.grown HGY.out; have z0 := hz4.at'.c0; have z1 := hz4.at'.c1; have z2 := hz4.at'.c2; have z4 := hz4.at'.c4; have f0 := hz4.fz 0; have f1 := hz4.fz 1; have f2 := hz4.fz 2; have f4 := hz4.fz 4; clear hz4))
        | fail)
      have hne : w10.heap.size ≠ g := by have h1 := HZ.out.lt; have h2 := HGX.out.2.2; omega
      have HNE := Lib.hid hne
      have HSL := Lib.hid (isW_sl HVY.out)
      clear hne
      have hl0 := fl_len HA10.out HKK.out
      go_wp2_with fail
      go_ret
      refine ⟨A1 / 2 ^ k, below, E + p + k, .inr ⟨by rw [HE1.out]; exact HA10.out, k, by rw [HE1.out]; exact HKK.out, by rw [HE1.out], rfl, by rw [HCQ.out.2]⟩, rfl, ⟨.slice (some ⟨w10.heap.size, 0, none⟩) (digs (A1 / 2 ^ k)).length (digs (A1 / 2 ^ k)).length, ?_, ?_⟩, ?_⟩
      · exact ((((HZ.out.grown HGY.out).s1 _ HSL.out).s2 _).s0 _).s4 _
      · exact isW_setNe _ (isW_setNe _ (isW_setNe _ (isW_setNe _ HVY.out HNE.out) HNE.out) HNE.out) HNE.out
      · exact ((((GrB.of HGY.out).set _ _).set _ _).set _ _).set _ _
theorem fset_c {g A : Nat} {v v0 : Value} {E E0 : Int} {b0 far0 below : Bool} {w : World} (hT : TabAt w) (htab : 1 < w.heap.size) (hz : FlC w g b0 v0 E0 400 far0)
    (h : IsW w v (digs A)) (hE1 : -1000000 ≤ E) (hE2 : E ≤ 1000000) (hl : (digs A).length ≤ 3000) :
    Calls Tryd.prog 59 #[.pointer (some ⟨g, 0, none⟩), .bool below, v, .int .i64 E, .bool false] w (RetSet g A below E w) := by
  by_cases hb : bl A ≤ 400
  · exact fset_a hT hz h hE1 hE2 hl hb
  · exact fset_b hT htab hz h hE1 hE2 hl hb
end Go.Proofs.YtcfkhhnkboealaaDoor
namespace Go.Proofs.YtcfkhhnkboealaaDoor
open Go.RowKit
set_option linter.unusedVariables false
set_option linter.unusedSimpArgs false
set_option maxRecDepth 100000
set_option maxHeartbeats 4000000
/-- a number's value in memory. -/
def FV (w : World) (g : Nat) (r : Rat) : Prop := ∃ b v E A, FlC w g b v E 400 false ∧ IsW w v (digs A) ∧ bl A ≤ 401 ∧ r = sq b ((A : Rat) * pw E) ∧ (A = 0 → b = false ∧ E = 0)
/-- a number that may be set. -/
def FZ (w : World) (g : Nat) : Prop := ∃ b v E far, FlC w g b v E 400 far
theorem FV.z {w : World} {g : Nat} {r : Rat} (h : FV w g r) : FZ w g := by obtain ⟨b, v, E, A, h, _⟩ := h; exact ⟨b, v, E, _, h⟩
theorem FZ.lt {w : World} {g : Nat} (h : FZ w g) : g < w.heap.size := by obtain ⟨b, v, E, far, h⟩ := h; exact h.lt
theorem FZ.no {w : World} {g : Nat} (h : FZ w g) : NoInt w g := by obtain ⟨b, v, E, far, h⟩ := h; exact h.no
theorem FZ.grown {w w' : World} {g : Nat} (h : FZ w g) (k : Grown w w') : FZ w' g := by obtain ⟨b, v, E, far, h⟩ := h; exact ⟨b, v, E, far, h.grown k⟩
theorem FZ.kept {w w' : World} {g g' : Nat} (h : FZ w g) (k : GrB g' w w') (hne : g ≠ g') : FZ w' g := by obtain ⟨b, v, E, far, h⟩ := h; exact ⟨b, v, E, far, h.kept k hne⟩
theorem FV.grown {w w' : World} {g : Nat} {r : Rat} (h : FV w g r) (k : Grown w w') : FV w' g r := by
  obtain ⟨b, v, E, A, h1, h2, h3⟩ := h; exact ⟨b, v, E, A, h1.grown k, h2.grown k, h3⟩
theorem FV.kept {w w' : World} {g g' : Nat} {r : Rat} (h : FV w g r) (k : GrB g' w w') (hne : g ≠ g') (hn : NoInt w g') : FV w' g r := by
  obtain ⟨b, v, E, A, h1, h2, h3⟩ := h; exact ⟨b, v, E, A, h1.kept k hne, h2.kept k hn, h3⟩
theorem FV.lt {w : World} {g : Nat} {r : Rat} (h : FV w g r) : g < w.heap.size := h.z.lt
/-- how far a value may be off: 2^-400 of itself. -/
def u4 : Rat := pw (-400)
theorem u4_pos : 0 < u4 := pw_pos _
theorem cut_near (A : Nat) : ab (((cutA A : Nat) : Rat) * pw (cutN A) - (A : Rat)) ≤ u4 * (A : Rat) ∧ (bl A ≤ 400 → ((cutA A : Nat) : Rat) * pw (cutN A) = (A : Rat)) ∧ bl (cutA A) ≤ 401 ∧ (cutA A = 0 ↔ A = 0) := by
  have hA := cast_nn A
  by_cases hb : bl A ≤ 400
  · have e1 : cutA A = A := if_pos hb
    have e2 : cutN A = 0 := by unfold cutN; omega
    have e3 : ((A : Nat) : Rat) * pw ((0 : Nat) : Int) = (A : Rat) := by rw [show ((0 : Nat) : Int) = 0 from rfl, pw_zero]; grind
    rw [e1, e2, e3]
    refine ⟨?_, fun _ => rfl, by omega, Iff.rfl⟩
    rw [show (A : Rat) - (A : Rat) = 0 by grind, show ab 0 = 0 by decide +kernel]
    exact mul_nn (Rat.le_of_lt u4_pos) hA
  · obtain ⟨K, hK⟩ : ∃ K : Nat, K = 400 := ⟨_, rfl⟩
    obtain ⟨L, hL⟩ : ∃ L : Nat, K = L + 1 := ⟨399, by omega⟩
    obtain ⟨p, hp⟩ : ∃ p, bl A = K + (p + 1) := ⟨bl A - K - 1, by omega⟩
    have hA0 : A ≠ 0 := by intro e; rw [e, bl_zero] at hp; omega
    have h1 := bl_lt A
    have h2 := bl_ge hA0
    have e1 : cutA A = A / 2 ^ (p + 1) + (if 2 ^ p < A % 2 ^ (p + 1) ∨ (2 ^ p = A % 2 ^ (p + 1) ∧ A / 2 ^ (p + 1) % 2 = 1) then 1 else 0) := by
      unfold cutA
      rw [if_neg hb, show bl A - 400 = p + 1 by omega, show p + 1 - 1 = p by omega]
    have e2 : cutN A = p + 1 := by unfold cutN; omega
    have hdm := Nat.div_add_mod A (2 ^ (p + 1))
    have hml := Nat.mod_lt A (Nat.two_pow_pos (p + 1))
    have hpp : 2 ^ (p + 1) = 2 * 2 ^ p := by rw [Nat.pow_succ]; omega
    have hq : A / 2 ^ (p + 1) < 2 ^ K := by
      rw [Nat.div_lt_iff_lt_mul (Nat.two_pow_pos _), ← Nat.pow_add, ← hp]; exact h1
    have hq2 : 2 ^ L ≤ A / 2 ^ (p + 1) := by
      rw [Nat.le_div_iff_mul_le (Nat.two_pow_pos _), ← Nat.pow_add]
      rw [hp] at h2
      exact Nat.le_trans (Nat.pow_le_pow_right (by decide) (by omega)) h2
    have hq3 : 0 < 2 ^ L := Nat.two_pow_pos _
    have hM : 2 ^ K * 2 ^ p ≤ A := by
      rw [← Nat.pow_add]
      rw [hp] at h2
      exact Nat.le_trans (Nat.pow_le_pow_right (by decide) (by omega)) h2
    have k1 : cutA A * 2 ^ (p + 1) ≤ A + 2 ^ p ∧ A ≤ cutA A * 2 ^ (p + 1) + 2 ^ p := by
      rw [e1, Nat.add_mul, Nat.mul_comm (A / 2 ^ (p + 1))]
      generalize A / 2 ^ (p + 1) % 2 = par at *
      generalize 2 ^ (p + 1) * (A / 2 ^ (p + 1)) = X at *
      generalize A % 2 ^ (p + 1) = R at *
      rw [hpp] at hml ⊢
      generalize 2 ^ p = M at *
      split <;> omega
    refine ⟨?_, fun h => absurd h hb, ?_, ?_⟩
    · have c1 := cast_le.2 k1.1
      have c2 := cast_le.2 k1.2
      have c3 := cast_le.2 hM
      rw [e2, pw_nat]
      have e3 : ((A + 2 ^ p : Nat) : Rat) = (A : Rat) + ((2 ^ p : Nat) : Rat) := by grind
      have e4 : ((cutA A * 2 ^ (p + 1) + 2 ^ p : Nat) : Rat) = ((cutA A * 2 ^ (p + 1) : Nat) : Rat) + ((2 ^ p : Nat) : Rat) := by grind
      rw [e3, cast_mul] at c1
      rw [e4, cast_mul] at c2
      rw [cast_mul] at c3
      have hu : u4 * ((2 ^ K : Nat) : Rat) = 1 := by unfold u4; exact (by have := pw_negnat K; rwa [hK] at this ⊢)
      have c4 : ((2 ^ p : Nat) : Rat) ≤ u4 * (A : Rat) := by
        have := Rat.mul_le_mul_of_nonneg_left c3 (Rat.le_of_lt u4_pos)
        rw [← Rat.mul_assoc, hu] at this
        grind
      generalize ((2 ^ p : Nat) : Rat) = M at *
      generalize ((cutA A : Nat) : Rat) * ((2 ^ (p + 1) : Nat) : Rat) = X at *
      generalize u4 * (A : Rat) = Y at *
      rw [ab_le]; constructor <;> grind
    · apply bl_le_of
      rw [e1, show (401 : Nat) = K + 1 by omega, show (2 : Nat) ^ (K + 1) = 2 * 2 ^ K by rw [Nat.pow_succ]; omega]
      generalize (2 : Nat) ^ K = Z at *
      split <;> omega
    · rw [e1]
      constructor
      · intro h; exfalso; generalize (2 : Nat) ^ L = Z at *; omega
      · intro h; exact absurd h hA0
/-- what set leaves, by value. -/
theorem set_val {A A' : Nat} {b b' : Bool} {E E' : Int} (h : SetTo A A' b b' E E') :
    ab (sq b' ((A' : Rat) * pw E') - sq b ((A : Rat) * pw E)) ≤ u4 * ab (sq b ((A : Rat) * pw E)) ∧ (bl A ≤ 400 → sq b' ((A' : Rat) * pw E') = sq b ((A : Rat) * pw E)) ∧ bl A' ≤ 401 ∧ (A' = 0 → b' = false ∧ E' = 0) := by
  obtain ⟨n1, n2, n3, n4⟩ := cut_near A
  have hp := pw_pos E
  have z0 : ((0 : Nat) : Rat) = 0 := rfl
  rcases h with ⟨h0, rfl, rfl, rfl⟩ | ⟨h0, k, hk, rfl, rfl, rfl⟩
  · have hA : A = 0 := n4.1 h0
    subst hA
    have e : ∀ c : Bool, ∀ t : Rat, sq c (((0 : Nat) : Rat) * t) = 0 := by intro c t; rw [z0, Rat.zero_mul]; cases c <;> simp [sq]
    rw [e, e, show (0 : Rat) - 0 = 0 by decide +kernel, show ab 0 = 0 by decide +kernel]
    exact ⟨by grind, fun _ => rfl, by rw [bl_zero]; omega, fun _ => ⟨rfl, rfl⟩⟩
  · have hd := Nat.div_mul_cancel hk
    have hd2 : ((cutA A / 2 ^ k : Nat) : Rat) * ((2 ^ k : Nat) : Rat) = ((cutA A : Nat) : Rat) := by rw [← cast_mul, hd]
    have e1 : ((cutA A / 2 ^ k : Nat) : Rat) * pw (E + (cutN A : Int) + (k : Int)) = ((cutA A : Nat) : Rat) * pw (cutN A) * pw E := by
      rw [pw_add, pw_add, pw_nat k, ← hd2]; grind
    have hne : cutA A / 2 ^ k ≠ 0 := by intro e; rw [e, Nat.zero_mul] at hd; exact h0 hd.symm
    refine ⟨?_, ?_, ?_, fun e => absurd e hne⟩
    · rw [e1, sq_sub, sq_ab, sq_ab]
      have e2 : ((cutA A : Nat) : Rat) * pw (cutN A) * pw E - (A : Rat) * pw E = (((cutA A : Nat) : Rat) * pw (cutN A) - (A : Rat)) * pw E := by grind
      rw [e2, ab_mul, ab_mul, ab_pos (Rat.le_of_lt hp), ab_pos (cast_nn A)]
      have := Rat.mul_le_mul_of_nonneg_right n1 (Rat.le_of_lt hp)
      grind
    · intro hb; rw [e1, n2 hb]
    · refine Nat.le_trans ?_ n3
      exact bl_le_of (Nat.lt_of_le_of_lt (Nat.div_le_self _ _) (bl_lt _))
/-- a number that is set: off by at most 2^-400 of it. -/
def RetFV (g : Nat) (r : Rat) (w : World) (e : Ending) (w' : World) : Prop := ∃ r', ab (r' - r) ≤ u4 * ab r ∧ e = .returned (.pointer (some ⟨g, 0, none⟩)) ∧ FV w' g r' ∧ GrB g w w'
/-- one that is set to just that. -/
def RetFX (g : Nat) (r : Rat) (w : World) (e : Ending) (w' : World) : Prop := e = .returned (.pointer (some ⟨g, 0, none⟩)) ∧ FV w' g r ∧ GrB g w w'
theorem RetSet.val {g A : Nat} {b : Bool} {E : Int} {w w' : World} {e : Ending} (h : RetSet g A b E w e w') : RetFV g (sq b ((A : Rat) * pw E)) w e w' := by
  obtain ⟨A', b', E', h1, rfl, ⟨v', h2, h3⟩, h4⟩ := h
  obtain ⟨k1, k2, k3, k4⟩ := set_val h1
  exact ⟨_, k1, rfl, ⟨b', v', E', A', h2, h3, k3, rfl, k4⟩, h4⟩
theorem RetSet.valx {g A : Nat} {b : Bool} {E : Int} {w w' : World} {e : Ending} (h : RetSet g A b E w e w') (hb : bl A ≤ 400) : RetFX g (sq b ((A : Rat) * pw E)) w e w' := by
  obtain ⟨A', b', E', h1, rfl, ⟨v', h2, h3⟩, h4⟩ := h
  obtain ⟨k1, k2, k3, k4⟩ := set_val h1
  exact ⟨rfl, ⟨b', v', E', A', h2, h3, k3, (k2 hb).symm, k4⟩, h4⟩
theorem RetFV.before {g : Nat} {r : Rat} {w w1 w' : World} {e : Ending} (h : RetFV g r w1 e w') (k : GrB g w w1) : RetFV g r w e w' := by
  obtain ⟨r', h1, h2, h3, h4⟩ := h; exact ⟨r', h1, h2, h3, k.trans h4⟩
/-- sizes: from 2^-n to 2^n. -/
def Sz (n : Nat) (r : Rat) : Prop := r = 0 ∨ (pw (-(n : Int)) ≤ ab r ∧ ab r ≤ pw n)
theorem lt_of_le_lt {a b c : Rat} (h : a ≤ b) (k : b < c) : a < c := by grind
theorem pw_lt_inv {a b : Int} (h : pw a < pw b) : a < b := by
  rcases Int.lt_or_le a b with k | k
  · exact k
  · have := pw_mono k; grind
theorem FV.fig {w : World} {g n : Nat} {r : Rat} (h : FV w g r) (hs : Sz n r) : ∃ b v E A, FlC w g b v E 400 false ∧ IsW w v (digs A) ∧ bl A ≤ 401 ∧ r = sq b ((A : Rat) * pw E) ∧ (A = 0 → b = false ∧ E = 0) ∧ -((n : Int) + 402) ≤ E ∧ E ≤ (n : Int) + 1 := by
  obtain ⟨b, v, E, A, h1, h2, h3, h4, h5⟩ := h
  refine ⟨b, v, E, A, h1, h2, h3, h4, h5, ?_⟩
  by_cases hA : A = 0
  · have := (h5 hA).2; omega
  · have hA1 : ((1 : Nat) : Rat) ≤ (A : Rat) := cast_le.2 (by omega)
    have e1 : ((1 : Nat) : Rat) = 1 := rfl
    rw [e1] at hA1
    have hp := pw_pos E
    have hab : ab r = (A : Rat) * pw E := by rw [h4, sq_ab, ab_pos (mul_nn (cast_nn A) (Rat.le_of_lt hp))]
    have hr : r ≠ 0 := by
      intro e
      rw [e, show ab 0 = 0 by decide +kernel] at hab
      have := Rat.mul_le_mul_of_nonneg_right hA1 (Rat.le_of_lt hp)
      grind
    rcases hs with hs | ⟨s1, s2⟩
    · exact absurd hs hr
    · rw [hab] at s1 s2
      have hA2 : (A : Rat) ≤ pw 401 := by
        obtain ⟨K, hK⟩ : ∃ K : Nat, K = 401 := ⟨_, rfl⟩
        rw [show (401 : Int) = (K : Int) by omega, pw_nat]
        exact cast_le.2 (Nat.le_of_lt (Nat.lt_of_lt_of_le (bl_lt A) (Nat.pow_le_pow_right (by decide) (by omega))))
      constructor
      · have t1 : pw (-(n : Int)) ≤ pw (401 + E) := by
          rw [pw_add]
          exact Rat.le_trans s1 (Rat.mul_le_mul_of_nonneg_right hA2 (Rat.le_of_lt hp))
        have t2 : pw (401 + E) < pw (402 + E) := by
          rw [show 402 + E = 1 + (401 + E) by omega, pw_add 1, pw_one]
          have := pw_pos (401 + E); grind
        have := pw_lt_inv (lt_of_le_lt t1 t2)
        omega
      · have t1 : pw E ≤ pw n := by
          have := Rat.mul_le_mul_of_nonneg_right hA1 (Rat.le_of_lt hp)
          grind
        have t2 : pw (n : Int) < pw ((n : Int) + 1) := by
          rw [pw_add _ 1, pw_one]
          have := pw_pos (n : Int); grind
        have := pw_lt_inv (lt_of_le_lt t1 t2)
        omega
theorem fwide_c {g gx gy : Nat} {b far : Bool} {v : Value} {E : Int} {w : World} (hz : FlC w g b v E 400 far) : Calls Tryd.prog 56 #[.pointer (some ⟨g, 0, none⟩), .pointer (some ⟨gx, 0, none⟩), .pointer (some ⟨gy, 0, none⟩)] w (fun e w' => e = .returned (.tuple #[]) ∧ w' = w) := by
  have hc3 := hz.at'.c3
  clear hz
  go_enter Tryd.func56, Tryd.ntmps56
  go_wp2_with fail
  go_end0
  exact ⟨rfl, rfl⟩
theorem bl_digs {A n : Nat} (h : bl A ≤ n) : (digs A).length ≤ n / 32 + 1 := by
  apply digs_len_le
  rw [show (4294967296 : Nat) = 2 ^ 32 by decide, ← Nat.pow_mul]
  exact Nat.lt_of_lt_of_le (bl_lt A) (Nat.pow_le_pow_right (by decide) (by omega))
theorem tabd {w : World} (n : Nat) (h : TabAt w) : TabAt (w.drewN n) := h
theorem fmant_c {g gx m : Nat} {r : Rat} {n : Int} {w : World} (hT : TabAt w) (htab : 1 < w.heap.size) (hz : FZ w g) (hx : FV w gx r) (hs : Sz m r) (hm : m ≤ 100000) (hn1 : -100000 ≤ n) (hn2 : n ≤ 100000) :
    Calls Tryd.prog 28 #[.pointer (some ⟨g, 0, none⟩), .pointer (some ⟨gx, 0, none⟩), .int .i64 n] w (RetFV g (r * pw n) w) := by
  obtain ⟨bz, vz, Ez, fz, hZ⟩ := hz
  obtain ⟨b, v, E, A, hx1, hx2, hx3, rfl, hx5, hx6, hx7⟩ := hx.fig hs
  have HZ := Lib.hid hZ
  have HX1 := Lib.hid hx1
  have HX2 := Lib.hid hx2
  have HB := Lib.hid hx3
  have HT := Lib.hid hT
  have hc0 := hx1.at'.c0
  have hc1 := hx1.at'.c1
  have hc2 := hx1.at'.c2
  have hc4 := hx1.at'.c4
  have HE : RowKit.Hid (sq b ((A : Rat) * pw E) * pw n = sq b ((A : Rat) * pw (E + n))) := Lib.hid (by rw [pw_add]; cases b <;> simp [sq] <;> grind)
  clear hx hs hx1 hx2 hx3 hx5 hT hZ
  go_enter Tryd.func28, Tryd.ntmps28
  go_upto_region 2 with (first
    | (go_at_call 56; go_loud ((with_reducible refine (fwide_c HZ.out).mono ?_); rintro e1 w1 ⟨rfl, rfl⟩))
    | fail)
  go_still_tail 19, (by kernel_rfl)
  change wpList _ _ _ _ _ w1.drew
  have HGd : RowKit.Hid (Grown w1 w1.drew) := Lib.hid (gr_drew1 (Grown.refl w1))
  have HZd := Lib.hid (HZ.out.grown HGd.out)
  have Hd := Lib.hid (HX2.out.grown HGd.out)
  have HTd := Lib.hid (gr_tab HGd.out HT.out htab)
  generalize eW : w1.drew = w2 at *
  have hs2 : w1.heap.size ≤ w2.heap.size := HGd.out.2.2
  go_wp2_with (first
    | (go_at_call 59; go_loud ((with_reducible refine (fset_c HTd.out (Nat.lt_of_lt_of_le htab hs2) HZd.out Hd.out (by omega) (by omega) (Nat.le_trans (bl_digs HB.out) (by decide))).mono ?_); intro e2 w3 h2; have h3 := h2.val; obtain ⟨r', k1, rfl, k2, k3⟩ := h3))
    | fail)
  go_ret
  rw [HE.out]
  exact ⟨r', k1, rfl, k2, (GrB.of HGd.out).trans k3⟩
end Go.Proofs.YtcfkhhnkboealaaDoor
namespace Go.Proofs.YtcfkhhnkboealaaDoor
open Go.RowKit
set_option linter.unusedVariables false
set_option linter.unusedSimpArgs false
set_option maxRecDepth 100000
set_option maxHeartbeats 4000000
theorem flcNew (w : World) (t : TypeId) : FlC (w.alloc (.cells #[.bool false, .slice none 0 0, .int .i64 0, .int .i64 0, .bool false] t)) w.heap.size false (.slice none 0 0) 0 0 false := by
  refine ⟨flNew w t, fun j x e => ?_, fun j => Row.free ((Grown.refl w).alloc _ _) (Nat.le_refl _)⟩
  rw [World.cell?_alloc_new] at e
  match j, e with
  | 0, e => simp at e
  | 1, e => simp at e
  | 2, e => simp at e
  | 3, e => simp at e
  | 4, e => simp at e
  | k + 5, e => simp at e
/-- the table stands. -/
structure TB (w : World) : Prop where
  at' : TabAt w
  lt : 1 < w.heap.size
theorem TB.grown {w w' : World} (h : TB w) (k : Grown w w') : TB w' := ⟨gr_tab k h.at' h.lt, Nat.lt_of_lt_of_le h.lt k.2.2⟩
theorem TB.ne {w : World} {g : Nat} {b : Bool} (h : TB w) (hb : w.cell? ⟨g, 0, none⟩ = some (.bool b)) : 1 ≠ g := by
  rintro rfl
  have := h.at' 0 (by decide)
  rw [hb] at this
  cases this
theorem TB.kept {w w' : World} {g : Nat} (h : TB w) (hz : FZ w g) (k : GrB g w w') : TB w' := by
  obtain ⟨b, v, E, far, hz⟩ := hz
  have hne := h.ne hz.at'.c0
  exact ⟨fun j hj => by rw [k.cell h.lt hne]; exact h.at' j hj, Nat.lt_of_lt_of_le h.lt k.2.2⟩
theorem fprec_c {g : Nat} {w : World} (hT : TB w) (hz : FlC w g false (.slice none 0 0) 0 0 false) :
    Calls Tryd.prog 21 #[.pointer (some ⟨g, 0, none⟩), .int .u64 400] w (RetFX g 0 w) := by
  have hc3 := hz.at'.c3
  have hf3 := hz.fz 3
  have hz2 := hz.s3 400
  have hne := hT.ne hz.at'.c0
  have HZ := Lib.hid hz2
  have HGB : RowKit.Hid (GrB g w (w.setCell ⟨g, 3, none⟩ (.int .i64 400))) := Lib.hid ((GrB.refl g w).set _ _)
  have hT2 : TB (w.setCell ⟨g, 3, none⟩ (.int .i64 400)) := ⟨fun j hj => by
    rw [HGB.out.cell hT.lt hne]
    exact hT.at' j hj, Nat.lt_of_lt_of_le hT.lt HGB.out.2.2⟩
  have HT := Lib.hid hT2
  have HW : RowKit.Hid (∀ W, IsW W (.slice none 0 0) (digs 0)) := Lib.hid (fun W => IsW.nil W)
  have d0 := hz2.at'.c0
  have d1 := hz2.at'.c1
  have d2 := hz2.at'.c2
  have d4 := hz2.at'.c4
  clear hT hT2 hz hz2 hne
  go_enter Tryd.func21, Tryd.ntmps21
  go_upto_region 2 with fail
  generalize eW : w.setCell ⟨g, 3, none⟩ (.int .i64 400) = W1 at *
  go_still_tail 17, (by kernel_rfl)
  change wpList _ _ _ _ _ W1.drew
  have HG : RowKit.Hid (Grown W1 W1.drew) := Lib.hid (gr_drew1 (Grown.refl W1))
  have HZd := Lib.hid (HZ.out.grown HG.out)
  have HTd := Lib.hid (HT.out.grown HG.out)
  generalize eW2 : W1.drew = W2 at *
  go_wp2_with (first
    | (go_at_call 59; go_loud ((with_reducible refine (fset_c HTd.out.at' HTd.out.lt HZd.out (HW.out W2) (by decide) (by decide) (by decide)).mono ?_); intro e2 w3 h2; have h3 := h2.valx (by decide); obtain ⟨rfl, k2, k3⟩ := h3))
    | fail)
  go_ret
  have e0 : sq false (((0 : Nat) : Rat) * pw 0) = 0 := by decide +kernel
  rw [e0] at k2
  exact ⟨rfl, k2, HGB.out.trans ((GrB.of HG.out).trans k3)⟩
theorem fflt_c {g f : Nat} {w : World} (hT : TB w) (hz : FZ w g) (hl : f < 18446744073709551616) (hf : fin f = true) :
    Calls Tryd.prog 55 #[.pointer (some ⟨g, 0, none⟩), .float .f64 f] w (RetFX g (qv f) w) := by
  obtain ⟨b0, v0, E0, far0, hz⟩ := hz
  have hc3 := hz.at'.c3
  have h1 := exp_bits f hl
  have h2 := mant_bits f hl
  have hs : (((f : Int) / 9223372036854775808) == 1) = sgn f := shr_sign f hl
  have HZ := Lib.hid hz
  have HT := Lib.hid hT
  have hr : rung f / 4503599627370496 = f / 4503599627370496 % 2048 := (exp_field hl).symm
  have hm : rung f % 4503599627370496 = f % 4503599627370496 := (mant_field f).symm
  have hfr := fin_rung hf
  have hv : mval (rung f) = if rung f < 4503599627370496 then rung f else (4503599627370496 + rung f % 4503599627370496) * 2 ^ (rung f / 4503599627370496 - 1) := rfl
  have hform := (V.of hl hf).form
  obtain ⟨e, he⟩ : ∃ e, f / 4503599627370496 % 2048 = e := ⟨_, rfl⟩
  obtain ⟨m, hm2⟩ : ∃ m, f % 4503599627370496 = m := ⟨_, rfl⟩
  rw [he] at h1 hr
  rw [hm2] at h2 hm
  have hmb : m < 4503599627370496 := by omega
  have he2 : e < 2047 := by omega
  have HB1 := Lib.hid h1
  have HB2 := Lib.hid h2
  have HS := Lib.hid hs
  have hpU : ∀ M k : Nat, ((M * 2 ^ k : Nat) : Rat) / (U : Rat) = (M : Rat) * pw ((k : Int) - 1074) := by
    intro M k
    have e1' := pw_sub k e1
    rw [show ((e1 : Nat) : Int) = 1074 by rw [e1_eq]; rfl] at e1'
    rw [e1', cast_mul, U_def]
    grind
  by_cases he0 : e = 0
  · subst he0
    have hrm : rung f = m := by omega
    have HV : RowKit.Hid (qv f = sq (sgn f) ((m : Rat) * pw (-1074))) := Lib.hid (by
      have e9 : mval (rung f) = m * 2 ^ 0 := by rw [hv, if_pos (by omega), hrm, Nat.pow_zero, Nat.mul_one]
      rw [hform, e9, hpU]; rfl)
    have HMB := Lib.hid hmb
    clear h1 h2 hs hr hm hfr hv he hm2 hrm hz hT hf hmb he2 hform hpU
    go_enter Tryd.func55, Tryd.ntmps55
    go_wp2_with (first
      | (go_at_call 86; simp only [HB2.out, HS.out]; go_loud ((with_reducible refine (fromUint_c m (Nat.lt_trans HMB.out (by decide)) _).mono ?_); rintro e1 w1 ⟨v1, rfl, hv1, hg1⟩; have HV1 := Lib.hid hv1; have HG1 := Lib.hid hg1; clear hv1 hg1))
      | (go_at_call 59; go_loud ((with_reducible refine (fset_c (HT.out.grown HG1.out).at' (HT.out.grown HG1.out).lt (HZ.out.grown HG1.out) HV1.out (by omega) (by omega) (Nat.le_trans (bl_digs (n := 53) (bl_le_of (Nat.lt_trans HMB.out (by decide)))) (by decide))).mono ?_); intro e2 w3 h2; have h3 := h2.valx (Nat.le_trans (bl_le_of (n := 53) (Nat.lt_trans HMB.out (by decide))) (by decide)); obtain ⟨rfl, k2, k3⟩ := h3))
      | (simp only [HB1.out, HB2.out])
      | fail)
    go_ret
    rw [HV.out]
    exact ⟨rfl, by first | exact k2 | (rw [← HS.out]; exact k2), (GrB.of HG1.out).trans k3⟩
  · obtain ⟨M, hM⟩ : ∃ M, 4503599627370496 + m = M := ⟨_, rfl⟩
    have HV : RowKit.Hid (qv f = sq (sgn f) ((M : Rat) * pw ((e : Int) - 1075))) := Lib.hid (by
      have e9 : mval (rung f) = M * 2 ^ (e - 1) := by rw [hv, if_neg (by omega), hm, hr, hM]
      rw [hform, e9, hpU, show ((e - 1 : Nat) : Int) - 1074 = (e : Int) - 1075 by omega])
    have HMB := Lib.hid hmb
    have HB3 : RowKit.Hid (bits .or .u64 (m : Int) 4503599627370496 = (M : Int)) := Lib.hid (by rw [lead_bits m hmb, hM])
    have HMM := Lib.hid (show 4503599627370496 ≤ M ∧ M < 9007199254740992 by omega)
    have HE2 := Lib.hid he2
    have g1 : ((e : Int) == 2047) = false := by rw [beq_eq_false_iff_ne]; omega
    have g2 : (0 : Int) < (e : Int) := by omega
    have g3 : (e : Int) ≤ 2046 := by omega
    clear h1 h2 hs hr hm hfr hv he hm2 hz hT hf hmb he2 he0 hM hform hpU
    go_enter Tryd.func55, Tryd.ntmps55
    go_wp2_with (first
      | (go_at_call 86; simp only [HB2.out, HB3.out, HS.out]; go_loud ((with_reducible refine (fromUint_c M (Nat.lt_trans HMM.out.2 (by decide)) _).mono ?_); rintro e1 w1 ⟨v1, rfl, hv1, hg1⟩; have HV1 := Lib.hid hv1; have HG1 := Lib.hid hg1; clear hv1 hg1))
      | (go_at_call 59; go_loud ((with_reducible refine (fset_c (HT.out.grown HG1.out).at' (HT.out.grown HG1.out).lt (HZ.out.grown HG1.out) HV1.out (by omega) (by omega) (Nat.le_trans (bl_digs (n := 53) (bl_le_of (show M < 2 ^ 53 from HMM.out.2))) (by decide))).mono ?_); intro e2 w3 h2; have h3 := h2.valx (Nat.le_trans (bl_le_of (n := 53) (show M < 2 ^ 53 from HMM.out.2)) (by decide)); obtain ⟨rfl, k2, k3⟩ := h3))
      | (simp only [HB1.out, HB2.out, HB3.out])
      | fail)
    go_ret
    rw [HV.out]
    exact ⟨rfl, by first | exact k2 | (rw [← HS.out]; exact k2), (GrB.of HG1.out).trans k3⟩
end Go.Proofs.YtcfkhhnkboealaaDoor
namespace Go.Proofs.YtcfkhhnkboealaaDoor
open Go.RowKit
set_option linter.unusedVariables false
set_option linter.unusedSimpArgs false
set_option maxRecDepth 100000
set_option maxHeartbeats 4000000
theorem lenz {A : Nat} : ((((digs A).length : Nat) : Int) == 0) = decide (A = 0) := by
  by_cases h : A = 0
  · subst h; rfl
  · have := digs_len_pos h
    rw [decide_eq_false h, beq_eq_false_iff_ne]; omega
theorem sgp (b : Bool) (N k : Nat) : (sg (b && decide (N * 2 ^ k ≠ 0)) (N * 2 ^ k) : Rat) = sq b ((N : Rat) * ((2 ^ k : Nat) : Rat)) := by
  rw [sg_and]
  unfold sg
  cases b
  · simp [sq, icast, cast_mul]
  · simp [sq, icast, cast_mul]
theorem tog_val (b : Bool) {A p : Nat} {E T : Int} (h : A ≠ 0 → E = T + p) : (sg (b && decide (A * 2 ^ p ≠ 0)) (A * 2 ^ p) : Rat) * pw T = sq b ((A : Rat) * pw E) := by
  rw [sgp]
  by_cases hA : A = 0
  · subst hA
    have z0 : ((0 : Nat) : Rat) = 0 := rfl
    rw [z0, Rat.zero_mul, Rat.zero_mul]
    cases b <;> simp [sq] <;> grind
  · rw [h hA, pw_add, ← pw_nat]
    cases b <;> simp [sq] <;> grind
theorem bl_mulp {A p L M : Nat} (h : bl A ≤ L) (hM : L + p ≤ M) : bl (A * 2 ^ p) ≤ M := by
  apply bl_le_of
  refine Nat.lt_of_lt_of_le ?_ (Nat.pow_le_pow_right (by decide) hM)
  rw [Nat.pow_add]
  exact Nat.mul_lt_mul_of_pos_right (Nat.lt_of_lt_of_le (bl_lt A) (Nat.pow_le_pow_right (by decide) h)) (Nat.two_pow_pos p)
theorem sg_zero {b : Bool} {N : Nat} (h : N = 0) : (b && decide (N ≠ 0)) = false := by rw [h]; simp
/-- two numbers as whole ones by one power. -/
def RetTog (r s : Rat) (L : Nat) (w : World) (e : Ending) (w' : World) : Prop :=
  ∃ ga gb va vb ba bb NA NB, ∃ E : Int, e = .returned (.tuple #[.pointer (some ⟨ga, 0, none⟩), .pointer (some ⟨gb, 0, none⟩), .int .i64 E]) ∧ IntC w' ga ba va ∧ IntC w' gb bb vb ∧ IsW w' va (digs NA) ∧ IsW w' vb (digs NB) ∧
    (sg ba NA : Rat) * pw E = r ∧ (sg bb NB : Rat) * pw E = s ∧ bl NA ≤ L ∧ bl NB ≤ L ∧ -100000 ≤ E ∧ E ≤ 100000 ∧ (NA = 0 → ba = false) ∧ (NB = 0 → bb = false) ∧ Grown w w' ∧ w.heap.size ≤ ga ∧ w.heap.size ≤ gb ∧ ga ≠ gb
theorem max_i (x : Int) {p : Nat} (h1 : -1000000 ≤ x) (h2 : x ≤ 1000000) (hp : (p : Int) = max x 0) : (if IntKind.i64.wrap x < 0 then 0 else IntKind.i64.wrap x) = (p : Int) := by
  rw [IntWalk.i64_in x ⟨by omega, by omega⟩]
  split <;> omega
theorem upW_i {v : Value} {A : Nat} {w : World} {i : Int} (p : Nat) (hi : i = (p : Int)) (h : IsW w v (digs A)) (hn : p ≤ 100000) (hA : (digs A).length ≤ 1000000) : Calls Tryd.prog 80 #[v, .int .i64 i] w (RetW (A * 2 ^ p) w) := by
  subst hi; exact upW_c p h hn hA
theorem together_c {gx gy m n : Nat} {r s : Rat} {w : World} (hx : FV w gx r) (hy : FV w gy s) (hr : Sz m r) (hs : Sz n s) (hmn : m + n ≤ 90000) :
    Calls Tryd.prog 57 #[.pointer (some ⟨gx, 0, none⟩), .pointer (some ⟨gy, 0, none⟩)] w (RetTog r s (m + n + 900) w) := by
  obtain ⟨bx, vx, E, A, hx1, hx2, hx3, rfl, hx5, hx6, hx7⟩ := hx.fig hr
  obtain ⟨by', vy, F, B, hy1, hy2, hy3, rfl, hy5, hy6, hy7⟩ := hy.fig hs
  have x0 := hx1.at'.c0
  have x1 := hx1.at'.c1
  have x2 := hx1.at'.c2
  have y0 := hy1.at'.c0
  have y1 := hy1.at'.c1
  have y2 := hy1.at'.c2
  have HX1 := Lib.hid hx1
  have HX2 := Lib.hid hx2
  have HY1 := Lib.hid hy1
  have HY2 := Lib.hid hy2
  have HB := Lib.hid (And.intro hx3 hy3)
  obtain ⟨W0, hW0⟩ : ∃ W0, (w.alloc (.cells #[.bool false, .slice none 0 0] 66)).alloc (.cells #[.bool false, .slice none 0 0] 66) = W0 := ⟨_, rfl⟩
  have HG0 : RowKit.Hid (Grown w W0) := Lib.hid (by rw [← hW0]; exact ((Grown.refl w).alloc _ _).alloc _ _)
  have HIA : RowKit.Hid (IntC W0 w.heap.size false (.slice none 0 0)) := Lib.hid (by rw [← hW0]; exact (intNew (Grown.refl w) _).grown ((Grown.refl _).alloc _ _))
  have HIB : RowKit.Hid (IntC W0 (w.heap.size + 1) false (.slice none 0 0)) := Lib.hid (by
    have := intNew (Grown.refl (w.alloc (.cells #[.bool false, .slice none 0 0] 66))) 66
    rw [size_alloc, hW0] at this; exact this)
  obtain ⟨sx, cx, ex, _, _, _⟩ := HX2.out
  subst ex
  obtain ⟨sy, cy, ey, _, _, _⟩ := HY2.out
  subst ey
  obtain ⟨lx, hlx⟩ : ∃ lx, (digs A).length = lx := ⟨_, rfl⟩
  obtain ⟨ly, hly⟩ : ∃ ly, (digs B).length = ly := ⟨_, rfl⟩
  have hla := lenz (A := A)
  have hlb := lenz (A := B)
  rw [hlx] at hla HX1 HX2
  rw [hly] at hlb HY1 HY2
  obtain ⟨G, hG⟩ : ∃ G, (if F < E then F else E) = G := ⟨_, rfl⟩
  have HF5 := Lib.hid (And.intro hx5 hy5)
  have HF6 := Lib.hid (And.intro (And.intro hx6 hx7) (And.intro hy6 hy7))
  have HG' := Lib.hid hG
  obtain ⟨za, hza⟩ : ∃ za : Bool, decide (A = 0) = za := ⟨_, rfl⟩
  obtain ⟨zb, hzb⟩ : ∃ zb : Bool, decide (B = 0) = zb := ⟨_, rfl⟩
  rw [hza] at hla
  rw [hzb] at hlb
  -- the common power, and how far each is moved
  have hcs : ∃ T : Int, ∃ p q : Nat, T = (if zb then E else if za then F else G) ∧ (p : Int) = max (E - T) 0 ∧ (q : Int) = max (F - T) 0 ∧ (A ≠ 0 → E = T + p) ∧ (B ≠ 0 → F = T + q) ∧ p ≤ 95000 ∧ q ≤ 95000 ∧ p ≤ m + n + 410 ∧ q ≤ m + n + 410 ∧ -95000 ≤ T ∧ T ≤ 95000 := by
    by_cases hB : B = 0
    · rw [decide_eq_true hB] at hzb
      subst hzb
      have := hy5 hB
      refine ⟨E, (max (E - E) 0).toNat, (max (F - E) 0).toNat, rfl, by omega, by omega, fun _ => by omega, fun h => absurd hB h, by omega, by omega, by omega, by omega, by omega, by omega⟩
    · rw [decide_eq_false hB] at hzb
      subst hzb
      by_cases hA : A = 0
      · rw [decide_eq_true hA] at hza
        subst hza
        have := hx5 hA
        refine ⟨F, (max (E - F) 0).toNat, (max (F - F) 0).toNat, rfl, by omega, by omega, fun h => absurd hA h, fun _ => by omega, by omega, by omega, by omega, by omega, by omega, by omega⟩
      · rw [decide_eq_false hA] at hza
        subst hza
        have hG2 : (G = F ∧ F < E) ∨ (G = E ∧ E ≤ F) := by split at hG <;> omega
        refine ⟨G, (max (E - G) 0).toNat, (max (F - G) 0).toNat, rfl, by omega, by omega, fun _ => by omega, fun _ => by omega, by omega, by omega, by omega, by omega, by omega, by omega⟩
  obtain ⟨T, p, q, hT, hp, hq, hEp, hFq, hb1, hb2, hb3, hb4, hb5, hb6⟩ := hcs
  have HEP := Lib.hid (And.intro hEp hFq)
  have HPB := Lib.hid (And.intro (And.intro hb1 hb2) (And.intro hb3 hb4))
  have HTB := Lib.hid (And.intro hb5 hb6)
  have HPM := Lib.hid (And.intro hp hq)
  clear hx5 hy5 hx6 hx7 hy6 hy7 hEp hFq hza hzb hx hy hr hs hx3 hy3 hp hq
  have hx0 := (HX1.out.grown HG0.out).at'.c0
  have hx1' := (HX1.out.grown HG0.out).at'.c1
  have hx2' := (HX1.out.grown HG0.out).at'.c2
  have hy0 := (HY1.out.grown HG0.out).at'.c0
  have hy1' := (HY1.out.grown HG0.out).at'.c1
  have hy2' := (HY1.out.grown HG0.out).at'.c2
  go_enter Tryd.func57, Tryd.ntmps57
  go_upto_region 3 with fail
  go_region_held3 (fun w' => w'.cell? ⟨gx, 0, none⟩ = some (.bool bx) ∧ w'.cell? ⟨gx, 1, none⟩ = some (.slice sx lx cx) ∧ w'.cell? ⟨gx, 2, none⟩ = some (.int .i64 E) ∧ w'.cell? ⟨gy, 0, none⟩ = some (.bool by') ∧ w'.cell? ⟨gy, 1, none⟩ = some (.slice sy ly cy) ∧ w'.cell? ⟨gy, 2, none⟩ = some (.int .i64 F)) (first | exact ⟨by assumption, by assumption, by assumption, by assumption, by assumption, by assumption⟩ | go_keep) (fail)
  have HL1 : RowKit.Hid ((digs A).length ≤ 1000000 ∧ (digs B).length ≤ 1000000) := Lib.hid ⟨Nat.le_trans (bl_digs HB.out.1) (by decide), Nat.le_trans (bl_digs HB.out.2) (by decide)⟩
  cases zb
  all_goals cases za
  all_goals
    simp only [if_true, if_false, Bool.false_eq_true] at hT
    first
      | obtain rfl : E = T := hT.symm
      | obtain rfl : F = T := hT.symm
      | obtain rfl : G = T := hT.symm
    go_upto_region 8 with fail
    try have hmx : (if IntKind.i64.wrap (E - G) < 0 then 0 else IntKind.i64.wrap (E - G)) = (p : Int) := (by have h1 := HPM.out; have h2 := HTB.out; have h3 := HF6.out; exact max_i _ (by omega) (by omega) h1.1)
    try have hmy : (if IntKind.i64.wrap (F - G) < 0 then 0 else IntKind.i64.wrap (F - G)) = (q : Int) := (by have h1 := HPM.out; have h2 := HTB.out; have h3 := HF6.out; exact max_i _ (by omega) (by omega) h1.2)
    try have hmx : (if IntKind.i64.wrap (E - F) < 0 then 0 else IntKind.i64.wrap (E - F)) = (p : Int) := (by have h1 := HPM.out; have h2 := HTB.out; have h3 := HF6.out; exact max_i _ (by omega) (by omega) h1.1)
    try have hmy : (if IntKind.i64.wrap (F - E) < 0 then 0 else IntKind.i64.wrap (F - E)) = (q : Int) := (by have h1 := HPM.out; have h2 := HTB.out; have h3 := HF6.out; exact max_i _ (by omega) (by omega) h1.2)
    go_region_held3 (fun w' => w'.cell? ⟨gx, 0, none⟩ = some (.bool bx) ∧ w'.cell? ⟨gx, 1, none⟩ = some (.slice sx lx cx) ∧ w'.cell? ⟨gx, 2, none⟩ = some (.int .i64 E)) (first | exact ⟨by assumption, by assumption, by assumption⟩ | go_keep) (first
      | (go_at_call 80; go_loud ((with_reducible refine (upW_i (A := A) p (by first | rfl | (have h1 := HPM.out; have h2 := HTB.out; have h3 := HF6.out; exact max_i _ (by omega) (by omega) (by omega))) (HX2.out.grown (gr_drew1 (gr_drew1 HG0.out))) (by have := HPB.out; omega) HL1.out.1).mono ?_); rintro e w1 ⟨v1, rfl, hv1, hg1⟩; have HV1 := Lib.hid hv1; have HG1 := Lib.hid (gr_trans (gr_drew1 (gr_drew1 (Grown.refl W0))) hg1); have xa := (HX1.out.grown (gr_trans HG0.out HG1.out)).at'.c0; have xb := (HX1.out.grown (gr_trans HG0.out HG1.out)).at'.c1; have xc := (HX1.out.grown (gr_trans HG0.out HG1.out)).at'.c2; clear hv1 hg1))
      | (go_at_call 87; go_loud ((with_reducible refine (iset_c (HIA.out.grown HG1.out) HV1.out (digs_sm _) (wv_digs _)).mono ?_); rintro e w2 ⟨va, rfl, hva, hia, hga, hka⟩; have HVA := Lib.hid hva; have HIA2 := Lib.hid hia; have HIB2 := Lib.hid ((HIB.out.grown HG1.out).kept hga (Nat.ne_of_gt (Nat.lt_succ_self _))); have HG2 := Lib.hid (hga.grown (gr_trans HG0.out HG1.out) (Nat.le_refl _)); have xa := (HX1.out.grown HG2.out).at'.c0; have xb := (HX1.out.grown HG2.out).at'.c1; have xc := (HX1.out.grown HG2.out).at'.c2; have ya := (HY1.out.grown HG2.out).at'.c0; have yb := (HY1.out.grown HG2.out).at'.c1; have yc := (HY1.out.grown HG2.out).at'.c2; clear hva hia hga hka))
      | fail)
    go_upto_region 9 with fail
    go_region_held3 (fun w' => w'.cell? ⟨gy, 0, none⟩ = some (.bool by') ∧ w'.cell? ⟨gy, 1, none⟩ = some (.slice sy ly cy) ∧ w'.cell? ⟨gy, 2, none⟩ = some (.int .i64 F)) (first | exact ⟨by assumption, by assumption, by assumption⟩ | go_keep) (first
      | (go_at_call 80; go_loud ((with_reducible refine (upW_i (A := B) q (by first | rfl | (have h1 := HPM.out; have h2 := HTB.out; have h3 := HF6.out; exact max_i _ (by omega) (by omega) (by omega))) (HY2.out.grown (gr_drew1 HG2.out)) (by have := HPB.out; omega) HL1.out.2).mono ?_); rintro e w3 ⟨v3, rfl, hv3, hg3⟩; have HV3 := Lib.hid hv3; have HG3 := Lib.hid (gr_trans (gr_drew1 (Grown.refl w2)) hg3); have ya := (HY1.out.grown (gr_trans HG2.out HG3.out)).at'.c0; have yb := (HY1.out.grown (gr_trans HG2.out HG3.out)).at'.c1; have yc := (HY1.out.grown (gr_trans HG2.out HG3.out)).at'.c2; clear hv3 hg3))
      | (go_at_call 87; go_loud ((with_reducible refine (iset_c (HIB2.out.grown HG3.out) HV3.out (digs_sm _) (wv_digs _)).mono ?_); rintro e w4 ⟨vb, rfl, hvb, hib, hgb, hkb⟩; have HVB := Lib.hid hvb; have HIB3 := Lib.hid hib; have HIA3 := Lib.hid ((HIA2.out.grown HG3.out).kept hgb (Nat.ne_of_lt (Nat.lt_succ_self _))); have HVA3 := Lib.hid ((HVA.out.grown HG3.out).kept hgb (HIB2.out.grown HG3.out).no); have HG4 := Lib.hid (hgb.grown (gr_trans HG2.out HG3.out) (Nat.le_succ _)); have ya := (HY1.out.grown HG4.out).at'.c0; have yb := (HY1.out.grown HG4.out).at'.c1; have yc := (HY1.out.grown HG4.out).at'.c2; clear hvb hib hgb hkb))
      | fail)
    go_wp2_with fail
    go_ret3
    have h1 := HPB.out
    have h2 := HTB.out
    exact ⟨w.heap.size, w.heap.size + 1, va, vb, _, _, A * 2 ^ p, B * 2 ^ q, _, rfl, HIA3.out, HIB3.out, HVA3.out, HVB.out, tog_val bx HEP.out.1, tog_val by' HEP.out.2, bl_mulp HB.out.1 (by omega), bl_mulp HB.out.2 (by omega), by omega, by omega, sg_zero, sg_zero, HG4.out, Nat.le_refl _, Nat.le_succ _, Nat.ne_of_lt (Nat.lt_succ_self _)⟩
end Go.Proofs.YtcfkhhnkboealaaDoor
namespace Go.Proofs.YtcfkhhnkboealaaDoor
open Go.RowKit
set_option linter.unusedVariables false
set_option linter.unusedSimpArgs false
set_option maxRecDepth 100000
set_option maxHeartbeats 4000000
theorem sgn_val (S : Int) (E : Int) : sq (decide (S < 0)) (((S.natAbs : Nat) : Rat) * pw E) = (S : Rat) * pw E := by
  have h := sgn_abQ S false
  by_cases h0 : S = 0
  · subst h0
    have z0 : ((0 : Nat) : Rat) = 0 := rfl
    simp [sq]
  · rw [if_neg h0] at h
    rw [← h]
    cases decide (S < 0) <;> simp [sq] <;> grind
theorem sg_size {b c : Bool} {N M L : Nat} (h1 : bl N ≤ L) (h2 : bl M ≤ L) : bl (sg b N + sg c M).natAbs ≤ L + 1 ∧ bl (sg b N - sg c M).natAbs ≤ L + 1 := by
  have p1 : N < 2 ^ L := Nat.lt_of_lt_of_le (bl_lt N) (Nat.pow_le_pow_right (by decide) h1)
  have p2 : M < 2 ^ L := Nat.lt_of_lt_of_le (bl_lt M) (Nat.pow_le_pow_right (by decide) h2)
  constructor
  · apply bl_le_of
    rw [Nat.pow_succ]
    generalize 2 ^ L = Z at *
    unfold sg
    cases b <;> cases c <;> simp <;> omega
  · apply bl_le_of
    rw [Nat.pow_succ]
    generalize 2 ^ L = Z at *
    unfold sg
    cases b <;> cases c <;> simp <;> omega
theorem fadd_c {g gx gy m n : Nat} {r s : Rat} {w : World} (hT : TB w) (hz : FZ w g) (hx : FV w gx r) (hy : FV w gy s) (hr : Sz m r) (hs : Sz n s) (hmn : m + n ≤ 90000) :
    Calls Tryd.prog 16 #[.pointer (some ⟨g, 0, none⟩), .pointer (some ⟨gx, 0, none⟩), .pointer (some ⟨gy, 0, none⟩)] w (RetFV g (r + s) w) := by
  have HTG := Lib.hid (together_c hx hy hr hs hmn)
  obtain ⟨bz, vz, Ez, fz, hZ⟩ := hz
  obtain ⟨bx, vx, Ex, Ax, hx1, hx2, hx3, rfl, hx5⟩ := hx
  obtain ⟨by', vy, Ey, Ay, hy1, hy2, hy3, rfl, hy5⟩ := hy
  have HZ := Lib.hid hZ
  have HX1 := Lib.hid hx1
  have HY1 := Lib.hid hy1
  have HT := Lib.hid hT
  clear hx1 hx2 hx3 hx5 hy1 hy2 hy3 hy5 hZ hT hr hs
  go_enter Tryd.func16, Tryd.ntmps16
  go_upto_region 4 with (first
    | (go_at_call 56; go_loud ((with_reducible refine (fwide_c HZ.out).mono ?_); rintro e1 w1 ⟨rfl, rfl⟩))
    | (go_at_call 57; go_loud ((with_reducible refine HTG.out.mono ?_); rintro e2 w2 ⟨ga, gb, va, vb, ba, bb, NA, NB, E, rfl, hia, hib, hva, hvb, hv1, hv2, hb1, hb2, he1, he2, hn1, hn2, hg, hs1, hs2, hne⟩; have HIA := Lib.hid hia; have HIB := Lib.hid hib; have HVA := Lib.hid hva; have HVB := Lib.hid hvb; have HV := Lib.hid (And.intro hv1 hv2); have HBL := Lib.hid (And.intro hb1 hb2); have HG := Lib.hid hg; have HS := Lib.hid hs1; clear hia hib hva hvb hv1 hv2 hb1 hb2 hn1 hn2 hg hs2 hne))
    | (go_at_call 58; go_loud ((with_reducible refine (iadd_c HIA.out HIA.out HIB.out HVA.out HVB.out (Nat.le_trans (bl_digs HBL.out.1) (by omega)) (Nat.le_trans (bl_digs HBL.out.2) (by omega))).mono ?_); rintro e3 w3 ⟨v3, rfl, hv3, hi3, hg3, hk3⟩; have HV3 := Lib.hid hv3; have HI3 := Lib.hid hi3; have HG3 := Lib.hid (hg3.grown HG.out HS.out); clear hv3 hg3 hk3))
    | fail)
  have z0 := HI3.out.c0
  have z1 := HI3.out.c1
  have x4 := (HX1.out.grown HG3.out).at'.c4
  have y4 := (HY1.out.grown HG3.out).at'.c4
  have HS3 := Lib.hid (Nat.le_trans (bl_digs (sg_size (b := ba) (c := bb) HBL.out.1 HBL.out.2).1) (show (m + n + 900 + 1) / 32 + 1 ≤ 3000 by omega))
  have HE := Lib.hid (And.intro he1 he2)
  go_still_tail 20, (by kernel_rfl)
  change wpList _ _ _ _ _ w3.drew
  have HGd : RowKit.Hid (Grown w3 w3.drew) := Lib.hid (gr_drew1 (Grown.refl w3))
  have HZd := Lib.hid ((HZ.out.grown HG3.out).grown HGd.out)
  have Hd := Lib.hid (HV3.out.grown HGd.out)
  have HTd := Lib.hid ((HT.out.grown HG3.out).grown HGd.out)
  generalize eW : w3.drew = w4 at *
  go_wp2_with (first
    | (go_at_call 59; go_loud ((with_reducible refine (fset_c HTd.out.at' HTd.out.lt HZd.out Hd.out (by have := HE.out; omega) (by have := HE.out; omega) HS3.out).mono ?_); intro e2 w5 h2; have h3 := h2.val; obtain ⟨r', k1, rfl, k2, k3⟩ := h3))
    | fail)
  go_ret
  have e0 : sq (decide (sg ba NA + sg bb NB < 0)) ((((sg ba NA + sg bb NB).natAbs : Nat) : Rat) * pw E) = sq bx ((Ax : Rat) * pw Ex) + sq by' ((Ay : Rat) * pw Ey) := by
    rw [sgn_val, ← HV.out.1, ← HV.out.2, Rat.intCast_add]; grind
  rw [e0] at k1
  exact ⟨r', k1, rfl, k2, (GrB.of (gr_trans HG3.out HGd.out)).trans k3⟩
theorem isub_c {g gx gy A B : Nat} {b0 bx by' : Bool} {v0 vx vy : Value} {w : World} (hI : IntC w g b0 v0) (hx : IntC w gx bx vx) (hy : IntC w gy by' vy) (ha : IsW w vx (digs A)) (hb : IsW w vy (digs B)) (lA : (digs A).length ≤ 100000) (lB : (digs B).length ≤ 100000) :
    Calls Tryd.prog 66 #[.pointer (some ⟨g, 0, none⟩), .pointer (some ⟨gx, 0, none⟩), .pointer (some ⟨gy, 0, none⟩)] w (RetIS g (sg bx A - sg by' B) w) := by
  have x0 := hx.c0
  have x1 := hx.c1
  have y0 := hy.c0
  have y1 := hy.c1
  have HAD := Lib.hid (fun (W : World) (hg : Grown w W) => iadded_c (below := bx) (other := !by') (hI.grown hg) (ha.grown hg) (hb.grown hg) lA lB)
  have HS : RowKit.Hid (sg bx A + sg (!by') B = sg bx A - sg by' B) := Lib.hid (by unfold sg; cases by' <;> simp <;> omega)
  clear hI hx hy ha hb
  go_enter Tryd.func66, Tryd.ntmps66
  go_upto_region 1 with fail
  go_still_tail 18, (by kernel_rfl)
  change wpList _ _ _ _ _ w.drew
  go_wp2_with (first
    | (go_at_call 88; go_loud ((with_reducible refine (HAD.out _ (gr_drew1 (Grown.refl w))).mono ?_); rw [HS.out]; rintro e w1 ⟨v1, rfl, hv1, hi1, hg1, hk1⟩))
    | fail)
  go_ret
  exact ⟨v1, rfl, hv1, hi1, hg1, hk1⟩
theorem fsub_c {g gx gy m n : Nat} {r s : Rat} {w : World} (hT : TB w) (hz : FZ w g) (hx : FV w gx r) (hy : FV w gy s) (hr : Sz m r) (hs : Sz n s) (hmn : m + n ≤ 90000) :
    Calls Tryd.prog 22 #[.pointer (some ⟨g, 0, none⟩), .pointer (some ⟨gx, 0, none⟩), .pointer (some ⟨gy, 0, none⟩)] w (RetFV g (r - s) w) := by
  have HTG := Lib.hid (together_c hx hy hr hs hmn)
  obtain ⟨bz, vz, Ez, fz, hZ⟩ := hz
  obtain ⟨bx, vx, Ex, Ax, hx1, hx2, hx3, rfl, hx5⟩ := hx
  obtain ⟨by', vy, Ey, Ay, hy1, hy2, hy3, rfl, hy5⟩ := hy
  have HZ := Lib.hid hZ
  have HX1 := Lib.hid hx1
  have HY1 := Lib.hid hy1
  have HT := Lib.hid hT
  clear hx1 hx2 hx3 hx5 hy1 hy2 hy3 hy5 hZ hT hr hs
  go_enter Tryd.func22, Tryd.ntmps22
  go_upto_region 4 with (first
    | (go_at_call 56; go_loud ((with_reducible refine (fwide_c HZ.out).mono ?_); rintro e1 w1 ⟨rfl, rfl⟩))
    | (go_at_call 57; go_loud ((with_reducible refine HTG.out.mono ?_); rintro e2 w2 ⟨ga, gb, va, vb, ba, bb, NA, NB, E, rfl, hia, hib, hva, hvb, hv1, hv2, hb1, hb2, he1, he2, hn1, hn2, hg, hs1, hs2, hne⟩; have HIA := Lib.hid hia; have HIB := Lib.hid hib; have HVA := Lib.hid hva; have HVB := Lib.hid hvb; have HV := Lib.hid (And.intro hv1 hv2); have HBL := Lib.hid (And.intro hb1 hb2); have HG := Lib.hid hg; have HS := Lib.hid hs1; clear hia hib hva hvb hv1 hv2 hb1 hb2 hn1 hn2 hg hs2 hne))
    | (go_at_call 66; go_loud ((with_reducible refine (isub_c HIA.out HIA.out HIB.out HVA.out HVB.out (Nat.le_trans (bl_digs HBL.out.1) (by omega)) (Nat.le_trans (bl_digs HBL.out.2) (by omega))).mono ?_); rintro e3 w3 ⟨v3, rfl, hv3, hi3, hg3, hk3⟩; have HV3 := Lib.hid hv3; have HI3 := Lib.hid hi3; have HG3 := Lib.hid (hg3.grown HG.out HS.out); clear hv3 hg3 hk3))
    | fail)
  have z0 := HI3.out.c0
  have z1 := HI3.out.c1
  have x4 := (HX1.out.grown HG3.out).at'.c4
  have y4 := (HY1.out.grown HG3.out).at'.c4
  have HS3 := Lib.hid (Nat.le_trans (bl_digs (sg_size (b := ba) (c := bb) HBL.out.1 HBL.out.2).2) (show (m + n + 900 + 1) / 32 + 1 ≤ 3000 by omega))
  have HE := Lib.hid (And.intro he1 he2)
  go_still_tail 20, (by kernel_rfl)
  change wpList _ _ _ _ _ w3.drew
  have HGd : RowKit.Hid (Grown w3 w3.drew) := Lib.hid (gr_drew1 (Grown.refl w3))
  have HZd := Lib.hid ((HZ.out.grown HG3.out).grown HGd.out)
  have Hd := Lib.hid (HV3.out.grown HGd.out)
  have HTd := Lib.hid ((HT.out.grown HG3.out).grown HGd.out)
  generalize eW : w3.drew = w4 at *
  go_wp2_with (first
    | (go_at_call 59; go_loud ((with_reducible refine (fset_c HTd.out.at' HTd.out.lt HZd.out Hd.out (by have := HE.out; omega) (by have := HE.out; omega) HS3.out).mono ?_); intro e2 w5 h2; have h3 := h2.val; obtain ⟨r', k1, rfl, k2, k3⟩ := h3))
    | fail)
  go_ret
  have e0 : sq (decide (sg ba NA - sg bb NB < 0)) ((((sg ba NA - sg bb NB).natAbs : Nat) : Rat) * pw E) = sq bx ((Ax : Rat) * pw Ex) - sq by' ((Ay : Rat) * pw Ey) := by
    rw [sgn_val, ← HV.out.1, ← HV.out.2, Rat.intCast_sub]; grind
  rw [e0] at k1
  exact ⟨r', k1, rfl, k2, (GrB.of (gr_trans HG3.out HGd.out)).trans k3⟩
/-- how a comparison tells. -/
def CmpV (c : Int) (r s : Rat) : Prop := (c ≤ 0 ↔ r ≤ s) ∧ (0 ≤ c ↔ s ≤ r)
theorem cmpV_scale {c : Int} {a b : Int} {r s p : Rat} (hp : 0 < p) (h1 : (a : Rat) * p = r) (h2 : (b : Rat) * p = s) (h : (c ≤ 0 ↔ a ≤ b) ∧ (0 ≤ c ↔ b ≤ a)) : CmpV c r s := by
  have key : ∀ x y : Int, (x : Rat) * p ≤ (y : Rat) * p ↔ x ≤ y := by
    intro x y
    constructor
    · intro k; exact cast_le'.1 (Rat.le_of_mul_le_mul_right k hp)
    · intro k; exact Rat.mul_le_mul_of_nonneg_right (cast_le'.2 k) (Rat.le_of_lt hp)
  unfold CmpV
  rw [← h1, ← h2, key, key]
  exact h
theorem cmpI_s (A B : Nat) : (cmpI A B ≤ 0 ↔ A ≤ B) ∧ (0 ≤ cmpI A B ↔ B ≤ A) := by
  unfold cmpI
  split
  · omega
  · split <;> omega
def RetZc (P : Int → Prop) (w : World) (e : Ending) (w' : World) : Prop := ∃ c, e = .returned (.int .i64 c) ∧ P c ∧ Grown w w'
theorem icmp_c {gx gy A B : Nat} {bx by' : Bool} {vx vy : Value} {w : World} (hx : IntC w gx bx vx) (hy : IntC w gy by' vy) (ha : IsW w vx (digs A)) (hb : IsW w vy (digs B)) (za : A = 0 → bx = false) (zb : B = 0 → by' = false) :
    Calls Tryd.prog 67 #[.pointer (some ⟨gx, 0, none⟩), .pointer (some ⟨gy, 0, none⟩)] w (RetZc (fun c => (c ≤ 0 ↔ sg bx A ≤ sg by' B) ∧ (0 ≤ c ↔ sg by' B ≤ sg bx A)) w) := by
  have x0 := hx.c0
  have x1 := hx.c1
  have y0 := hy.c0
  have y1 := hy.c1
  have HA := Lib.hid ha
  have HB := Lib.hid hb
  have HZ := Lib.hid (And.intro za zb)
  have HCM := Lib.hid (cmpI_s A B)
  obtain ⟨c, hc⟩ : ∃ c, cmpI A B = c := ⟨_, rfl⟩
  have HC := Lib.hid hc
  have HCB : RowKit.Hid (-1 ≤ c ∧ c ≤ 1) := Lib.hid (by rw [← hc]; unfold cmpI; split; omega; split <;> omega)
  have hcb := HCB.out
  clear hx hy ha hb za zb hc
  have h6 := HCM.out
  rw [HC.out] at h6
  cases bx
  case false =>
    cases by'
    case false =>
      go_enter Tryd.func67, Tryd.ntmps67
      go_upto_region 1 with fail
      go_still_tail 8, (by kernel_rfl)
      change wpList _ _ _ _ _ w.drew
      have HG1 := Lib.hid (gr_drew1 (Grown.refl w))
      have x0d : w.drew.cell? ⟨gx, 0, none⟩ = some (.bool false) := x0
      have x1d : w.drew.cell? ⟨gx, 1, none⟩ = some vx := x1
      have y0d : w.drew.cell? ⟨gy, 0, none⟩ = some (.bool false) := y0
      have y1d : w.drew.cell? ⟨gy, 1, none⟩ = some vy := y1
      generalize eW : w.drew = w0 at *
      go_upto_region 7 with fail
      go_still_tail 8, (by kernel_rfl)
      change wpList _ _ _ _ _ w0.drew
      go_wp2_with (first
        | (go_at_call 93; go_loud ((with_reducible refine (cmp_c (HA.out.grown (gr_drew1 HG1.out)) (HB.out.grown (gr_drew1 HG1.out))).mono ?_); rw [HC.out]; rintro e w1 ⟨n1, rfl, rfl⟩))
        | fail)
      go_ret
      exact ⟨c, rfl, by simp only [sg, Bool.false_eq_true, if_false]; omega, gr_drewN _ HG1.out⟩
    case true =>
      have hz : B ≠ 0 := fun e => by have := HZ.out.2 e; cases this
      go_enter Tryd.func67, Tryd.ntmps67
      go_upto_region 1 with fail
      go_still_tail 8, (by kernel_rfl)
      change wpList _ _ _ _ _ w.drew
      go_wp2_with fail
      go_ret
      exact ⟨1, rfl, by have : B ≠ 0 := hz; simp only [sg, Bool.false_eq_true, if_false, if_true]; omega, gr_drew1 (Grown.refl w)⟩
  case true =>
    cases by'
    case false =>
      have hz : A ≠ 0 := fun e => by have := HZ.out.1 e; cases this
      go_enter Tryd.func67, Tryd.ntmps67
      go_upto_region 1 with fail
      go_still_tail 8, (by kernel_rfl)
      change wpList _ _ _ _ _ w.drew
      go_wp2_with fail
      go_ret
      exact ⟨-1, rfl, by have : A ≠ 0 := hz; simp only [sg, Bool.false_eq_true, if_false, if_true]; omega, gr_drew1 (Grown.refl w)⟩
    case true =>
      go_enter Tryd.func67, Tryd.ntmps67
      go_upto_region 1 with fail
      go_still_tail 8, (by kernel_rfl)
      change wpList _ _ _ _ _ w.drew
      have HG1 := Lib.hid (gr_drew1 (Grown.refl w))
      have x0d : w.drew.cell? ⟨gx, 0, none⟩ = some (.bool true) := x0
      have x1d : w.drew.cell? ⟨gx, 1, none⟩ = some vx := x1
      have y0d : w.drew.cell? ⟨gy, 0, none⟩ = some (.bool true) := y0
      have y1d : w.drew.cell? ⟨gy, 1, none⟩ = some vy := y1
      generalize eW : w.drew = w0 at *
      go_upto_region 6 with fail
      go_still_tail 8, (by kernel_rfl)
      change wpList _ _ _ _ _ w0.drew
      go_wp2_with (first
        | (go_at_call 93; go_loud ((with_reducible refine (cmp_c (HA.out.grown (gr_drew1 HG1.out)) (HB.out.grown (gr_drew1 HG1.out))).mono ?_); rw [HC.out]; rintro e w1 ⟨n1, rfl, rfl⟩))
        | fail)
      go_ret
      exact ⟨-c, by first | rfl | (congr 2; exact IntWalk.i64_in _ ⟨by omega, by omega⟩), by simp only [sg, if_true]; omega, gr_drewN _ HG1.out⟩
theorem fabs_c {g gx m : Nat} {r : Rat} {w : World} (hT : TB w) (hz : FZ w g) (hx : FV w gx r) (hs : Sz m r) (hm : m ≤ 100000) :
    Calls Tryd.prog 68 #[.pointer (some ⟨g, 0, none⟩), .pointer (some ⟨gx, 0, none⟩)] w (RetFV g (ab r) w) := by
  obtain ⟨bz, vz, Ez, fz, hZ⟩ := hz
  obtain ⟨b, v, E, A, hx1, hx2, hx3, rfl, hx5, hx6, hx7⟩ := hx.fig hs
  have HZ := Lib.hid hZ
  have HX1 := Lib.hid hx1
  have HX2 := Lib.hid hx2
  have HB := Lib.hid hx3
  have HT := Lib.hid hT
  have hc1 := hx1.at'.c1
  have hc2 := hx1.at'.c2
  have hc4 := hx1.at'.c4
  have HE : RowKit.Hid (ab (sq b ((A : Rat) * pw E)) = sq false ((A : Rat) * pw E)) := Lib.hid (by rw [sq_ab, ab_pos (mul_nn (cast_nn A) (Rat.le_of_lt (pw_pos E)))]; simp [sq])
  clear hx hs hx1 hx2 hx3 hx5 hT hZ
  go_enter Tryd.func68, Tryd.ntmps68
  go_upto_region 2 with (first
    | (go_at_call 56; go_loud ((with_reducible refine (fwide_c HZ.out).mono ?_); rintro e1 w1 ⟨rfl, rfl⟩))
    | fail)
  go_still_tail 13, (by kernel_rfl)
  change wpList _ _ _ _ _ w1.drew
  have HGd : RowKit.Hid (Grown w1 w1.drew) := Lib.hid (gr_drew1 (Grown.refl w1))
  have HZd := Lib.hid (HZ.out.grown HGd.out)
  have Hd := Lib.hid (HX2.out.grown HGd.out)
  have HTd := Lib.hid (HT.out.grown HGd.out)
  generalize eW : w1.drew = w2 at *
  go_wp2_with (first
    | (go_at_call 59; go_loud ((with_reducible refine (fset_c HTd.out.at' HTd.out.lt HZd.out Hd.out (by omega) (by omega) (Nat.le_trans (bl_digs HB.out) (by decide))).mono ?_); intro e2 w3 h2; have h3 := h2.val; obtain ⟨r', k1, rfl, k2, k3⟩ := h3))
    | fail)
  go_ret
  rw [HE.out]
  exact ⟨r', k1, rfl, k2, (GrB.of HGd.out).trans k3⟩
/-- a comparison's answer. -/
def RetCV (r s : Rat) (w : World) (e : Ending) (w' : World) : Prop := ∃ c : Int, e = .returned (.int .i64 c) ∧ CmpV c r s ∧ Grown w w'
theorem fcmp_c {gx gy m n : Nat} {r s : Rat} {w : World} (hx : FV w gx r) (hy : FV w gy s) (hr : Sz m r) (hs : Sz n s) (hmn : m + n ≤ 90000) :
    Calls Tryd.prog 23 #[.pointer (some ⟨gx, 0, none⟩), .pointer (some ⟨gy, 0, none⟩)] w (RetCV r s w) := by
  have HTG := Lib.hid (together_c hx hy hr hs hmn)
  obtain ⟨bx, vx, Ex, Ax, hx1, hx2, hx3, rfl, hx5⟩ := hx
  obtain ⟨by', vy, Ey, Ay, hy1, hy2, hy3, rfl, hy5⟩ := hy
  have x4 := hx1.at'.c4
  have y4 := hy1.at'.c4
  clear hx1 hx2 hx3 hx5 hy1 hy2 hy3 hy5 hr hs
  go_enter Tryd.func23, Tryd.ntmps23
  go_wp2_with (first
    | (go_at_call 57; go_loud ((with_reducible refine HTG.out.mono ?_); rintro e2 w2 ⟨ga, gb, va, vb, ba, bb, NA, NB, E, rfl, hia, hib, hva, hvb, hv1, hv2, hb1, hb2, he1, he2, hn1, hn2, hg, hs1, hs2, hne⟩; have HIA := Lib.hid hia; have HIB := Lib.hid hib; have HVA := Lib.hid hva; have HVB := Lib.hid hvb; have HV := Lib.hid (And.intro hv1 hv2); have HN := Lib.hid (And.intro hn1 hn2); have HG := Lib.hid hg; clear hia hib hva hvb hv1 hv2 hb1 hb2 hn1 hn2 hg hs1 hs2 hne he1 he2))
    | (go_at_call 67; go_loud ((with_reducible refine (icmp_c HIA.out HIB.out HVA.out HVB.out HN.out.1 HN.out.2).mono ?_); rintro e3 w3 ⟨c, rfl, hc, hg3⟩; have HC := Lib.hid hc; have HG3 := Lib.hid (gr_trans HG.out hg3); clear hc hg3))
    | fail)
  go_ret
  exact ⟨c, rfl, cmpV_scale (pw_pos E) HV.out.1 HV.out.2 HC.out, HG3.out⟩
end Go.Proofs.YtcfkhhnkboealaaDoor
