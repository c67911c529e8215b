/- The law's own check of angles answers true. No condition. -/
import Derived.Test.YtncmppmkchbejaaAng6
namespace Go.Proofs.Ytncmppmkchbejaa
open Go.RowKit
set_option linter.unusedVariables false
set_option linter.unusedSimpArgs false
set_option maxRecDepth 100000
set_option maxHeartbeats 4000000
section
variable {x y z f g h : Nat} (hx : Rep x f) (hy : Rep y g) (w : World)
include hx hy
theorem is_c : Calls Try.prog 12 #[.float .f64 x, .float .f64 y] w (RetB (f == g) w) := by
  go_enter Try.func12, Try.ntmps12
  go_wp2_with (go_at_call 36; refine (refSame_c hx hy _).mono ?_; rintro e w' ⟨n, rfl, rfl⟩)
  go_ret
  exact ⟨_, rfl, rfl⟩
end
theorem alive_c (w : World) : Calls Try.prog 6 #[] w fun e w' => e = .returned (.bool true) ∧ Grown w w' := by
  have c0 : Rep 4607182418800017408 4607182418800017408 := Rep.self (by decide) (by decide +kernel)
  have c1 : Rep 4605754516372524270 4605754516372524270 := Rep.self (by decide) (by decide +kernel)
  have c2 : Rep 4603041830072026764 4603041830072026764 := Rep.self (by decide) (by decide +kernel)
  have c3 : Rep 4636737291354636288 4636737291354636288 := Rep.self (by decide) (by decide +kernel)
  have c4 : Rep 13826108192625282488 13826108192625282488 := Rep.self (by decide) (by decide +kernel)
  have c5 : Rep 4605942297449095136 4605942297449095136 := Rep.self (by decide) (by decide +kernel)
  have c6 : Rep 13835058055282163712 13835058055282163712 := Rep.self (by decide) (by decide +kernel)
  have c7 : Rep 13824775502783531935 13824775502783531935 := Rep.self (by decide) (by decide +kernel)
  have c8 : Rep 9223372036854775808 9223372036854775808 := Rep.self (by decide) (by decide +kernel)
  have c9 : Rep 4697254415642394624 4697254415642394624 := Rep.self (by decide) (by decide +kernel)
  have c10 : Rep 13830554455654793216 13830554455654793216 := Rep.self (by decide) (by decide +kernel)
  have c11 : Rep 0 0 := Rep.self (by decide) (by decide +kernel)
  have c12 : Rep 4614256656552045848 4614256656552045848 := Rep.self (by decide) (by decide +kernel)
  have c13 : Rep 13837628693406821656 13837628693406821656 := Rep.self (by decide) (by decide +kernel)
  have c14 : Rep 4611686018427387904 4611686018427387904 := Rep.self (by decide) (by decide +kernel)
  have c15 : Rep 4602023952714414928 4602023952714414928 := Rep.self (by decide) (by decide +kernel)
  have c16 : Rep 4605249457297304856 4605249457297304856 := Rep.self (by decide) (by decide +kernel)
  have c17 : Rep 4616189618054758400 4616189618054758400 := Rep.self (by decide) (by decide +kernel)
  have c18 : Rep 13835695731904109105 13835695731904109105 := Rep.self (by decide) (by decide +kernel)
  have t1 : feq (turnS 4607182418800017408) 4605754516372524270 = true := by decide +kernel
  have t2 : feq (turnC 4607182418800017408) 4603041830072026764 = true := by decide +kernel
  have t3 : feq (turnS 4636737291354636288) 13826108192625282488 = true := by decide +kernel
  have t4 : feq (turnC 4636737291354636288) 4605942297449095136 = true := by decide +kernel
  have t5 : feq (quarterX 13835058055282163712) 13824775502783531935 = true := by decide +kernel
  have t6 : quarterN 13835058055282163712 = 3 := by decide +kernel
  have t7 : (turnS 9223372036854775808 == 9223372036854775808) = true := by decide +kernel
  have t8 : feq (turnC 9223372036854775808) 4607182418800017408 = true := by decide +kernel
  have t9 : isN (turnS 4697254415642394624) = true := by decide +kernel
  have t10 : isN (turnC 4697254415642394624) = true := by decide +kernel
  have u1 : feq (ofF 0 13830554455654793216) 4614256656552045848 = true := by decide +kernel
  have u2 : feq (ofF 9223372036854775808 13830554455654793216) 13837628693406821656 = true := by decide +kernel
  have u3 : (ofF 0 0 == 0) = true := by decide +kernel
  have u4 : (ofF 9223372036854775808 0 == 9223372036854775808) = true := by decide +kernel
  have u5 : feq (ofF 4607182418800017408 4611686018427387904) 4602023952714414928 = true := by decide +kernel
  have u6 : feq (ofF 4607182418800017408 4607182418800017408) 4605249457297304856 = true := by decide +kernel
  have u7 : feq (wrapF 4616189618054758400) 13835695731904109105 = true := by decide +kernel
  have u8 : feq (wrapF 13837628693406821656) 4614256656552045848 = true := by decide +kernel
  have l1 := Rep.cpiL.gt' c11
  rw [show flt 0 4368955796522032135 = true by decide +kernel] at l1
  have l2 := c12.eq' c12
  rw [show feq 4614256656552045848 4614256656552045848 = true by decide +kernel] at l2
  have hxor : 4614256656552045848 ^^^ 9223372036854775808 = 13837628693406821656 := by decide +kernel
  go_enter Try.func6, Try.ntmps6
  go_wp2_with (first
    | (go_at_call 7; (with_reducible refine (turn_c c0 _).mono ?_); rintro e w' ⟨s1, d1, rfl, hs1, hd1, g1⟩; have e1 := hs1.eq' c1; rw [t1] at e1; have e2 := hd1.eq' c2; rw [t2] at e2)
    | (go_at_call 7; (with_reducible refine (turn_c c3 _).mono ?_); rintro e w' ⟨s2, d2, rfl, hs2, hd2, g2⟩; have e3 := hs2.eq' c4; rw [t3] at e3; have e4 := hd2.eq' c5; rw [t4] at e4)
    | (go_at_call 9; (with_reducible refine (quarter_c c6 _).mono ?_); rintro e w' ⟨s3, rfl, hs3, g3⟩; have e5 := hs3.eq' c7; rw [t5] at e5; rw [t6])
    | (go_at_call 7; (with_reducible refine (turn_c c8 _).mono ?_); rintro e w' ⟨s4, d4, rfl, hs4, hd4, g4⟩; have e8 := hd4.eq' c0; rw [t8] at e8)
    | (go_at_call 7; (with_reducible refine (turn_c c9 _).mono ?_); rintro e w' ⟨s5, d5, rfl, hs5, hd5, g5⟩; have e9 := hs5.none'; rw [t9] at e9; have e10 := hd5.none'; rw [t10] at e10)
    | (go_at_call 11; refine (Pi_c _).mono ?_; rintro e w' ⟨r1, r2, n, rfl, h1, h2, rfl⟩; obtain rfl := h1.eq_of (by decide +kernel); obtain rfl := h2.eq_of (by decide +kernel))
    | (go_at_call 12; (with_reducible refine (is_c hs4 c8 _).mono ?_); rw [t7]; rintro e w' ⟨n, rfl, rfl⟩)
    | (go_at_call 17; (with_reducible refine (of_c c10 c11 _).mono ?_); rintro e w' ⟨v1, n1, rfl, hv1, rfl⟩; have a1 := hv1.eq' c12; rw [u1] at a1)
    | (go_at_call 17; (with_reducible refine (of_c c10 c8 _).mono ?_); rintro e w' ⟨v2, n2, rfl, hv2, rfl⟩; have a2 := hv2.eq' c13; rw [u2] at a2)
    | (go_at_call 17; (with_reducible refine (of_c c11 c11 _).mono ?_); rintro e w' ⟨v3, n3, rfl, hv3, rfl⟩)
    | (go_at_call 17; (with_reducible refine (of_c c11 c8 _).mono ?_); rintro e w' ⟨v4, n4, rfl, hv4, rfl⟩)
    | (go_at_call 17; (with_reducible refine (of_c c14 c0 _).mono ?_); rintro e w' ⟨v5, n5, rfl, hv5, rfl⟩; have a5 := hv5.eq' c15; rw [u5] at a5)
    | (go_at_call 19; (with_reducible refine (tan_c c0 _).mono ?_); rintro e w' ⟨v6, n6, rfl, hv6, rfl⟩; have a6 := hv6.eq' c16; rw [u6] at a6)
    | (go_at_call 13; (with_reducible refine (wrap_c c17 _).mono ?_); rintro e w' ⟨v7, rfl, hv7, g7⟩; have a7 := hv7.eq' c18; rw [u7] at a7)
    | (go_at_call 13; (with_reducible refine (wrap_c c13 _).mono ?_); rintro e w' ⟨v8, rfl, hv8, g8⟩; have a8 := hv8.eq' c12; rw [u8] at a8)
    | (go_at_call 12; (with_reducible refine (is_c hv3 c11 _).mono ?_); rw [u3]; rintro e w' ⟨n, rfl, rfl⟩)
    | (go_at_call 12; (with_reducible refine (is_c hv4 c8 _).mono ?_); rw [u4]; rintro e w' ⟨n, rfl, rfl⟩)
    | (go_at_call 21; refine (copysign_c c11 c10 _ (by decide +kernel) (by decide +kernel)).mono ?_; rintro e w' ⟨r, n, rfl, hr, rfl⟩; rw [show copyF 0 13830554455654793216 = 9223372036854775808 by decide +kernel] at hr; obtain rfl := hr.eq_of (by decide +kernel)))
  go_ret
  exact ⟨rfl, grown_trans g1 (grown_trans g2 (grown_trans g3 (grown_trans (grown_trans (grown_drewN _ _) g4) (grown_trans (grown_trans (grown_drewN _ _) g5) (grown_trans (grown_trans (grown_drewN _ _) g7) g8)))))⟩
end Go.Proofs.Ytncmppmkchbejaa
