/- The angle of a place, by the document: what its steps come to. No condition. -/
import Derived.Test.YtndknkdfbjfjcaaDoorAng7
namespace Go.Proofs.YtndknkdfbjfjcaaDoor
open Go.RowKit
set_option linter.unusedVariables false
set_option linter.unusedSimpArgs false
set_option maxRecDepth 100000
set_option maxHeartbeats 4000000
section
variable {x y z f g h : Nat} (hx : Rep x f) (hy : Rep y g) (w : World)
include hx hy
theorem refOf_c : Calls Tryd.prog 95 #[.float .f64 y, .float .f64 x] w (RetF (ofR g f) w) := by
  have ny := hy.none'
  have nx := hx.none'
  cases hn : isN g
  · cases hm : isN f
    · obtain rfl := hy.eq_of hn
      obtain rfl := hx.eq_of hm
      rw [hn] at ny
      rw [hm] at nx
      have HN : RowKit.Hid (isN y = false) := Lib.hid hn
      have HM : RowKit.Hid (isN x = false) := Lib.hid hm
      have pn : isN (fabs y) = false := by rw [isN_abs]; exact hn
      have qn : isN (fabs x) = false := by rw [isN_abs]; exact hm
      have hp0 : Rep (fabs y) (fabs y) := by rw [fabs_of hn]; exact (by have := hy.abs; rw [fabs_of hn] at this; exact this)
      have hq0 : Rep (fabs x) (fabs x) := by rw [fabs_of hm]; exact (by have := hx.abs; rw [fabs_of hm] at this; exact this)
      have hO : ofR y x = if sgn y then fneg (ofAbs y x) else ofAbs y x := by unfold ofR; rw [hn, hm, if_neg (by simp)]
      have hinf := feq_inf hp0.flt hq0.flt pn qn
      have hA : ofAbs y x = backP (sgn x) (placeP (fabs y) (fabs x)) := rfl
      clear hn hm
      obtain ⟨P, hP⟩ : ∃ P, P = fabs y := ⟨_, rfl⟩
      obtain ⟨Q, hQ⟩ : ∃ Q, Q = fabs x := ⟨_, rfl⟩
      have HP := Lib.hid hP
      have HQ := Lib.hid hQ
      rw [← hP] at pn hp0 hA
      rw [← hQ] at qn hq0 hA
      rw [← hP, ← hQ] at hinf
      clear hP hQ
      have NP := Lib.hid pn
      have NQ := Lib.hid qn
      clear pn qn
      have t0 := hp0.eq' Rep.c0
      have t3 := hp0.le' hq0
      have hL : placeP P Q = if feq P 0 then 0 else if feq P Q && isInf P 1 then fdiv 4614256656552045848 4616189618054758400 else if fle P Q then coreF (fdiv P Q) else fsub (fdiv 4614256656552045848 4611686018427387904) (fsub (coreF (fdiv Q P)) (fdiv 4368955796522032135 4611686018427387904)) := by unfold placeP cH4 cH2 cL2; rfl
      rw [← hinf] at hL
      clear hinf
      have HO := Lib.hid hO
      clear hO
      cases hs : sgn x <;> cases hs2 : sgn y <;> cases i1 : isInf P 1 <;> cases i2 : isInf Q 1
      · cases c0 : feq P 0
        · rw [c0] at t0
          cases c3 : fle P Q
          · rw [c3] at t3
            rw [if_neg (by rw [c0]; simp), if_neg (by rw [i1, i2]; simp), if_neg (by rw [c3]; simp)] at hL
            rw [hL] at hA
            rw [hs] at hA
            have HA := Lib.hid hA
            clear hA hL
            have I1 := Lib.hid i1
            have I2 := Lib.hid i2
            have HS := Lib.hid hs
            have HS2 := Lib.hid hs2
            clear i1 i2 hs hs2 c0
            go_enter Tryd.func95, Tryd.ntmps95
            go_wp2_with (first | (go_at_call 68; refine (abs_c (by with_reducible first | exact hy | exact hx) _).mono ?_; (first | (rintro e w' ⟨r, n, rfl, hr, rfl⟩; rw [← HP.out] at hr; obtain rfl : P = r := (hr.eq_of NP.out).symm) | (rintro e w' ⟨r, n, rfl, hr, rfl⟩; rw [← HQ.out] at hr; obtain rfl : Q = r := (hr.eq_of NQ.out).symm))) | (go_at_call 69; (with_reducible refine (isInf_c hp0 _ _).mono ?_); rw [I1.out]; rintro e w' ⟨n, rfl, rfl⟩) | (go_at_call 69; (with_reducible refine (isInf_c hq0 _ _).mono ?_); rw [I2.out]; rintro e w' ⟨n, rfl, rfl⟩) | (go_at_call 135; refine (refAngle_c (hq0.quo hp0) _).mono ?_; rintro e w' ⟨v, n, rfl, hv, rfl⟩) | (go_at_call 137; (with_reducible refine (signbit_c hx _).mono ?_); rw [HS.out]; rintro e w' ⟨n, rfl, rfl⟩) | (go_at_call 137; (with_reducible refine (signbit_c hy _).mono ?_); rw [HS2.out]; rintro e w' ⟨n, rfl, rfl⟩) | (go_at_call 92; refine (High_c _).mono ?_; rintro e w' ⟨r, n, rfl, hr, rfl⟩; obtain rfl := hr.eq_of (by decide +kernel)) | (go_at_call 136; refine (Low_c _).mono ?_; rintro e w' ⟨r, n, rfl, hr, rfl⟩; obtain rfl := hr.eq_of (by decide +kernel)))
            go_ret
            exact RetF.mk _ (by rw [HO.out, if_neg (by rw [HS2.out]; simp), HA.out]; unfold backP; rw [if_neg (by simp)]; exact ((Rep.cpiH.quo Rep.two).sub (hv.sub (Rep.cpiL.quo Rep.two))))
          · rw [c3] at t3
            rw [if_neg (by rw [c0]; simp), if_neg (by rw [i1, i2]; simp), if_pos c3] at hL
            rw [hL] at hA
            rw [hs] at hA
            have HA := Lib.hid hA
            clear hA hL
            have I1 := Lib.hid i1
            have I2 := Lib.hid i2
            have HS := Lib.hid hs
            have HS2 := Lib.hid hs2
            clear i1 i2 hs hs2 c0
            go_enter Tryd.func95, Tryd.ntmps95
            go_wp2_with (first | (go_at_call 68; refine (abs_c (by with_reducible first | exact hy | exact hx) _).mono ?_; (first | (rintro e w' ⟨r, n, rfl, hr, rfl⟩; rw [← HP.out] at hr; obtain rfl : P = r := (hr.eq_of NP.out).symm) | (rintro e w' ⟨r, n, rfl, hr, rfl⟩; rw [← HQ.out] at hr; obtain rfl : Q = r := (hr.eq_of NQ.out).symm))) | (go_at_call 69; (with_reducible refine (isInf_c hp0 _ _).mono ?_); rw [I1.out]; rintro e w' ⟨n, rfl, rfl⟩) | (go_at_call 69; (with_reducible refine (isInf_c hq0 _ _).mono ?_); rw [I2.out]; rintro e w' ⟨n, rfl, rfl⟩) | (go_at_call 135; refine (refAngle_c (hp0.quo hq0) _).mono ?_; rintro e w' ⟨v, n, rfl, hv, rfl⟩) | (go_at_call 137; (with_reducible refine (signbit_c hx _).mono ?_); rw [HS.out]; rintro e w' ⟨n, rfl, rfl⟩) | (go_at_call 137; (with_reducible refine (signbit_c hy _).mono ?_); rw [HS2.out]; rintro e w' ⟨n, rfl, rfl⟩) | (go_at_call 92; refine (High_c _).mono ?_; rintro e w' ⟨r, n, rfl, hr, rfl⟩; obtain rfl := hr.eq_of (by decide +kernel)) | (go_at_call 136; refine (Low_c _).mono ?_; rintro e w' ⟨r, n, rfl, hr, rfl⟩; obtain rfl := hr.eq_of (by decide +kernel)))
            go_ret
            exact RetF.mk _ (by rw [HO.out, if_neg (by rw [HS2.out]; simp), HA.out]; unfold backP; rw [if_neg (by simp)]; exact (hv))
        · rw [c0] at t0
          rw [if_pos c0] at hL
          rw [hL] at hA
          rw [hs] at hA
          have HA := Lib.hid hA
          clear hA hL
          have I1 := Lib.hid i1
          have I2 := Lib.hid i2
          have HS := Lib.hid hs
          have HS2 := Lib.hid hs2
          clear i1 i2 hs hs2 c0
          go_enter Tryd.func95, Tryd.ntmps95
          go_wp2_with (first | (go_at_call 68; refine (abs_c (by with_reducible first | exact hy | exact hx) _).mono ?_; (first | (rintro e w' ⟨r, n, rfl, hr, rfl⟩; rw [← HP.out] at hr; obtain rfl : P = r := (hr.eq_of NP.out).symm) | (rintro e w' ⟨r, n, rfl, hr, rfl⟩; rw [← HQ.out] at hr; obtain rfl : Q = r := (hr.eq_of NQ.out).symm))) | (go_at_call 69; (with_reducible refine (isInf_c hp0 _ _).mono ?_); rw [I1.out]; rintro e w' ⟨n, rfl, rfl⟩) | (go_at_call 69; (with_reducible refine (isInf_c hq0 _ _).mono ?_); rw [I2.out]; rintro e w' ⟨n, rfl, rfl⟩) | (go_at_call 135; refine (refAngle_c (hp0.quo hq0) _).mono ?_; rintro e w' ⟨v, n, rfl, hv, rfl⟩) | (go_at_call 137; (with_reducible refine (signbit_c hx _).mono ?_); rw [HS.out]; rintro e w' ⟨n, rfl, rfl⟩) | (go_at_call 137; (with_reducible refine (signbit_c hy _).mono ?_); rw [HS2.out]; rintro e w' ⟨n, rfl, rfl⟩) | (go_at_call 92; refine (High_c _).mono ?_; rintro e w' ⟨r, n, rfl, hr, rfl⟩; obtain rfl := hr.eq_of (by decide +kernel)) | (go_at_call 136; refine (Low_c _).mono ?_; rintro e w' ⟨r, n, rfl, hr, rfl⟩; obtain rfl := hr.eq_of (by decide +kernel)))
          go_ret
          exact RetF.mk _ (by rw [HO.out, if_neg (by rw [HS2.out]; simp), HA.out]; unfold backP; rw [if_neg (by simp)]; exact (Rep.c0))
      · cases c0 : feq P 0
        · rw [c0] at t0
          cases c3 : fle P Q
          · rw [c3] at t3
            rw [if_neg (by rw [c0]; simp), if_neg (by rw [i1, i2]; simp), if_neg (by rw [c3]; simp)] at hL
            rw [hL] at hA
            rw [hs] at hA
            have HA := Lib.hid hA
            clear hA hL
            have I1 := Lib.hid i1
            have I2 := Lib.hid i2
            have HS := Lib.hid hs
            have HS2 := Lib.hid hs2
            clear i1 i2 hs hs2 c0
            go_enter Tryd.func95, Tryd.ntmps95
            go_wp2_with (first | (go_at_call 68; refine (abs_c (by with_reducible first | exact hy | exact hx) _).mono ?_; (first | (rintro e w' ⟨r, n, rfl, hr, rfl⟩; rw [← HP.out] at hr; obtain rfl : P = r := (hr.eq_of NP.out).symm) | (rintro e w' ⟨r, n, rfl, hr, rfl⟩; rw [← HQ.out] at hr; obtain rfl : Q = r := (hr.eq_of NQ.out).symm))) | (go_at_call 69; (with_reducible refine (isInf_c hp0 _ _).mono ?_); rw [I1.out]; rintro e w' ⟨n, rfl, rfl⟩) | (go_at_call 69; (with_reducible refine (isInf_c hq0 _ _).mono ?_); rw [I2.out]; rintro e w' ⟨n, rfl, rfl⟩) | (go_at_call 135; refine (refAngle_c (hq0.quo hp0) _).mono ?_; rintro e w' ⟨v, n, rfl, hv, rfl⟩) | (go_at_call 137; (with_reducible refine (signbit_c hx _).mono ?_); rw [HS.out]; rintro e w' ⟨n, rfl, rfl⟩) | (go_at_call 137; (with_reducible refine (signbit_c hy _).mono ?_); rw [HS2.out]; rintro e w' ⟨n, rfl, rfl⟩) | (go_at_call 92; refine (High_c _).mono ?_; rintro e w' ⟨r, n, rfl, hr, rfl⟩; obtain rfl := hr.eq_of (by decide +kernel)) | (go_at_call 136; refine (Low_c _).mono ?_; rintro e w' ⟨r, n, rfl, hr, rfl⟩; obtain rfl := hr.eq_of (by decide +kernel)))
            go_ret
            exact RetF.mk _ (by rw [HO.out, if_neg (by rw [HS2.out]; simp), HA.out]; unfold backP; rw [if_neg (by simp)]; exact ((Rep.cpiH.quo Rep.two).sub (hv.sub (Rep.cpiL.quo Rep.two))))
          · rw [c3] at t3
            rw [if_neg (by rw [c0]; simp), if_neg (by rw [i1, i2]; simp), if_pos c3] at hL
            rw [hL] at hA
            rw [hs] at hA
            have HA := Lib.hid hA
            clear hA hL
            have I1 := Lib.hid i1
            have I2 := Lib.hid i2
            have HS := Lib.hid hs
            have HS2 := Lib.hid hs2
            clear i1 i2 hs hs2 c0
            go_enter Tryd.func95, Tryd.ntmps95
            go_wp2_with (first | (go_at_call 68; refine (abs_c (by with_reducible first | exact hy | exact hx) _).mono ?_; (first | (rintro e w' ⟨r, n, rfl, hr, rfl⟩; rw [← HP.out] at hr; obtain rfl : P = r := (hr.eq_of NP.out).symm) | (rintro e w' ⟨r, n, rfl, hr, rfl⟩; rw [← HQ.out] at hr; obtain rfl : Q = r := (hr.eq_of NQ.out).symm))) | (go_at_call 69; (with_reducible refine (isInf_c hp0 _ _).mono ?_); rw [I1.out]; rintro e w' ⟨n, rfl, rfl⟩) | (go_at_call 69; (with_reducible refine (isInf_c hq0 _ _).mono ?_); rw [I2.out]; rintro e w' ⟨n, rfl, rfl⟩) | (go_at_call 135; refine (refAngle_c (hp0.quo hq0) _).mono ?_; rintro e w' ⟨v, n, rfl, hv, rfl⟩) | (go_at_call 137; (with_reducible refine (signbit_c hx _).mono ?_); rw [HS.out]; rintro e w' ⟨n, rfl, rfl⟩) | (go_at_call 137; (with_reducible refine (signbit_c hy _).mono ?_); rw [HS2.out]; rintro e w' ⟨n, rfl, rfl⟩) | (go_at_call 92; refine (High_c _).mono ?_; rintro e w' ⟨r, n, rfl, hr, rfl⟩; obtain rfl := hr.eq_of (by decide +kernel)) | (go_at_call 136; refine (Low_c _).mono ?_; rintro e w' ⟨r, n, rfl, hr, rfl⟩; obtain rfl := hr.eq_of (by decide +kernel)))
            go_ret
            exact RetF.mk _ (by rw [HO.out, if_neg (by rw [HS2.out]; simp), HA.out]; unfold backP; rw [if_neg (by simp)]; exact (hv))
        · rw [c0] at t0
          rw [if_pos c0] at hL
          rw [hL] at hA
          rw [hs] at hA
          have HA := Lib.hid hA
          clear hA hL
          have I1 := Lib.hid i1
          have I2 := Lib.hid i2
          have HS := Lib.hid hs
          have HS2 := Lib.hid hs2
          clear i1 i2 hs hs2 c0
          go_enter Tryd.func95, Tryd.ntmps95
          go_wp2_with (first | (go_at_call 68; refine (abs_c (by with_reducible first | exact hy | exact hx) _).mono ?_; (first | (rintro e w' ⟨r, n, rfl, hr, rfl⟩; rw [← HP.out] at hr; obtain rfl : P = r := (hr.eq_of NP.out).symm) | (rintro e w' ⟨r, n, rfl, hr, rfl⟩; rw [← HQ.out] at hr; obtain rfl : Q = r := (hr.eq_of NQ.out).symm))) | (go_at_call 69; (with_reducible refine (isInf_c hp0 _ _).mono ?_); rw [I1.out]; rintro e w' ⟨n, rfl, rfl⟩) | (go_at_call 69; (with_reducible refine (isInf_c hq0 _ _).mono ?_); rw [I2.out]; rintro e w' ⟨n, rfl, rfl⟩) | (go_at_call 135; refine (refAngle_c (hp0.quo hq0) _).mono ?_; rintro e w' ⟨v, n, rfl, hv, rfl⟩) | (go_at_call 137; (with_reducible refine (signbit_c hx _).mono ?_); rw [HS.out]; rintro e w' ⟨n, rfl, rfl⟩) | (go_at_call 137; (with_reducible refine (signbit_c hy _).mono ?_); rw [HS2.out]; rintro e w' ⟨n, rfl, rfl⟩) | (go_at_call 92; refine (High_c _).mono ?_; rintro e w' ⟨r, n, rfl, hr, rfl⟩; obtain rfl := hr.eq_of (by decide +kernel)) | (go_at_call 136; refine (Low_c _).mono ?_; rintro e w' ⟨r, n, rfl, hr, rfl⟩; obtain rfl := hr.eq_of (by decide +kernel)))
          go_ret
          exact RetF.mk _ (by rw [HO.out, if_neg (by rw [HS2.out]; simp), HA.out]; unfold backP; rw [if_neg (by simp)]; exact (Rep.c0))
      · cases c0 : feq P 0
        · rw [c0] at t0
          cases c3 : fle P Q
          · rw [c3] at t3
            rw [if_neg (by rw [c0]; simp), if_neg (by rw [i1, i2]; simp), if_neg (by rw [c3]; simp)] at hL
            rw [hL] at hA
            rw [hs] at hA
            have HA := Lib.hid hA
            clear hA hL
            have I1 := Lib.hid i1
            have I2 := Lib.hid i2
            have HS := Lib.hid hs
            have HS2 := Lib.hid hs2
            clear i1 i2 hs hs2 c0
            go_enter Tryd.func95, Tryd.ntmps95
            go_wp2_with (first | (go_at_call 68; refine (abs_c (by with_reducible first | exact hy | exact hx) _).mono ?_; (first | (rintro e w' ⟨r, n, rfl, hr, rfl⟩; rw [← HP.out] at hr; obtain rfl : P = r := (hr.eq_of NP.out).symm) | (rintro e w' ⟨r, n, rfl, hr, rfl⟩; rw [← HQ.out] at hr; obtain rfl : Q = r := (hr.eq_of NQ.out).symm))) | (go_at_call 69; (with_reducible refine (isInf_c hp0 _ _).mono ?_); rw [I1.out]; rintro e w' ⟨n, rfl, rfl⟩) | (go_at_call 69; (with_reducible refine (isInf_c hq0 _ _).mono ?_); rw [I2.out]; rintro e w' ⟨n, rfl, rfl⟩) | (go_at_call 135; refine (refAngle_c (hq0.quo hp0) _).mono ?_; rintro e w' ⟨v, n, rfl, hv, rfl⟩) | (go_at_call 137; (with_reducible refine (signbit_c hx _).mono ?_); rw [HS.out]; rintro e w' ⟨n, rfl, rfl⟩) | (go_at_call 137; (with_reducible refine (signbit_c hy _).mono ?_); rw [HS2.out]; rintro e w' ⟨n, rfl, rfl⟩) | (go_at_call 92; refine (High_c _).mono ?_; rintro e w' ⟨r, n, rfl, hr, rfl⟩; obtain rfl := hr.eq_of (by decide +kernel)) | (go_at_call 136; refine (Low_c _).mono ?_; rintro e w' ⟨r, n, rfl, hr, rfl⟩; obtain rfl := hr.eq_of (by decide +kernel)))
            go_ret
            exact RetF.mk _ (by rw [HO.out, if_neg (by rw [HS2.out]; simp), HA.out]; unfold backP; rw [if_neg (by simp)]; exact ((Rep.cpiH.quo Rep.two).sub (hv.sub (Rep.cpiL.quo Rep.two))))
          · rw [c3] at t3
            rw [if_neg (by rw [c0]; simp), if_neg (by rw [i1, i2]; simp), if_pos c3] at hL
            rw [hL] at hA
            rw [hs] at hA
            have HA := Lib.hid hA
            clear hA hL
            have I1 := Lib.hid i1
            have I2 := Lib.hid i2
            have HS := Lib.hid hs
            have HS2 := Lib.hid hs2
            clear i1 i2 hs hs2 c0
            go_enter Tryd.func95, Tryd.ntmps95
            go_wp2_with (first | (go_at_call 68; refine (abs_c (by with_reducible first | exact hy | exact hx) _).mono ?_; (first | (rintro e w' ⟨r, n, rfl, hr, rfl⟩; rw [← HP.out] at hr; obtain rfl : P = r := (hr.eq_of NP.out).symm) | (rintro e w' ⟨r, n, rfl, hr, rfl⟩; rw [← HQ.out] at hr; obtain rfl : Q = r := (hr.eq_of NQ.out).symm))) | (go_at_call 69; (with_reducible refine (isInf_c hp0 _ _).mono ?_); rw [I1.out]; rintro e w' ⟨n, rfl, rfl⟩) | (go_at_call 69; (with_reducible refine (isInf_c hq0 _ _).mono ?_); rw [I2.out]; rintro e w' ⟨n, rfl, rfl⟩) | (go_at_call 135; refine (refAngle_c (hp0.quo hq0) _).mono ?_; rintro e w' ⟨v, n, rfl, hv, rfl⟩) | (go_at_call 137; (with_reducible refine (signbit_c hx _).mono ?_); rw [HS.out]; rintro e w' ⟨n, rfl, rfl⟩) | (go_at_call 137; (with_reducible refine (signbit_c hy _).mono ?_); rw [HS2.out]; rintro e w' ⟨n, rfl, rfl⟩) | (go_at_call 92; refine (High_c _).mono ?_; rintro e w' ⟨r, n, rfl, hr, rfl⟩; obtain rfl := hr.eq_of (by decide +kernel)) | (go_at_call 136; refine (Low_c _).mono ?_; rintro e w' ⟨r, n, rfl, hr, rfl⟩; obtain rfl := hr.eq_of (by decide +kernel)))
            go_ret
            exact RetF.mk _ (by rw [HO.out, if_neg (by rw [HS2.out]; simp), HA.out]; unfold backP; rw [if_neg (by simp)]; exact (hv))
        · rw [c0] at t0
          rw [if_pos c0] at hL
          rw [hL] at hA
          rw [hs] at hA
          have HA := Lib.hid hA
          clear hA hL
          have I1 := Lib.hid i1
          have I2 := Lib.hid i2
          have HS := Lib.hid hs
          have HS2 := Lib.hid hs2
          clear i1 i2 hs hs2 c0
          go_enter Tryd.func95, Tryd.ntmps95
          go_wp2_with (first | (go_at_call 68; refine (abs_c (by with_reducible first | exact hy | exact hx) _).mono ?_; (first | (rintro e w' ⟨r, n, rfl, hr, rfl⟩; rw [← HP.out] at hr; obtain rfl : P = r := (hr.eq_of NP.out).symm) | (rintro e w' ⟨r, n, rfl, hr, rfl⟩; rw [← HQ.out] at hr; obtain rfl : Q = r := (hr.eq_of NQ.out).symm))) | (go_at_call 69; (with_reducible refine (isInf_c hp0 _ _).mono ?_); rw [I1.out]; rintro e w' ⟨n, rfl, rfl⟩) | (go_at_call 69; (with_reducible refine (isInf_c hq0 _ _).mono ?_); rw [I2.out]; rintro e w' ⟨n, rfl, rfl⟩) | (go_at_call 135; refine (refAngle_c (hp0.quo hq0) _).mono ?_; rintro e w' ⟨v, n, rfl, hv, rfl⟩) | (go_at_call 137; (with_reducible refine (signbit_c hx _).mono ?_); rw [HS.out]; rintro e w' ⟨n, rfl, rfl⟩) | (go_at_call 137; (with_reducible refine (signbit_c hy _).mono ?_); rw [HS2.out]; rintro e w' ⟨n, rfl, rfl⟩) | (go_at_call 92; refine (High_c _).mono ?_; rintro e w' ⟨r, n, rfl, hr, rfl⟩; obtain rfl := hr.eq_of (by decide +kernel)) | (go_at_call 136; refine (Low_c _).mono ?_; rintro e w' ⟨r, n, rfl, hr, rfl⟩; obtain rfl := hr.eq_of (by decide +kernel)))
          go_ret
          exact RetF.mk _ (by rw [HO.out, if_neg (by rw [HS2.out]; simp), HA.out]; unfold backP; rw [if_neg (by simp)]; exact (Rep.c0))
      · cases c0 : feq P 0
        · rw [c0] at t0
          rw [if_neg (by rw [c0]; simp), if_pos (by rw [i1, i2]; rfl)] at hL
          rw [hL] at hA
          rw [hs] at hA
          have HA := Lib.hid hA
          clear hA hL
          have I1 := Lib.hid i1
          have I2 := Lib.hid i2
          have HS := Lib.hid hs
          have HS2 := Lib.hid hs2
          clear i1 i2 hs hs2 c0
          go_enter Tryd.func95, Tryd.ntmps95
          go_wp2_with (first | (go_at_call 68; refine (abs_c (by with_reducible first | exact hy | exact hx) _).mono ?_; (first | (rintro e w' ⟨r, n, rfl, hr, rfl⟩; rw [← HP.out] at hr; obtain rfl : P = r := (hr.eq_of NP.out).symm) | (rintro e w' ⟨r, n, rfl, hr, rfl⟩; rw [← HQ.out] at hr; obtain rfl : Q = r := (hr.eq_of NQ.out).symm))) | (go_at_call 69; (with_reducible refine (isInf_c hp0 _ _).mono ?_); rw [I1.out]; rintro e w' ⟨n, rfl, rfl⟩) | (go_at_call 69; (with_reducible refine (isInf_c hq0 _ _).mono ?_); rw [I2.out]; rintro e w' ⟨n, rfl, rfl⟩) | (go_at_call 135; refine (refAngle_c (hp0.quo hq0) _).mono ?_; rintro e w' ⟨v, n, rfl, hv, rfl⟩) | (go_at_call 137; (with_reducible refine (signbit_c hx _).mono ?_); rw [HS.out]; rintro e w' ⟨n, rfl, rfl⟩) | (go_at_call 137; (with_reducible refine (signbit_c hy _).mono ?_); rw [HS2.out]; rintro e w' ⟨n, rfl, rfl⟩) | (go_at_call 92; refine (High_c _).mono ?_; rintro e w' ⟨r, n, rfl, hr, rfl⟩; obtain rfl := hr.eq_of (by decide +kernel)) | (go_at_call 136; refine (Low_c _).mono ?_; rintro e w' ⟨r, n, rfl, hr, rfl⟩; obtain rfl := hr.eq_of (by decide +kernel)))
          go_ret
          exact RetF.mk _ (by rw [HO.out, if_neg (by rw [HS2.out]; simp), HA.out]; unfold backP; rw [if_neg (by simp)]; exact (Rep.cpiH.quo Rep.c4))
        · rw [c0] at t0
          rw [if_pos c0] at hL
          rw [hL] at hA
          rw [hs] at hA
          have HA := Lib.hid hA
          clear hA hL
          have I1 := Lib.hid i1
          have I2 := Lib.hid i2
          have HS := Lib.hid hs
          have HS2 := Lib.hid hs2
          clear i1 i2 hs hs2 c0
          go_enter Tryd.func95, Tryd.ntmps95
          go_wp2_with (first | (go_at_call 68; refine (abs_c (by with_reducible first | exact hy | exact hx) _).mono ?_; (first | (rintro e w' ⟨r, n, rfl, hr, rfl⟩; rw [← HP.out] at hr; obtain rfl : P = r := (hr.eq_of NP.out).symm) | (rintro e w' ⟨r, n, rfl, hr, rfl⟩; rw [← HQ.out] at hr; obtain rfl : Q = r := (hr.eq_of NQ.out).symm))) | (go_at_call 69; (with_reducible refine (isInf_c hp0 _ _).mono ?_); rw [I1.out]; rintro e w' ⟨n, rfl, rfl⟩) | (go_at_call 69; (with_reducible refine (isInf_c hq0 _ _).mono ?_); rw [I2.out]; rintro e w' ⟨n, rfl, rfl⟩) | (go_at_call 135; refine (refAngle_c (hp0.quo hq0) _).mono ?_; rintro e w' ⟨v, n, rfl, hv, rfl⟩) | (go_at_call 137; (with_reducible refine (signbit_c hx _).mono ?_); rw [HS.out]; rintro e w' ⟨n, rfl, rfl⟩) | (go_at_call 137; (with_reducible refine (signbit_c hy _).mono ?_); rw [HS2.out]; rintro e w' ⟨n, rfl, rfl⟩) | (go_at_call 92; refine (High_c _).mono ?_; rintro e w' ⟨r, n, rfl, hr, rfl⟩; obtain rfl := hr.eq_of (by decide +kernel)) | (go_at_call 136; refine (Low_c _).mono ?_; rintro e w' ⟨r, n, rfl, hr, rfl⟩; obtain rfl := hr.eq_of (by decide +kernel)))
          go_ret
          exact RetF.mk _ (by rw [HO.out, if_neg (by rw [HS2.out]; simp), HA.out]; unfold backP; rw [if_neg (by simp)]; exact (Rep.c0))
      · cases c0 : feq P 0
        · rw [c0] at t0
          cases c3 : fle P Q
          · rw [c3] at t3
            rw [if_neg (by rw [c0]; simp), if_neg (by rw [i1, i2]; simp), if_neg (by rw [c3]; simp)] at hL
            rw [hL] at hA
            rw [hs] at hA
            have HA := Lib.hid hA
            clear hA hL
            have I1 := Lib.hid i1
            have I2 := Lib.hid i2
            have HS := Lib.hid hs
            have HS2 := Lib.hid hs2
            clear i1 i2 hs hs2 c0
            go_enter Tryd.func95, Tryd.ntmps95
            go_wp2_with (first | (go_at_call 68; refine (abs_c (by with_reducible first | exact hy | exact hx) _).mono ?_; (first | (rintro e w' ⟨r, n, rfl, hr, rfl⟩; rw [← HP.out] at hr; obtain rfl : P = r := (hr.eq_of NP.out).symm) | (rintro e w' ⟨r, n, rfl, hr, rfl⟩; rw [← HQ.out] at hr; obtain rfl : Q = r := (hr.eq_of NQ.out).symm))) | (go_at_call 69; (with_reducible refine (isInf_c hp0 _ _).mono ?_); rw [I1.out]; rintro e w' ⟨n, rfl, rfl⟩) | (go_at_call 69; (with_reducible refine (isInf_c hq0 _ _).mono ?_); rw [I2.out]; rintro e w' ⟨n, rfl, rfl⟩) | (go_at_call 135; refine (refAngle_c (hq0.quo hp0) _).mono ?_; rintro e w' ⟨v, n, rfl, hv, rfl⟩) | (go_at_call 137; (with_reducible refine (signbit_c hx _).mono ?_); rw [HS.out]; rintro e w' ⟨n, rfl, rfl⟩) | (go_at_call 137; (with_reducible refine (signbit_c hy _).mono ?_); rw [HS2.out]; rintro e w' ⟨n, rfl, rfl⟩) | (go_at_call 92; refine (High_c _).mono ?_; rintro e w' ⟨r, n, rfl, hr, rfl⟩; obtain rfl := hr.eq_of (by decide +kernel)) | (go_at_call 136; refine (Low_c _).mono ?_; rintro e w' ⟨r, n, rfl, hr, rfl⟩; obtain rfl := hr.eq_of (by decide +kernel)))
            go_ret
            exact RetF.mk _ (by rw [HO.out, if_pos HS2.out, HA.out]; unfold backP; rw [if_neg (by simp)]; exact ((Rep.cpiH.quo Rep.two).sub (hv.sub (Rep.cpiL.quo Rep.two))).neg)
          · rw [c3] at t3
            rw [if_neg (by rw [c0]; simp), if_neg (by rw [i1, i2]; simp), if_pos c3] at hL
            rw [hL] at hA
            rw [hs] at hA
            have HA := Lib.hid hA
            clear hA hL
            have I1 := Lib.hid i1
            have I2 := Lib.hid i2
            have HS := Lib.hid hs
            have HS2 := Lib.hid hs2
            clear i1 i2 hs hs2 c0
            go_enter Tryd.func95, Tryd.ntmps95
            go_wp2_with (first | (go_at_call 68; refine (abs_c (by with_reducible first | exact hy | exact hx) _).mono ?_; (first | (rintro e w' ⟨r, n, rfl, hr, rfl⟩; rw [← HP.out] at hr; obtain rfl : P = r := (hr.eq_of NP.out).symm) | (rintro e w' ⟨r, n, rfl, hr, rfl⟩; rw [← HQ.out] at hr; obtain rfl : Q = r := (hr.eq_of NQ.out).symm))) | (go_at_call 69; (with_reducible refine (isInf_c hp0 _ _).mono ?_); rw [I1.out]; rintro e w' ⟨n, rfl, rfl⟩) | (go_at_call 69; (with_reducible refine (isInf_c hq0 _ _).mono ?_); rw [I2.out]; rintro e w' ⟨n, rfl, rfl⟩) | (go_at_call 135; refine (refAngle_c (hp0.quo hq0) _).mono ?_; rintro e w' ⟨v, n, rfl, hv, rfl⟩) | (go_at_call 137; (with_reducible refine (signbit_c hx _).mono ?_); rw [HS.out]; rintro e w' ⟨n, rfl, rfl⟩) | (go_at_call 137; (with_reducible refine (signbit_c hy _).mono ?_); rw [HS2.out]; rintro e w' ⟨n, rfl, rfl⟩) | (go_at_call 92; refine (High_c _).mono ?_; rintro e w' ⟨r, n, rfl, hr, rfl⟩; obtain rfl := hr.eq_of (by decide +kernel)) | (go_at_call 136; refine (Low_c _).mono ?_; rintro e w' ⟨r, n, rfl, hr, rfl⟩; obtain rfl := hr.eq_of (by decide +kernel)))
            go_ret
            exact RetF.mk _ (by rw [HO.out, if_pos HS2.out, HA.out]; unfold backP; rw [if_neg (by simp)]; exact (hv).neg)
        · rw [c0] at t0
          rw [if_pos c0] at hL
          rw [hL] at hA
          rw [hs] at hA
          have HA := Lib.hid hA
          clear hA hL
          have I1 := Lib.hid i1
          have I2 := Lib.hid i2
          have HS := Lib.hid hs
          have HS2 := Lib.hid hs2
          clear i1 i2 hs hs2 c0
          go_enter Tryd.func95, Tryd.ntmps95
          go_wp2_with (first | (go_at_call 68; refine (abs_c (by with_reducible first | exact hy | exact hx) _).mono ?_; (first | (rintro e w' ⟨r, n, rfl, hr, rfl⟩; rw [← HP.out] at hr; obtain rfl : P = r := (hr.eq_of NP.out).symm) | (rintro e w' ⟨r, n, rfl, hr, rfl⟩; rw [← HQ.out] at hr; obtain rfl : Q = r := (hr.eq_of NQ.out).symm))) | (go_at_call 69; (with_reducible refine (isInf_c hp0 _ _).mono ?_); rw [I1.out]; rintro e w' ⟨n, rfl, rfl⟩) | (go_at_call 69; (with_reducible refine (isInf_c hq0 _ _).mono ?_); rw [I2.out]; rintro e w' ⟨n, rfl, rfl⟩) | (go_at_call 135; refine (refAngle_c (hp0.quo hq0) _).mono ?_; rintro e w' ⟨v, n, rfl, hv, rfl⟩) | (go_at_call 137; (with_reducible refine (signbit_c hx _).mono ?_); rw [HS.out]; rintro e w' ⟨n, rfl, rfl⟩) | (go_at_call 137; (with_reducible refine (signbit_c hy _).mono ?_); rw [HS2.out]; rintro e w' ⟨n, rfl, rfl⟩) | (go_at_call 92; refine (High_c _).mono ?_; rintro e w' ⟨r, n, rfl, hr, rfl⟩; obtain rfl := hr.eq_of (by decide +kernel)) | (go_at_call 136; refine (Low_c _).mono ?_; rintro e w' ⟨r, n, rfl, hr, rfl⟩; obtain rfl := hr.eq_of (by decide +kernel)))
          go_ret
          exact RetF.mk _ (by rw [HO.out, if_pos HS2.out, HA.out]; unfold backP; rw [if_neg (by simp)]; exact (Rep.c0).neg)
      · cases c0 : feq P 0
        · rw [c0] at t0
          cases c3 : fle P Q
          · rw [c3] at t3
            rw [if_neg (by rw [c0]; simp), if_neg (by rw [i1, i2]; simp), if_neg (by rw [c3]; simp)] at hL
            rw [hL] at hA
            rw [hs] at hA
            have HA := Lib.hid hA
            clear hA hL
            have I1 := Lib.hid i1
            have I2 := Lib.hid i2
            have HS := Lib.hid hs
            have HS2 := Lib.hid hs2
            clear i1 i2 hs hs2 c0
            go_enter Tryd.func95, Tryd.ntmps95
            go_wp2_with (first | (go_at_call 68; refine (abs_c (by with_reducible first | exact hy | exact hx) _).mono ?_; (first | (rintro e w' ⟨r, n, rfl, hr, rfl⟩; rw [← HP.out] at hr; obtain rfl : P = r := (hr.eq_of NP.out).symm) | (rintro e w' ⟨r, n, rfl, hr, rfl⟩; rw [← HQ.out] at hr; obtain rfl : Q = r := (hr.eq_of NQ.out).symm))) | (go_at_call 69; (with_reducible refine (isInf_c hp0 _ _).mono ?_); rw [I1.out]; rintro e w' ⟨n, rfl, rfl⟩) | (go_at_call 69; (with_reducible refine (isInf_c hq0 _ _).mono ?_); rw [I2.out]; rintro e w' ⟨n, rfl, rfl⟩) | (go_at_call 135; refine (refAngle_c (hq0.quo hp0) _).mono ?_; rintro e w' ⟨v, n, rfl, hv, rfl⟩) | (go_at_call 137; (with_reducible refine (signbit_c hx _).mono ?_); rw [HS.out]; rintro e w' ⟨n, rfl, rfl⟩) | (go_at_call 137; (with_reducible refine (signbit_c hy _).mono ?_); rw [HS2.out]; rintro e w' ⟨n, rfl, rfl⟩) | (go_at_call 92; refine (High_c _).mono ?_; rintro e w' ⟨r, n, rfl, hr, rfl⟩; obtain rfl := hr.eq_of (by decide +kernel)) | (go_at_call 136; refine (Low_c _).mono ?_; rintro e w' ⟨r, n, rfl, hr, rfl⟩; obtain rfl := hr.eq_of (by decide +kernel)))
            go_ret
            exact RetF.mk _ (by rw [HO.out, if_pos HS2.out, HA.out]; unfold backP; rw [if_neg (by simp)]; exact ((Rep.cpiH.quo Rep.two).sub (hv.sub (Rep.cpiL.quo Rep.two))).neg)
          · rw [c3] at t3
            rw [if_neg (by rw [c0]; simp), if_neg (by rw [i1, i2]; simp), if_pos c3] at hL
            rw [hL] at hA
            rw [hs] at hA
            have HA := Lib.hid hA
            clear hA hL
            have I1 := Lib.hid i1
            have I2 := Lib.hid i2
            have HS := Lib.hid hs
            have HS2 := Lib.hid hs2
            clear i1 i2 hs hs2 c0
            go_enter Tryd.func95, Tryd.ntmps95
            go_wp2_with (first | (go_at_call 68; refine (abs_c (by with_reducible first | exact hy | exact hx) _).mono ?_; (first | (rintro e w' ⟨r, n, rfl, hr, rfl⟩; rw [← HP.out] at hr; obtain rfl : P = r := (hr.eq_of NP.out).symm) | (rintro e w' ⟨r, n, rfl, hr, rfl⟩; rw [← HQ.out] at hr; obtain rfl : Q = r := (hr.eq_of NQ.out).symm))) | (go_at_call 69; (with_reducible refine (isInf_c hp0 _ _).mono ?_); rw [I1.out]; rintro e w' ⟨n, rfl, rfl⟩) | (go_at_call 69; (with_reducible refine (isInf_c hq0 _ _).mono ?_); rw [I2.out]; rintro e w' ⟨n, rfl, rfl⟩) | (go_at_call 135; refine (refAngle_c (hp0.quo hq0) _).mono ?_; rintro e w' ⟨v, n, rfl, hv, rfl⟩) | (go_at_call 137; (with_reducible refine (signbit_c hx _).mono ?_); rw [HS.out]; rintro e w' ⟨n, rfl, rfl⟩) | (go_at_call 137; (with_reducible refine (signbit_c hy _).mono ?_); rw [HS2.out]; rintro e w' ⟨n, rfl, rfl⟩) | (go_at_call 92; refine (High_c _).mono ?_; rintro e w' ⟨r, n, rfl, hr, rfl⟩; obtain rfl := hr.eq_of (by decide +kernel)) | (go_at_call 136; refine (Low_c _).mono ?_; rintro e w' ⟨r, n, rfl, hr, rfl⟩; obtain rfl := hr.eq_of (by decide +kernel)))
            go_ret
            exact RetF.mk _ (by rw [HO.out, if_pos HS2.out, HA.out]; unfold backP; rw [if_neg (by simp)]; exact (hv).neg)
        · rw [c0] at t0
          rw [if_pos c0] at hL
          rw [hL] at hA
          rw [hs] at hA
          have HA := Lib.hid hA
          clear hA hL
          have I1 := Lib.hid i1
          have I2 := Lib.hid i2
          have HS := Lib.hid hs
          have HS2 := Lib.hid hs2
          clear i1 i2 hs hs2 c0
          go_enter Tryd.func95, Tryd.ntmps95
          go_wp2_with (first | (go_at_call 68; refine (abs_c (by with_reducible first | exact hy | exact hx) _).mono ?_; (first | (rintro e w' ⟨r, n, rfl, hr, rfl⟩; rw [← HP.out] at hr; obtain rfl : P = r := (hr.eq_of NP.out).symm) | (rintro e w' ⟨r, n, rfl, hr, rfl⟩; rw [← HQ.out] at hr; obtain rfl : Q = r := (hr.eq_of NQ.out).symm))) | (go_at_call 69; (with_reducible refine (isInf_c hp0 _ _).mono ?_); rw [I1.out]; rintro e w' ⟨n, rfl, rfl⟩) | (go_at_call 69; (with_reducible refine (isInf_c hq0 _ _).mono ?_); rw [I2.out]; rintro e w' ⟨n, rfl, rfl⟩) | (go_at_call 135; refine (refAngle_c (hp0.quo hq0) _).mono ?_; rintro e w' ⟨v, n, rfl, hv, rfl⟩) | (go_at_call 137; (with_reducible refine (signbit_c hx _).mono ?_); rw [HS.out]; rintro e w' ⟨n, rfl, rfl⟩) | (go_at_call 137; (with_reducible refine (signbit_c hy _).mono ?_); rw [HS2.out]; rintro e w' ⟨n, rfl, rfl⟩) | (go_at_call 92; refine (High_c _).mono ?_; rintro e w' ⟨r, n, rfl, hr, rfl⟩; obtain rfl := hr.eq_of (by decide +kernel)) | (go_at_call 136; refine (Low_c _).mono ?_; rintro e w' ⟨r, n, rfl, hr, rfl⟩; obtain rfl := hr.eq_of (by decide +kernel)))
          go_ret
          exact RetF.mk _ (by rw [HO.out, if_pos HS2.out, HA.out]; unfold backP; rw [if_neg (by simp)]; exact (Rep.c0).neg)
      · cases c0 : feq P 0
        · rw [c0] at t0
          cases c3 : fle P Q
          · rw [c3] at t3
            rw [if_neg (by rw [c0]; simp), if_neg (by rw [i1, i2]; simp), if_neg (by rw [c3]; simp)] at hL
            rw [hL] at hA
            rw [hs] at hA
            have HA := Lib.hid hA
            clear hA hL
            have I1 := Lib.hid i1
            have I2 := Lib.hid i2
            have HS := Lib.hid hs
            have HS2 := Lib.hid hs2
            clear i1 i2 hs hs2 c0
            go_enter Tryd.func95, Tryd.ntmps95
            go_wp2_with (first | (go_at_call 68; refine (abs_c (by with_reducible first | exact hy | exact hx) _).mono ?_; (first | (rintro e w' ⟨r, n, rfl, hr, rfl⟩; rw [← HP.out] at hr; obtain rfl : P = r := (hr.eq_of NP.out).symm) | (rintro e w' ⟨r, n, rfl, hr, rfl⟩; rw [← HQ.out] at hr; obtain rfl : Q = r := (hr.eq_of NQ.out).symm))) | (go_at_call 69; (with_reducible refine (isInf_c hp0 _ _).mono ?_); rw [I1.out]; rintro e w' ⟨n, rfl, rfl⟩) | (go_at_call 69; (with_reducible refine (isInf_c hq0 _ _).mono ?_); rw [I2.out]; rintro e w' ⟨n, rfl, rfl⟩) | (go_at_call 135; refine (refAngle_c (hq0.quo hp0) _).mono ?_; rintro e w' ⟨v, n, rfl, hv, rfl⟩) | (go_at_call 137; (with_reducible refine (signbit_c hx _).mono ?_); rw [HS.out]; rintro e w' ⟨n, rfl, rfl⟩) | (go_at_call 137; (with_reducible refine (signbit_c hy _).mono ?_); rw [HS2.out]; rintro e w' ⟨n, rfl, rfl⟩) | (go_at_call 92; refine (High_c _).mono ?_; rintro e w' ⟨r, n, rfl, hr, rfl⟩; obtain rfl := hr.eq_of (by decide +kernel)) | (go_at_call 136; refine (Low_c _).mono ?_; rintro e w' ⟨r, n, rfl, hr, rfl⟩; obtain rfl := hr.eq_of (by decide +kernel)))
            go_ret
            exact RetF.mk _ (by rw [HO.out, if_pos HS2.out, HA.out]; unfold backP; rw [if_neg (by simp)]; exact ((Rep.cpiH.quo Rep.two).sub (hv.sub (Rep.cpiL.quo Rep.two))).neg)
          · rw [c3] at t3
            rw [if_neg (by rw [c0]; simp), if_neg (by rw [i1, i2]; simp), if_pos c3] at hL
            rw [hL] at hA
            rw [hs] at hA
            have HA := Lib.hid hA
            clear hA hL
            have I1 := Lib.hid i1
            have I2 := Lib.hid i2
            have HS := Lib.hid hs
            have HS2 := Lib.hid hs2
            clear i1 i2 hs hs2 c0
            go_enter Tryd.func95, Tryd.ntmps95
            go_wp2_with (first | (go_at_call 68; refine (abs_c (by with_reducible first | exact hy | exact hx) _).mono ?_; (first | (rintro e w' ⟨r, n, rfl, hr, rfl⟩; rw [← HP.out] at hr; obtain rfl : P = r := (hr.eq_of NP.out).symm) | (rintro e w' ⟨r, n, rfl, hr, rfl⟩; rw [← HQ.out] at hr; obtain rfl : Q = r := (hr.eq_of NQ.out).symm))) | (go_at_call 69; (with_reducible refine (isInf_c hp0 _ _).mono ?_); rw [I1.out]; rintro e w' ⟨n, rfl, rfl⟩) | (go_at_call 69; (with_reducible refine (isInf_c hq0 _ _).mono ?_); rw [I2.out]; rintro e w' ⟨n, rfl, rfl⟩) | (go_at_call 135; refine (refAngle_c (hp0.quo hq0) _).mono ?_; rintro e w' ⟨v, n, rfl, hv, rfl⟩) | (go_at_call 137; (with_reducible refine (signbit_c hx _).mono ?_); rw [HS.out]; rintro e w' ⟨n, rfl, rfl⟩) | (go_at_call 137; (with_reducible refine (signbit_c hy _).mono ?_); rw [HS2.out]; rintro e w' ⟨n, rfl, rfl⟩) | (go_at_call 92; refine (High_c _).mono ?_; rintro e w' ⟨r, n, rfl, hr, rfl⟩; obtain rfl := hr.eq_of (by decide +kernel)) | (go_at_call 136; refine (Low_c _).mono ?_; rintro e w' ⟨r, n, rfl, hr, rfl⟩; obtain rfl := hr.eq_of (by decide +kernel)))
            go_ret
            exact RetF.mk _ (by rw [HO.out, if_pos HS2.out, HA.out]; unfold backP; rw [if_neg (by simp)]; exact (hv).neg)
        · rw [c0] at t0
          rw [if_pos c0] at hL
          rw [hL] at hA
          rw [hs] at hA
          have HA := Lib.hid hA
          clear hA hL
          have I1 := Lib.hid i1
          have I2 := Lib.hid i2
          have HS := Lib.hid hs
          have HS2 := Lib.hid hs2
          clear i1 i2 hs hs2 c0
          go_enter Tryd.func95, Tryd.ntmps95
          go_wp2_with (first | (go_at_call 68; refine (abs_c (by with_reducible first | exact hy | exact hx) _).mono ?_; (first | (rintro e w' ⟨r, n, rfl, hr, rfl⟩; rw [← HP.out] at hr; obtain rfl : P = r := (hr.eq_of NP.out).symm) | (rintro e w' ⟨r, n, rfl, hr, rfl⟩; rw [← HQ.out] at hr; obtain rfl : Q = r := (hr.eq_of NQ.out).symm))) | (go_at_call 69; (with_reducible refine (isInf_c hp0 _ _).mono ?_); rw [I1.out]; rintro e w' ⟨n, rfl, rfl⟩) | (go_at_call 69; (with_reducible refine (isInf_c hq0 _ _).mono ?_); rw [I2.out]; rintro e w' ⟨n, rfl, rfl⟩) | (go_at_call 135; refine (refAngle_c (hp0.quo hq0) _).mono ?_; rintro e w' ⟨v, n, rfl, hv, rfl⟩) | (go_at_call 137; (with_reducible refine (signbit_c hx _).mono ?_); rw [HS.out]; rintro e w' ⟨n, rfl, rfl⟩) | (go_at_call 137; (with_reducible refine (signbit_c hy _).mono ?_); rw [HS2.out]; rintro e w' ⟨n, rfl, rfl⟩) | (go_at_call 92; refine (High_c _).mono ?_; rintro e w' ⟨r, n, rfl, hr, rfl⟩; obtain rfl := hr.eq_of (by decide +kernel)) | (go_at_call 136; refine (Low_c _).mono ?_; rintro e w' ⟨r, n, rfl, hr, rfl⟩; obtain rfl := hr.eq_of (by decide +kernel)))
          go_ret
          exact RetF.mk _ (by rw [HO.out, if_pos HS2.out, HA.out]; unfold backP; rw [if_neg (by simp)]; exact (Rep.c0).neg)
      · cases c0 : feq P 0
        · rw [c0] at t0
          rw [if_neg (by rw [c0]; simp), if_pos (by rw [i1, i2]; rfl)] at hL
          rw [hL] at hA
          rw [hs] at hA
          have HA := Lib.hid hA
          clear hA hL
          have I1 := Lib.hid i1
          have I2 := Lib.hid i2
          have HS := Lib.hid hs
          have HS2 := Lib.hid hs2
          clear i1 i2 hs hs2 c0
          go_enter Tryd.func95, Tryd.ntmps95
          go_wp2_with (first | (go_at_call 68; refine (abs_c (by with_reducible first | exact hy | exact hx) _).mono ?_; (first | (rintro e w' ⟨r, n, rfl, hr, rfl⟩; rw [← HP.out] at hr; obtain rfl : P = r := (hr.eq_of NP.out).symm) | (rintro e w' ⟨r, n, rfl, hr, rfl⟩; rw [← HQ.out] at hr; obtain rfl : Q = r := (hr.eq_of NQ.out).symm))) | (go_at_call 69; (with_reducible refine (isInf_c hp0 _ _).mono ?_); rw [I1.out]; rintro e w' ⟨n, rfl, rfl⟩) | (go_at_call 69; (with_reducible refine (isInf_c hq0 _ _).mono ?_); rw [I2.out]; rintro e w' ⟨n, rfl, rfl⟩) | (go_at_call 135; refine (refAngle_c (hp0.quo hq0) _).mono ?_; rintro e w' ⟨v, n, rfl, hv, rfl⟩) | (go_at_call 137; (with_reducible refine (signbit_c hx _).mono ?_); rw [HS.out]; rintro e w' ⟨n, rfl, rfl⟩) | (go_at_call 137; (with_reducible refine (signbit_c hy _).mono ?_); rw [HS2.out]; rintro e w' ⟨n, rfl, rfl⟩) | (go_at_call 92; refine (High_c _).mono ?_; rintro e w' ⟨r, n, rfl, hr, rfl⟩; obtain rfl := hr.eq_of (by decide +kernel)) | (go_at_call 136; refine (Low_c _).mono ?_; rintro e w' ⟨r, n, rfl, hr, rfl⟩; obtain rfl := hr.eq_of (by decide +kernel)))
          go_ret
          exact RetF.mk _ (by rw [HO.out, if_pos HS2.out, HA.out]; unfold backP; rw [if_neg (by simp)]; exact (Rep.cpiH.quo Rep.c4).neg)
        · rw [c0] at t0
          rw [if_pos c0] at hL
          rw [hL] at hA
          rw [hs] at hA
          have HA := Lib.hid hA
          clear hA hL
          have I1 := Lib.hid i1
          have I2 := Lib.hid i2
          have HS := Lib.hid hs
          have HS2 := Lib.hid hs2
          clear i1 i2 hs hs2 c0
          go_enter Tryd.func95, Tryd.ntmps95
          go_wp2_with (first | (go_at_call 68; refine (abs_c (by with_reducible first | exact hy | exact hx) _).mono ?_; (first | (rintro e w' ⟨r, n, rfl, hr, rfl⟩; rw [← HP.out] at hr; obtain rfl : P = r := (hr.eq_of NP.out).symm) | (rintro e w' ⟨r, n, rfl, hr, rfl⟩; rw [← HQ.out] at hr; obtain rfl : Q = r := (hr.eq_of NQ.out).symm))) | (go_at_call 69; (with_reducible refine (isInf_c hp0 _ _).mono ?_); rw [I1.out]; rintro e w' ⟨n, rfl, rfl⟩) | (go_at_call 69; (with_reducible refine (isInf_c hq0 _ _).mono ?_); rw [I2.out]; rintro e w' ⟨n, rfl, rfl⟩) | (go_at_call 135; refine (refAngle_c (hp0.quo hq0) _).mono ?_; rintro e w' ⟨v, n, rfl, hv, rfl⟩) | (go_at_call 137; (with_reducible refine (signbit_c hx _).mono ?_); rw [HS.out]; rintro e w' ⟨n, rfl, rfl⟩) | (go_at_call 137; (with_reducible refine (signbit_c hy _).mono ?_); rw [HS2.out]; rintro e w' ⟨n, rfl, rfl⟩) | (go_at_call 92; refine (High_c _).mono ?_; rintro e w' ⟨r, n, rfl, hr, rfl⟩; obtain rfl := hr.eq_of (by decide +kernel)) | (go_at_call 136; refine (Low_c _).mono ?_; rintro e w' ⟨r, n, rfl, hr, rfl⟩; obtain rfl := hr.eq_of (by decide +kernel)))
          go_ret
          exact RetF.mk _ (by rw [HO.out, if_pos HS2.out, HA.out]; unfold backP; rw [if_neg (by simp)]; exact (Rep.c0).neg)
      · cases c0 : feq P 0
        · rw [c0] at t0
          cases c3 : fle P Q
          · rw [c3] at t3
            rw [if_neg (by rw [c0]; simp), if_neg (by rw [i1, i2]; simp), if_neg (by rw [c3]; simp)] at hL
            rw [hL] at hA
            rw [hs] at hA
            have HA := Lib.hid hA
            clear hA hL
            have I1 := Lib.hid i1
            have I2 := Lib.hid i2
            have HS := Lib.hid hs
            have HS2 := Lib.hid hs2
            clear i1 i2 hs hs2 c0
            go_enter Tryd.func95, Tryd.ntmps95
            go_wp2_with (first | (go_at_call 68; refine (abs_c (by with_reducible first | exact hy | exact hx) _).mono ?_; (first | (rintro e w' ⟨r, n, rfl, hr, rfl⟩; rw [← HP.out] at hr; obtain rfl : P = r := (hr.eq_of NP.out).symm) | (rintro e w' ⟨r, n, rfl, hr, rfl⟩; rw [← HQ.out] at hr; obtain rfl : Q = r := (hr.eq_of NQ.out).symm))) | (go_at_call 69; (with_reducible refine (isInf_c hp0 _ _).mono ?_); rw [I1.out]; rintro e w' ⟨n, rfl, rfl⟩) | (go_at_call 69; (with_reducible refine (isInf_c hq0 _ _).mono ?_); rw [I2.out]; rintro e w' ⟨n, rfl, rfl⟩) | (go_at_call 135; refine (refAngle_c (hq0.quo hp0) _).mono ?_; rintro e w' ⟨v, n, rfl, hv, rfl⟩) | (go_at_call 137; (with_reducible refine (signbit_c hx _).mono ?_); rw [HS.out]; rintro e w' ⟨n, rfl, rfl⟩) | (go_at_call 137; (with_reducible refine (signbit_c hy _).mono ?_); rw [HS2.out]; rintro e w' ⟨n, rfl, rfl⟩) | (go_at_call 92; refine (High_c _).mono ?_; rintro e w' ⟨r, n, rfl, hr, rfl⟩; obtain rfl := hr.eq_of (by decide +kernel)) | (go_at_call 136; refine (Low_c _).mono ?_; rintro e w' ⟨r, n, rfl, hr, rfl⟩; obtain rfl := hr.eq_of (by decide +kernel)))
            go_ret
            exact RetF.mk _ (by rw [HO.out, if_neg (by rw [HS2.out]; simp), HA.out]; unfold backP; rw [if_pos rfl]; exact (Rep.cpiH.sub (((Rep.cpiH.quo Rep.two).sub (hv.sub (Rep.cpiL.quo Rep.two))).sub Rep.cpiL)))
          · rw [c3] at t3
            rw [if_neg (by rw [c0]; simp), if_neg (by rw [i1, i2]; simp), if_pos c3] at hL
            rw [hL] at hA
            rw [hs] at hA
            have HA := Lib.hid hA
            clear hA hL
            have I1 := Lib.hid i1
            have I2 := Lib.hid i2
            have HS := Lib.hid hs
            have HS2 := Lib.hid hs2
            clear i1 i2 hs hs2 c0
            go_enter Tryd.func95, Tryd.ntmps95
            go_wp2_with (first | (go_at_call 68; refine (abs_c (by with_reducible first | exact hy | exact hx) _).mono ?_; (first | (rintro e w' ⟨r, n, rfl, hr, rfl⟩; rw [← HP.out] at hr; obtain rfl : P = r := (hr.eq_of NP.out).symm) | (rintro e w' ⟨r, n, rfl, hr, rfl⟩; rw [← HQ.out] at hr; obtain rfl : Q = r := (hr.eq_of NQ.out).symm))) | (go_at_call 69; (with_reducible refine (isInf_c hp0 _ _).mono ?_); rw [I1.out]; rintro e w' ⟨n, rfl, rfl⟩) | (go_at_call 69; (with_reducible refine (isInf_c hq0 _ _).mono ?_); rw [I2.out]; rintro e w' ⟨n, rfl, rfl⟩) | (go_at_call 135; refine (refAngle_c (hp0.quo hq0) _).mono ?_; rintro e w' ⟨v, n, rfl, hv, rfl⟩) | (go_at_call 137; (with_reducible refine (signbit_c hx _).mono ?_); rw [HS.out]; rintro e w' ⟨n, rfl, rfl⟩) | (go_at_call 137; (with_reducible refine (signbit_c hy _).mono ?_); rw [HS2.out]; rintro e w' ⟨n, rfl, rfl⟩) | (go_at_call 92; refine (High_c _).mono ?_; rintro e w' ⟨r, n, rfl, hr, rfl⟩; obtain rfl := hr.eq_of (by decide +kernel)) | (go_at_call 136; refine (Low_c _).mono ?_; rintro e w' ⟨r, n, rfl, hr, rfl⟩; obtain rfl := hr.eq_of (by decide +kernel)))
            go_ret
            exact RetF.mk _ (by rw [HO.out, if_neg (by rw [HS2.out]; simp), HA.out]; unfold backP; rw [if_pos rfl]; exact (Rep.cpiH.sub ((hv).sub Rep.cpiL)))
        · rw [c0] at t0
          rw [if_pos c0] at hL
          rw [hL] at hA
          rw [hs] at hA
          have HA := Lib.hid hA
          clear hA hL
          have I1 := Lib.hid i1
          have I2 := Lib.hid i2
          have HS := Lib.hid hs
          have HS2 := Lib.hid hs2
          clear i1 i2 hs hs2 c0
          go_enter Tryd.func95, Tryd.ntmps95
          go_wp2_with (first | (go_at_call 68; refine (abs_c (by with_reducible first | exact hy | exact hx) _).mono ?_; (first | (rintro e w' ⟨r, n, rfl, hr, rfl⟩; rw [← HP.out] at hr; obtain rfl : P = r := (hr.eq_of NP.out).symm) | (rintro e w' ⟨r, n, rfl, hr, rfl⟩; rw [← HQ.out] at hr; obtain rfl : Q = r := (hr.eq_of NQ.out).symm))) | (go_at_call 69; (with_reducible refine (isInf_c hp0 _ _).mono ?_); rw [I1.out]; rintro e w' ⟨n, rfl, rfl⟩) | (go_at_call 69; (with_reducible refine (isInf_c hq0 _ _).mono ?_); rw [I2.out]; rintro e w' ⟨n, rfl, rfl⟩) | (go_at_call 135; refine (refAngle_c (hp0.quo hq0) _).mono ?_; rintro e w' ⟨v, n, rfl, hv, rfl⟩) | (go_at_call 137; (with_reducible refine (signbit_c hx _).mono ?_); rw [HS.out]; rintro e w' ⟨n, rfl, rfl⟩) | (go_at_call 137; (with_reducible refine (signbit_c hy _).mono ?_); rw [HS2.out]; rintro e w' ⟨n, rfl, rfl⟩) | (go_at_call 92; refine (High_c _).mono ?_; rintro e w' ⟨r, n, rfl, hr, rfl⟩; obtain rfl := hr.eq_of (by decide +kernel)) | (go_at_call 136; refine (Low_c _).mono ?_; rintro e w' ⟨r, n, rfl, hr, rfl⟩; obtain rfl := hr.eq_of (by decide +kernel)))
          go_ret
          exact RetF.mk _ (by rw [HO.out, if_neg (by rw [HS2.out]; simp), HA.out]; unfold backP; rw [if_pos rfl]; exact (Rep.cpiH.sub ((Rep.c0).sub Rep.cpiL)))
      · cases c0 : feq P 0
        · rw [c0] at t0
          cases c3 : fle P Q
          · rw [c3] at t3
            rw [if_neg (by rw [c0]; simp), if_neg (by rw [i1, i2]; simp), if_neg (by rw [c3]; simp)] at hL
            rw [hL] at hA
            rw [hs] at hA
            have HA := Lib.hid hA
            clear hA hL
            have I1 := Lib.hid i1
            have I2 := Lib.hid i2
            have HS := Lib.hid hs
            have HS2 := Lib.hid hs2
            clear i1 i2 hs hs2 c0
            go_enter Tryd.func95, Tryd.ntmps95
            go_wp2_with (first | (go_at_call 68; refine (abs_c (by with_reducible first | exact hy | exact hx) _).mono ?_; (first | (rintro e w' ⟨r, n, rfl, hr, rfl⟩; rw [← HP.out] at hr; obtain rfl : P = r := (hr.eq_of NP.out).symm) | (rintro e w' ⟨r, n, rfl, hr, rfl⟩; rw [← HQ.out] at hr; obtain rfl : Q = r := (hr.eq_of NQ.out).symm))) | (go_at_call 69; (with_reducible refine (isInf_c hp0 _ _).mono ?_); rw [I1.out]; rintro e w' ⟨n, rfl, rfl⟩) | (go_at_call 69; (with_reducible refine (isInf_c hq0 _ _).mono ?_); rw [I2.out]; rintro e w' ⟨n, rfl, rfl⟩) | (go_at_call 135; refine (refAngle_c (hq0.quo hp0) _).mono ?_; rintro e w' ⟨v, n, rfl, hv, rfl⟩) | (go_at_call 137; (with_reducible refine (signbit_c hx _).mono ?_); rw [HS.out]; rintro e w' ⟨n, rfl, rfl⟩) | (go_at_call 137; (with_reducible refine (signbit_c hy _).mono ?_); rw [HS2.out]; rintro e w' ⟨n, rfl, rfl⟩) | (go_at_call 92; refine (High_c _).mono ?_; rintro e w' ⟨r, n, rfl, hr, rfl⟩; obtain rfl := hr.eq_of (by decide +kernel)) | (go_at_call 136; refine (Low_c _).mono ?_; rintro e w' ⟨r, n, rfl, hr, rfl⟩; obtain rfl := hr.eq_of (by decide +kernel)))
            go_ret
            exact RetF.mk _ (by rw [HO.out, if_neg (by rw [HS2.out]; simp), HA.out]; unfold backP; rw [if_pos rfl]; exact (Rep.cpiH.sub (((Rep.cpiH.quo Rep.two).sub (hv.sub (Rep.cpiL.quo Rep.two))).sub Rep.cpiL)))
          · rw [c3] at t3
            rw [if_neg (by rw [c0]; simp), if_neg (by rw [i1, i2]; simp), if_pos c3] at hL
            rw [hL] at hA
            rw [hs] at hA
            have HA := Lib.hid hA
            clear hA hL
            have I1 := Lib.hid i1
            have I2 := Lib.hid i2
            have HS := Lib.hid hs
            have HS2 := Lib.hid hs2
            clear i1 i2 hs hs2 c0
            go_enter Tryd.func95, Tryd.ntmps95
            go_wp2_with (first | (go_at_call 68; refine (abs_c (by with_reducible first | exact hy | exact hx) _).mono ?_; (first | (rintro e w' ⟨r, n, rfl, hr, rfl⟩; rw [← HP.out] at hr; obtain rfl : P = r := (hr.eq_of NP.out).symm) | (rintro e w' ⟨r, n, rfl, hr, rfl⟩; rw [← HQ.out] at hr; obtain rfl : Q = r := (hr.eq_of NQ.out).symm))) | (go_at_call 69; (with_reducible refine (isInf_c hp0 _ _).mono ?_); rw [I1.out]; rintro e w' ⟨n, rfl, rfl⟩) | (go_at_call 69; (with_reducible refine (isInf_c hq0 _ _).mono ?_); rw [I2.out]; rintro e w' ⟨n, rfl, rfl⟩) | (go_at_call 135; refine (refAngle_c (hp0.quo hq0) _).mono ?_; rintro e w' ⟨v, n, rfl, hv, rfl⟩) | (go_at_call 137; (with_reducible refine (signbit_c hx _).mono ?_); rw [HS.out]; rintro e w' ⟨n, rfl, rfl⟩) | (go_at_call 137; (with_reducible refine (signbit_c hy _).mono ?_); rw [HS2.out]; rintro e w' ⟨n, rfl, rfl⟩) | (go_at_call 92; refine (High_c _).mono ?_; rintro e w' ⟨r, n, rfl, hr, rfl⟩; obtain rfl := hr.eq_of (by decide +kernel)) | (go_at_call 136; refine (Low_c _).mono ?_; rintro e w' ⟨r, n, rfl, hr, rfl⟩; obtain rfl := hr.eq_of (by decide +kernel)))
            go_ret
            exact RetF.mk _ (by rw [HO.out, if_neg (by rw [HS2.out]; simp), HA.out]; unfold backP; rw [if_pos rfl]; exact (Rep.cpiH.sub ((hv).sub Rep.cpiL)))
        · rw [c0] at t0
          rw [if_pos c0] at hL
          rw [hL] at hA
          rw [hs] at hA
          have HA := Lib.hid hA
          clear hA hL
          have I1 := Lib.hid i1
          have I2 := Lib.hid i2
          have HS := Lib.hid hs
          have HS2 := Lib.hid hs2
          clear i1 i2 hs hs2 c0
          go_enter Tryd.func95, Tryd.ntmps95
          go_wp2_with (first | (go_at_call 68; refine (abs_c (by with_reducible first | exact hy | exact hx) _).mono ?_; (first | (rintro e w' ⟨r, n, rfl, hr, rfl⟩; rw [← HP.out] at hr; obtain rfl : P = r := (hr.eq_of NP.out).symm) | (rintro e w' ⟨r, n, rfl, hr, rfl⟩; rw [← HQ.out] at hr; obtain rfl : Q = r := (hr.eq_of NQ.out).symm))) | (go_at_call 69; (with_reducible refine (isInf_c hp0 _ _).mono ?_); rw [I1.out]; rintro e w' ⟨n, rfl, rfl⟩) | (go_at_call 69; (with_reducible refine (isInf_c hq0 _ _).mono ?_); rw [I2.out]; rintro e w' ⟨n, rfl, rfl⟩) | (go_at_call 135; refine (refAngle_c (hp0.quo hq0) _).mono ?_; rintro e w' ⟨v, n, rfl, hv, rfl⟩) | (go_at_call 137; (with_reducible refine (signbit_c hx _).mono ?_); rw [HS.out]; rintro e w' ⟨n, rfl, rfl⟩) | (go_at_call 137; (with_reducible refine (signbit_c hy _).mono ?_); rw [HS2.out]; rintro e w' ⟨n, rfl, rfl⟩) | (go_at_call 92; refine (High_c _).mono ?_; rintro e w' ⟨r, n, rfl, hr, rfl⟩; obtain rfl := hr.eq_of (by decide +kernel)) | (go_at_call 136; refine (Low_c _).mono ?_; rintro e w' ⟨r, n, rfl, hr, rfl⟩; obtain rfl := hr.eq_of (by decide +kernel)))
          go_ret
          exact RetF.mk _ (by rw [HO.out, if_neg (by rw [HS2.out]; simp), HA.out]; unfold backP; rw [if_pos rfl]; exact (Rep.cpiH.sub ((Rep.c0).sub Rep.cpiL)))
      · cases c0 : feq P 0
        · rw [c0] at t0
          cases c3 : fle P Q
          · rw [c3] at t3
            rw [if_neg (by rw [c0]; simp), if_neg (by rw [i1, i2]; simp), if_neg (by rw [c3]; simp)] at hL
            rw [hL] at hA
            rw [hs] at hA
            have HA := Lib.hid hA
            clear hA hL
            have I1 := Lib.hid i1
            have I2 := Lib.hid i2
            have HS := Lib.hid hs
            have HS2 := Lib.hid hs2
            clear i1 i2 hs hs2 c0
            go_enter Tryd.func95, Tryd.ntmps95
            go_wp2_with (first | (go_at_call 68; refine (abs_c (by with_reducible first | exact hy | exact hx) _).mono ?_; (first | (rintro e w' ⟨r, n, rfl, hr, rfl⟩; rw [← HP.out] at hr; obtain rfl : P = r := (hr.eq_of NP.out).symm) | (rintro e w' ⟨r, n, rfl, hr, rfl⟩; rw [← HQ.out] at hr; obtain rfl : Q = r := (hr.eq_of NQ.out).symm))) | (go_at_call 69; (with_reducible refine (isInf_c hp0 _ _).mono ?_); rw [I1.out]; rintro e w' ⟨n, rfl, rfl⟩) | (go_at_call 69; (with_reducible refine (isInf_c hq0 _ _).mono ?_); rw [I2.out]; rintro e w' ⟨n, rfl, rfl⟩) | (go_at_call 135; refine (refAngle_c (hq0.quo hp0) _).mono ?_; rintro e w' ⟨v, n, rfl, hv, rfl⟩) | (go_at_call 137; (with_reducible refine (signbit_c hx _).mono ?_); rw [HS.out]; rintro e w' ⟨n, rfl, rfl⟩) | (go_at_call 137; (with_reducible refine (signbit_c hy _).mono ?_); rw [HS2.out]; rintro e w' ⟨n, rfl, rfl⟩) | (go_at_call 92; refine (High_c _).mono ?_; rintro e w' ⟨r, n, rfl, hr, rfl⟩; obtain rfl := hr.eq_of (by decide +kernel)) | (go_at_call 136; refine (Low_c _).mono ?_; rintro e w' ⟨r, n, rfl, hr, rfl⟩; obtain rfl := hr.eq_of (by decide +kernel)))
            go_ret
            exact RetF.mk _ (by rw [HO.out, if_neg (by rw [HS2.out]; simp), HA.out]; unfold backP; rw [if_pos rfl]; exact (Rep.cpiH.sub (((Rep.cpiH.quo Rep.two).sub (hv.sub (Rep.cpiL.quo Rep.two))).sub Rep.cpiL)))
          · rw [c3] at t3
            rw [if_neg (by rw [c0]; simp), if_neg (by rw [i1, i2]; simp), if_pos c3] at hL
            rw [hL] at hA
            rw [hs] at hA
            have HA := Lib.hid hA
            clear hA hL
            have I1 := Lib.hid i1
            have I2 := Lib.hid i2
            have HS := Lib.hid hs
            have HS2 := Lib.hid hs2
            clear i1 i2 hs hs2 c0
            go_enter Tryd.func95, Tryd.ntmps95
            go_wp2_with (first | (go_at_call 68; refine (abs_c (by with_reducible first | exact hy | exact hx) _).mono ?_; (first | (rintro e w' ⟨r, n, rfl, hr, rfl⟩; rw [← HP.out] at hr; obtain rfl : P = r := (hr.eq_of NP.out).symm) | (rintro e w' ⟨r, n, rfl, hr, rfl⟩; rw [← HQ.out] at hr; obtain rfl : Q = r := (hr.eq_of NQ.out).symm))) | (go_at_call 69; (with_reducible refine (isInf_c hp0 _ _).mono ?_); rw [I1.out]; rintro e w' ⟨n, rfl, rfl⟩) | (go_at_call 69; (with_reducible refine (isInf_c hq0 _ _).mono ?_); rw [I2.out]; rintro e w' ⟨n, rfl, rfl⟩) | (go_at_call 135; refine (refAngle_c (hp0.quo hq0) _).mono ?_; rintro e w' ⟨v, n, rfl, hv, rfl⟩) | (go_at_call 137; (with_reducible refine (signbit_c hx _).mono ?_); rw [HS.out]; rintro e w' ⟨n, rfl, rfl⟩) | (go_at_call 137; (with_reducible refine (signbit_c hy _).mono ?_); rw [HS2.out]; rintro e w' ⟨n, rfl, rfl⟩) | (go_at_call 92; refine (High_c _).mono ?_; rintro e w' ⟨r, n, rfl, hr, rfl⟩; obtain rfl := hr.eq_of (by decide +kernel)) | (go_at_call 136; refine (Low_c _).mono ?_; rintro e w' ⟨r, n, rfl, hr, rfl⟩; obtain rfl := hr.eq_of (by decide +kernel)))
            go_ret
            exact RetF.mk _ (by rw [HO.out, if_neg (by rw [HS2.out]; simp), HA.out]; unfold backP; rw [if_pos rfl]; exact (Rep.cpiH.sub ((hv).sub Rep.cpiL)))
        · rw [c0] at t0
          rw [if_pos c0] at hL
          rw [hL] at hA
          rw [hs] at hA
          have HA := Lib.hid hA
          clear hA hL
          have I1 := Lib.hid i1
          have I2 := Lib.hid i2
          have HS := Lib.hid hs
          have HS2 := Lib.hid hs2
          clear i1 i2 hs hs2 c0
          go_enter Tryd.func95, Tryd.ntmps95
          go_wp2_with (first | (go_at_call 68; refine (abs_c (by with_reducible first | exact hy | exact hx) _).mono ?_; (first | (rintro e w' ⟨r, n, rfl, hr, rfl⟩; rw [← HP.out] at hr; obtain rfl : P = r := (hr.eq_of NP.out).symm) | (rintro e w' ⟨r, n, rfl, hr, rfl⟩; rw [← HQ.out] at hr; obtain rfl : Q = r := (hr.eq_of NQ.out).symm))) | (go_at_call 69; (with_reducible refine (isInf_c hp0 _ _).mono ?_); rw [I1.out]; rintro e w' ⟨n, rfl, rfl⟩) | (go_at_call 69; (with_reducible refine (isInf_c hq0 _ _).mono ?_); rw [I2.out]; rintro e w' ⟨n, rfl, rfl⟩) | (go_at_call 135; refine (refAngle_c (hp0.quo hq0) _).mono ?_; rintro e w' ⟨v, n, rfl, hv, rfl⟩) | (go_at_call 137; (with_reducible refine (signbit_c hx _).mono ?_); rw [HS.out]; rintro e w' ⟨n, rfl, rfl⟩) | (go_at_call 137; (with_reducible refine (signbit_c hy _).mono ?_); rw [HS2.out]; rintro e w' ⟨n, rfl, rfl⟩) | (go_at_call 92; refine (High_c _).mono ?_; rintro e w' ⟨r, n, rfl, hr, rfl⟩; obtain rfl := hr.eq_of (by decide +kernel)) | (go_at_call 136; refine (Low_c _).mono ?_; rintro e w' ⟨r, n, rfl, hr, rfl⟩; obtain rfl := hr.eq_of (by decide +kernel)))
          go_ret
          exact RetF.mk _ (by rw [HO.out, if_neg (by rw [HS2.out]; simp), HA.out]; unfold backP; rw [if_pos rfl]; exact (Rep.cpiH.sub ((Rep.c0).sub Rep.cpiL)))
      · cases c0 : feq P 0
        · rw [c0] at t0
          rw [if_neg (by rw [c0]; simp), if_pos (by rw [i1, i2]; rfl)] at hL
          rw [hL] at hA
          rw [hs] at hA
          have HA := Lib.hid hA
          clear hA hL
          have I1 := Lib.hid i1
          have I2 := Lib.hid i2
          have HS := Lib.hid hs
          have HS2 := Lib.hid hs2
          clear i1 i2 hs hs2 c0
          go_enter Tryd.func95, Tryd.ntmps95
          go_wp2_with (first | (go_at_call 68; refine (abs_c (by with_reducible first | exact hy | exact hx) _).mono ?_; (first | (rintro e w' ⟨r, n, rfl, hr, rfl⟩; rw [← HP.out] at hr; obtain rfl : P = r := (hr.eq_of NP.out).symm) | (rintro e w' ⟨r, n, rfl, hr, rfl⟩; rw [← HQ.out] at hr; obtain rfl : Q = r := (hr.eq_of NQ.out).symm))) | (go_at_call 69; (with_reducible refine (isInf_c hp0 _ _).mono ?_); rw [I1.out]; rintro e w' ⟨n, rfl, rfl⟩) | (go_at_call 69; (with_reducible refine (isInf_c hq0 _ _).mono ?_); rw [I2.out]; rintro e w' ⟨n, rfl, rfl⟩) | (go_at_call 135; refine (refAngle_c (hp0.quo hq0) _).mono ?_; rintro e w' ⟨v, n, rfl, hv, rfl⟩) | (go_at_call 137; (with_reducible refine (signbit_c hx _).mono ?_); rw [HS.out]; rintro e w' ⟨n, rfl, rfl⟩) | (go_at_call 137; (with_reducible refine (signbit_c hy _).mono ?_); rw [HS2.out]; rintro e w' ⟨n, rfl, rfl⟩) | (go_at_call 92; refine (High_c _).mono ?_; rintro e w' ⟨r, n, rfl, hr, rfl⟩; obtain rfl := hr.eq_of (by decide +kernel)) | (go_at_call 136; refine (Low_c _).mono ?_; rintro e w' ⟨r, n, rfl, hr, rfl⟩; obtain rfl := hr.eq_of (by decide +kernel)))
          go_ret
          exact RetF.mk _ (by rw [HO.out, if_neg (by rw [HS2.out]; simp), HA.out]; unfold backP; rw [if_pos rfl]; exact (Rep.cpiH.sub ((Rep.cpiH.quo Rep.c4).sub Rep.cpiL)))
        · rw [c0] at t0
          rw [if_pos c0] at hL
          rw [hL] at hA
          rw [hs] at hA
          have HA := Lib.hid hA
          clear hA hL
          have I1 := Lib.hid i1
          have I2 := Lib.hid i2
          have HS := Lib.hid hs
          have HS2 := Lib.hid hs2
          clear i1 i2 hs hs2 c0
          go_enter Tryd.func95, Tryd.ntmps95
          go_wp2_with (first | (go_at_call 68; refine (abs_c (by with_reducible first | exact hy | exact hx) _).mono ?_; (first | (rintro e w' ⟨r, n, rfl, hr, rfl⟩; rw [← HP.out] at hr; obtain rfl : P = r := (hr.eq_of NP.out).symm) | (rintro e w' ⟨r, n, rfl, hr, rfl⟩; rw [← HQ.out] at hr; obtain rfl : Q = r := (hr.eq_of NQ.out).symm))) | (go_at_call 69; (with_reducible refine (isInf_c hp0 _ _).mono ?_); rw [I1.out]; rintro e w' ⟨n, rfl, rfl⟩) | (go_at_call 69; (with_reducible refine (isInf_c hq0 _ _).mono ?_); rw [I2.out]; rintro e w' ⟨n, rfl, rfl⟩) | (go_at_call 135; refine (refAngle_c (hp0.quo hq0) _).mono ?_; rintro e w' ⟨v, n, rfl, hv, rfl⟩) | (go_at_call 137; (with_reducible refine (signbit_c hx _).mono ?_); rw [HS.out]; rintro e w' ⟨n, rfl, rfl⟩) | (go_at_call 137; (with_reducible refine (signbit_c hy _).mono ?_); rw [HS2.out]; rintro e w' ⟨n, rfl, rfl⟩) | (go_at_call 92; refine (High_c _).mono ?_; rintro e w' ⟨r, n, rfl, hr, rfl⟩; obtain rfl := hr.eq_of (by decide +kernel)) | (go_at_call 136; refine (Low_c _).mono ?_; rintro e w' ⟨r, n, rfl, hr, rfl⟩; obtain rfl := hr.eq_of (by decide +kernel)))
          go_ret
          exact RetF.mk _ (by rw [HO.out, if_neg (by rw [HS2.out]; simp), HA.out]; unfold backP; rw [if_pos rfl]; exact (Rep.cpiH.sub ((Rep.c0).sub Rep.cpiL)))
      · cases c0 : feq P 0
        · rw [c0] at t0
          cases c3 : fle P Q
          · rw [c3] at t3
            rw [if_neg (by rw [c0]; simp), if_neg (by rw [i1, i2]; simp), if_neg (by rw [c3]; simp)] at hL
            rw [hL] at hA
            rw [hs] at hA
            have HA := Lib.hid hA
            clear hA hL
            have I1 := Lib.hid i1
            have I2 := Lib.hid i2
            have HS := Lib.hid hs
            have HS2 := Lib.hid hs2
            clear i1 i2 hs hs2 c0
            go_enter Tryd.func95, Tryd.ntmps95
            go_wp2_with (first | (go_at_call 68; refine (abs_c (by with_reducible first | exact hy | exact hx) _).mono ?_; (first | (rintro e w' ⟨r, n, rfl, hr, rfl⟩; rw [← HP.out] at hr; obtain rfl : P = r := (hr.eq_of NP.out).symm) | (rintro e w' ⟨r, n, rfl, hr, rfl⟩; rw [← HQ.out] at hr; obtain rfl : Q = r := (hr.eq_of NQ.out).symm))) | (go_at_call 69; (with_reducible refine (isInf_c hp0 _ _).mono ?_); rw [I1.out]; rintro e w' ⟨n, rfl, rfl⟩) | (go_at_call 69; (with_reducible refine (isInf_c hq0 _ _).mono ?_); rw [I2.out]; rintro e w' ⟨n, rfl, rfl⟩) | (go_at_call 135; refine (refAngle_c (hq0.quo hp0) _).mono ?_; rintro e w' ⟨v, n, rfl, hv, rfl⟩) | (go_at_call 137; (with_reducible refine (signbit_c hx _).mono ?_); rw [HS.out]; rintro e w' ⟨n, rfl, rfl⟩) | (go_at_call 137; (with_reducible refine (signbit_c hy _).mono ?_); rw [HS2.out]; rintro e w' ⟨n, rfl, rfl⟩) | (go_at_call 92; refine (High_c _).mono ?_; rintro e w' ⟨r, n, rfl, hr, rfl⟩; obtain rfl := hr.eq_of (by decide +kernel)) | (go_at_call 136; refine (Low_c _).mono ?_; rintro e w' ⟨r, n, rfl, hr, rfl⟩; obtain rfl := hr.eq_of (by decide +kernel)))
            go_ret
            exact RetF.mk _ (by rw [HO.out, if_pos HS2.out, HA.out]; unfold backP; rw [if_pos rfl]; exact (Rep.cpiH.sub (((Rep.cpiH.quo Rep.two).sub (hv.sub (Rep.cpiL.quo Rep.two))).sub Rep.cpiL)).neg)
          · rw [c3] at t3
            rw [if_neg (by rw [c0]; simp), if_neg (by rw [i1, i2]; simp), if_pos c3] at hL
            rw [hL] at hA
            rw [hs] at hA
            have HA := Lib.hid hA
            clear hA hL
            have I1 := Lib.hid i1
            have I2 := Lib.hid i2
            have HS := Lib.hid hs
            have HS2 := Lib.hid hs2
            clear i1 i2 hs hs2 c0
            go_enter Tryd.func95, Tryd.ntmps95
            go_wp2_with (first | (go_at_call 68; refine (abs_c (by with_reducible first | exact hy | exact hx) _).mono ?_; (first | (rintro e w' ⟨r, n, rfl, hr, rfl⟩; rw [← HP.out] at hr; obtain rfl : P = r := (hr.eq_of NP.out).symm) | (rintro e w' ⟨r, n, rfl, hr, rfl⟩; rw [← HQ.out] at hr; obtain rfl : Q = r := (hr.eq_of NQ.out).symm))) | (go_at_call 69; (with_reducible refine (isInf_c hp0 _ _).mono ?_); rw [I1.out]; rintro e w' ⟨n, rfl, rfl⟩) | (go_at_call 69; (with_reducible refine (isInf_c hq0 _ _).mono ?_); rw [I2.out]; rintro e w' ⟨n, rfl, rfl⟩) | (go_at_call 135; refine (refAngle_c (hp0.quo hq0) _).mono ?_; rintro e w' ⟨v, n, rfl, hv, rfl⟩) | (go_at_call 137; (with_reducible refine (signbit_c hx _).mono ?_); rw [HS.out]; rintro e w' ⟨n, rfl, rfl⟩) | (go_at_call 137; (with_reducible refine (signbit_c hy _).mono ?_); rw [HS2.out]; rintro e w' ⟨n, rfl, rfl⟩) | (go_at_call 92; refine (High_c _).mono ?_; rintro e w' ⟨r, n, rfl, hr, rfl⟩; obtain rfl := hr.eq_of (by decide +kernel)) | (go_at_call 136; refine (Low_c _).mono ?_; rintro e w' ⟨r, n, rfl, hr, rfl⟩; obtain rfl := hr.eq_of (by decide +kernel)))
            go_ret
            exact RetF.mk _ (by rw [HO.out, if_pos HS2.out, HA.out]; unfold backP; rw [if_pos rfl]; exact (Rep.cpiH.sub ((hv).sub Rep.cpiL)).neg)
        · rw [c0] at t0
          rw [if_pos c0] at hL
          rw [hL] at hA
          rw [hs] at hA
          have HA := Lib.hid hA
          clear hA hL
          have I1 := Lib.hid i1
          have I2 := Lib.hid i2
          have HS := Lib.hid hs
          have HS2 := Lib.hid hs2
          clear i1 i2 hs hs2 c0
          go_enter Tryd.func95, Tryd.ntmps95
          go_wp2_with (first | (go_at_call 68; refine (abs_c (by with_reducible first | exact hy | exact hx) _).mono ?_; (first | (rintro e w' ⟨r, n, rfl, hr, rfl⟩; rw [← HP.out] at hr; obtain rfl : P = r := (hr.eq_of NP.out).symm) | (rintro e w' ⟨r, n, rfl, hr, rfl⟩; rw [← HQ.out] at hr; obtain rfl : Q = r := (hr.eq_of NQ.out).symm))) | (go_at_call 69; (with_reducible refine (isInf_c hp0 _ _).mono ?_); rw [I1.out]; rintro e w' ⟨n, rfl, rfl⟩) | (go_at_call 69; (with_reducible refine (isInf_c hq0 _ _).mono ?_); rw [I2.out]; rintro e w' ⟨n, rfl, rfl⟩) | (go_at_call 135; refine (refAngle_c (hp0.quo hq0) _).mono ?_; rintro e w' ⟨v, n, rfl, hv, rfl⟩) | (go_at_call 137; (with_reducible refine (signbit_c hx _).mono ?_); rw [HS.out]; rintro e w' ⟨n, rfl, rfl⟩) | (go_at_call 137; (with_reducible refine (signbit_c hy _).mono ?_); rw [HS2.out]; rintro e w' ⟨n, rfl, rfl⟩) | (go_at_call 92; refine (High_c _).mono ?_; rintro e w' ⟨r, n, rfl, hr, rfl⟩; obtain rfl := hr.eq_of (by decide +kernel)) | (go_at_call 136; refine (Low_c _).mono ?_; rintro e w' ⟨r, n, rfl, hr, rfl⟩; obtain rfl := hr.eq_of (by decide +kernel)))
          go_ret
          exact RetF.mk _ (by rw [HO.out, if_pos HS2.out, HA.out]; unfold backP; rw [if_pos rfl]; exact (Rep.cpiH.sub ((Rep.c0).sub Rep.cpiL)).neg)
      · cases c0 : feq P 0
        · rw [c0] at t0
          cases c3 : fle P Q
          · rw [c3] at t3
            rw [if_neg (by rw [c0]; simp), if_neg (by rw [i1, i2]; simp), if_neg (by rw [c3]; simp)] at hL
            rw [hL] at hA
            rw [hs] at hA
            have HA := Lib.hid hA
            clear hA hL
            have I1 := Lib.hid i1
            have I2 := Lib.hid i2
            have HS := Lib.hid hs
            have HS2 := Lib.hid hs2
            clear i1 i2 hs hs2 c0
            go_enter Tryd.func95, Tryd.ntmps95
            go_wp2_with (first | (go_at_call 68; refine (abs_c (by with_reducible first | exact hy | exact hx) _).mono ?_; (first | (rintro e w' ⟨r, n, rfl, hr, rfl⟩; rw [← HP.out] at hr; obtain rfl : P = r := (hr.eq_of NP.out).symm) | (rintro e w' ⟨r, n, rfl, hr, rfl⟩; rw [← HQ.out] at hr; obtain rfl : Q = r := (hr.eq_of NQ.out).symm))) | (go_at_call 69; (with_reducible refine (isInf_c hp0 _ _).mono ?_); rw [I1.out]; rintro e w' ⟨n, rfl, rfl⟩) | (go_at_call 69; (with_reducible refine (isInf_c hq0 _ _).mono ?_); rw [I2.out]; rintro e w' ⟨n, rfl, rfl⟩) | (go_at_call 135; refine (refAngle_c (hq0.quo hp0) _).mono ?_; rintro e w' ⟨v, n, rfl, hv, rfl⟩) | (go_at_call 137; (with_reducible refine (signbit_c hx _).mono ?_); rw [HS.out]; rintro e w' ⟨n, rfl, rfl⟩) | (go_at_call 137; (with_reducible refine (signbit_c hy _).mono ?_); rw [HS2.out]; rintro e w' ⟨n, rfl, rfl⟩) | (go_at_call 92; refine (High_c _).mono ?_; rintro e w' ⟨r, n, rfl, hr, rfl⟩; obtain rfl := hr.eq_of (by decide +kernel)) | (go_at_call 136; refine (Low_c _).mono ?_; rintro e w' ⟨r, n, rfl, hr, rfl⟩; obtain rfl := hr.eq_of (by decide +kernel)))
            go_ret
            exact RetF.mk _ (by rw [HO.out, if_pos HS2.out, HA.out]; unfold backP; rw [if_pos rfl]; exact (Rep.cpiH.sub (((Rep.cpiH.quo Rep.two).sub (hv.sub (Rep.cpiL.quo Rep.two))).sub Rep.cpiL)).neg)
          · rw [c3] at t3
            rw [if_neg (by rw [c0]; simp), if_neg (by rw [i1, i2]; simp), if_pos c3] at hL
            rw [hL] at hA
            rw [hs] at hA
            have HA := Lib.hid hA
            clear hA hL
            have I1 := Lib.hid i1
            have I2 := Lib.hid i2
            have HS := Lib.hid hs
            have HS2 := Lib.hid hs2
            clear i1 i2 hs hs2 c0
            go_enter Tryd.func95, Tryd.ntmps95
            go_wp2_with (first | (go_at_call 68; refine (abs_c (by with_reducible first | exact hy | exact hx) _).mono ?_; (first | (rintro e w' ⟨r, n, rfl, hr, rfl⟩; rw [← HP.out] at hr; obtain rfl : P = r := (hr.eq_of NP.out).symm) | (rintro e w' ⟨r, n, rfl, hr, rfl⟩; rw [← HQ.out] at hr; obtain rfl : Q = r := (hr.eq_of NQ.out).symm))) | (go_at_call 69; (with_reducible refine (isInf_c hp0 _ _).mono ?_); rw [I1.out]; rintro e w' ⟨n, rfl, rfl⟩) | (go_at_call 69; (with_reducible refine (isInf_c hq0 _ _).mono ?_); rw [I2.out]; rintro e w' ⟨n, rfl, rfl⟩) | (go_at_call 135; refine (refAngle_c (hp0.quo hq0) _).mono ?_; rintro e w' ⟨v, n, rfl, hv, rfl⟩) | (go_at_call 137; (with_reducible refine (signbit_c hx _).mono ?_); rw [HS.out]; rintro e w' ⟨n, rfl, rfl⟩) | (go_at_call 137; (with_reducible refine (signbit_c hy _).mono ?_); rw [HS2.out]; rintro e w' ⟨n, rfl, rfl⟩) | (go_at_call 92; refine (High_c _).mono ?_; rintro e w' ⟨r, n, rfl, hr, rfl⟩; obtain rfl := hr.eq_of (by decide +kernel)) | (go_at_call 136; refine (Low_c _).mono ?_; rintro e w' ⟨r, n, rfl, hr, rfl⟩; obtain rfl := hr.eq_of (by decide +kernel)))
            go_ret
            exact RetF.mk _ (by rw [HO.out, if_pos HS2.out, HA.out]; unfold backP; rw [if_pos rfl]; exact (Rep.cpiH.sub ((hv).sub Rep.cpiL)).neg)
        · rw [c0] at t0
          rw [if_pos c0] at hL
          rw [hL] at hA
          rw [hs] at hA
          have HA := Lib.hid hA
          clear hA hL
          have I1 := Lib.hid i1
          have I2 := Lib.hid i2
          have HS := Lib.hid hs
          have HS2 := Lib.hid hs2
          clear i1 i2 hs hs2 c0
          go_enter Tryd.func95, Tryd.ntmps95
          go_wp2_with (first | (go_at_call 68; refine (abs_c (by with_reducible first | exact hy | exact hx) _).mono ?_; (first | (rintro e w' ⟨r, n, rfl, hr, rfl⟩; rw [← HP.out] at hr; obtain rfl : P = r := (hr.eq_of NP.out).symm) | (rintro e w' ⟨r, n, rfl, hr, rfl⟩; rw [← HQ.out] at hr; obtain rfl : Q = r := (hr.eq_of NQ.out).symm))) | (go_at_call 69; (with_reducible refine (isInf_c hp0 _ _).mono ?_); rw [I1.out]; rintro e w' ⟨n, rfl, rfl⟩) | (go_at_call 69; (with_reducible refine (isInf_c hq0 _ _).mono ?_); rw [I2.out]; rintro e w' ⟨n, rfl, rfl⟩) | (go_at_call 135; refine (refAngle_c (hp0.quo hq0) _).mono ?_; rintro e w' ⟨v, n, rfl, hv, rfl⟩) | (go_at_call 137; (with_reducible refine (signbit_c hx _).mono ?_); rw [HS.out]; rintro e w' ⟨n, rfl, rfl⟩) | (go_at_call 137; (with_reducible refine (signbit_c hy _).mono ?_); rw [HS2.out]; rintro e w' ⟨n, rfl, rfl⟩) | (go_at_call 92; refine (High_c _).mono ?_; rintro e w' ⟨r, n, rfl, hr, rfl⟩; obtain rfl := hr.eq_of (by decide +kernel)) | (go_at_call 136; refine (Low_c _).mono ?_; rintro e w' ⟨r, n, rfl, hr, rfl⟩; obtain rfl := hr.eq_of (by decide +kernel)))
          go_ret
          exact RetF.mk _ (by rw [HO.out, if_pos HS2.out, HA.out]; unfold backP; rw [if_pos rfl]; exact (Rep.cpiH.sub ((Rep.c0).sub Rep.cpiL)).neg)
      · cases c0 : feq P 0
        · rw [c0] at t0
          cases c3 : fle P Q
          · rw [c3] at t3
            rw [if_neg (by rw [c0]; simp), if_neg (by rw [i1, i2]; simp), if_neg (by rw [c3]; simp)] at hL
            rw [hL] at hA
            rw [hs] at hA
            have HA := Lib.hid hA
            clear hA hL
            have I1 := Lib.hid i1
            have I2 := Lib.hid i2
            have HS := Lib.hid hs
            have HS2 := Lib.hid hs2
            clear i1 i2 hs hs2 c0
            go_enter Tryd.func95, Tryd.ntmps95
            go_wp2_with (first | (go_at_call 68; refine (abs_c (by with_reducible first | exact hy | exact hx) _).mono ?_; (first | (rintro e w' ⟨r, n, rfl, hr, rfl⟩; rw [← HP.out] at hr; obtain rfl : P = r := (hr.eq_of NP.out).symm) | (rintro e w' ⟨r, n, rfl, hr, rfl⟩; rw [← HQ.out] at hr; obtain rfl : Q = r := (hr.eq_of NQ.out).symm))) | (go_at_call 69; (with_reducible refine (isInf_c hp0 _ _).mono ?_); rw [I1.out]; rintro e w' ⟨n, rfl, rfl⟩) | (go_at_call 69; (with_reducible refine (isInf_c hq0 _ _).mono ?_); rw [I2.out]; rintro e w' ⟨n, rfl, rfl⟩) | (go_at_call 135; refine (refAngle_c (hq0.quo hp0) _).mono ?_; rintro e w' ⟨v, n, rfl, hv, rfl⟩) | (go_at_call 137; (with_reducible refine (signbit_c hx _).mono ?_); rw [HS.out]; rintro e w' ⟨n, rfl, rfl⟩) | (go_at_call 137; (with_reducible refine (signbit_c hy _).mono ?_); rw [HS2.out]; rintro e w' ⟨n, rfl, rfl⟩) | (go_at_call 92; refine (High_c _).mono ?_; rintro e w' ⟨r, n, rfl, hr, rfl⟩; obtain rfl := hr.eq_of (by decide +kernel)) | (go_at_call 136; refine (Low_c _).mono ?_; rintro e w' ⟨r, n, rfl, hr, rfl⟩; obtain rfl := hr.eq_of (by decide +kernel)))
            go_ret
            exact RetF.mk _ (by rw [HO.out, if_pos HS2.out, HA.out]; unfold backP; rw [if_pos rfl]; exact (Rep.cpiH.sub (((Rep.cpiH.quo Rep.two).sub (hv.sub (Rep.cpiL.quo Rep.two))).sub Rep.cpiL)).neg)
          · rw [c3] at t3
            rw [if_neg (by rw [c0]; simp), if_neg (by rw [i1, i2]; simp), if_pos c3] at hL
            rw [hL] at hA
            rw [hs] at hA
            have HA := Lib.hid hA
            clear hA hL
            have I1 := Lib.hid i1
            have I2 := Lib.hid i2
            have HS := Lib.hid hs
            have HS2 := Lib.hid hs2
            clear i1 i2 hs hs2 c0
            go_enter Tryd.func95, Tryd.ntmps95
            go_wp2_with (first | (go_at_call 68; refine (abs_c (by with_reducible first | exact hy | exact hx) _).mono ?_; (first | (rintro e w' ⟨r, n, rfl, hr, rfl⟩; rw [← HP.out] at hr; obtain rfl : P = r := (hr.eq_of NP.out).symm) | (rintro e w' ⟨r, n, rfl, hr, rfl⟩; rw [← HQ.out] at hr; obtain rfl : Q = r := (hr.eq_of NQ.out).symm))) | (go_at_call 69; (with_reducible refine (isInf_c hp0 _ _).mono ?_); rw [I1.out]; rintro e w' ⟨n, rfl, rfl⟩) | (go_at_call 69; (with_reducible refine (isInf_c hq0 _ _).mono ?_); rw [I2.out]; rintro e w' ⟨n, rfl, rfl⟩) | (go_at_call 135; refine (refAngle_c (hp0.quo hq0) _).mono ?_; rintro e w' ⟨v, n, rfl, hv, rfl⟩) | (go_at_call 137; (with_reducible refine (signbit_c hx _).mono ?_); rw [HS.out]; rintro e w' ⟨n, rfl, rfl⟩) | (go_at_call 137; (with_reducible refine (signbit_c hy _).mono ?_); rw [HS2.out]; rintro e w' ⟨n, rfl, rfl⟩) | (go_at_call 92; refine (High_c _).mono ?_; rintro e w' ⟨r, n, rfl, hr, rfl⟩; obtain rfl := hr.eq_of (by decide +kernel)) | (go_at_call 136; refine (Low_c _).mono ?_; rintro e w' ⟨r, n, rfl, hr, rfl⟩; obtain rfl := hr.eq_of (by decide +kernel)))
            go_ret
            exact RetF.mk _ (by rw [HO.out, if_pos HS2.out, HA.out]; unfold backP; rw [if_pos rfl]; exact (Rep.cpiH.sub ((hv).sub Rep.cpiL)).neg)
        · rw [c0] at t0
          rw [if_pos c0] at hL
          rw [hL] at hA
          rw [hs] at hA
          have HA := Lib.hid hA
          clear hA hL
          have I1 := Lib.hid i1
          have I2 := Lib.hid i2
          have HS := Lib.hid hs
          have HS2 := Lib.hid hs2
          clear i1 i2 hs hs2 c0
          go_enter Tryd.func95, Tryd.ntmps95
          go_wp2_with (first | (go_at_call 68; refine (abs_c (by with_reducible first | exact hy | exact hx) _).mono ?_; (first | (rintro e w' ⟨r, n, rfl, hr, rfl⟩; rw [← HP.out] at hr; obtain rfl : P = r := (hr.eq_of NP.out).symm) | (rintro e w' ⟨r, n, rfl, hr, rfl⟩; rw [← HQ.out] at hr; obtain rfl : Q = r := (hr.eq_of NQ.out).symm))) | (go_at_call 69; (with_reducible refine (isInf_c hp0 _ _).mono ?_); rw [I1.out]; rintro e w' ⟨n, rfl, rfl⟩) | (go_at_call 69; (with_reducible refine (isInf_c hq0 _ _).mono ?_); rw [I2.out]; rintro e w' ⟨n, rfl, rfl⟩) | (go_at_call 135; refine (refAngle_c (hp0.quo hq0) _).mono ?_; rintro e w' ⟨v, n, rfl, hv, rfl⟩) | (go_at_call 137; (with_reducible refine (signbit_c hx _).mono ?_); rw [HS.out]; rintro e w' ⟨n, rfl, rfl⟩) | (go_at_call 137; (with_reducible refine (signbit_c hy _).mono ?_); rw [HS2.out]; rintro e w' ⟨n, rfl, rfl⟩) | (go_at_call 92; refine (High_c _).mono ?_; rintro e w' ⟨r, n, rfl, hr, rfl⟩; obtain rfl := hr.eq_of (by decide +kernel)) | (go_at_call 136; refine (Low_c _).mono ?_; rintro e w' ⟨r, n, rfl, hr, rfl⟩; obtain rfl := hr.eq_of (by decide +kernel)))
          go_ret
          exact RetF.mk _ (by rw [HO.out, if_pos HS2.out, HA.out]; unfold backP; rw [if_pos rfl]; exact (Rep.cpiH.sub ((Rep.c0).sub Rep.cpiL)).neg)
      · cases c0 : feq P 0
        · rw [c0] at t0
          rw [if_neg (by rw [c0]; simp), if_pos (by rw [i1, i2]; rfl)] at hL
          rw [hL] at hA
          rw [hs] at hA
          have HA := Lib.hid hA
          clear hA hL
          have I1 := Lib.hid i1
          have I2 := Lib.hid i2
          have HS := Lib.hid hs
          have HS2 := Lib.hid hs2
          clear i1 i2 hs hs2 c0
          go_enter Tryd.func95, Tryd.ntmps95
          go_wp2_with (first | (go_at_call 68; refine (abs_c (by with_reducible first | exact hy | exact hx) _).mono ?_; (first | (rintro e w' ⟨r, n, rfl, hr, rfl⟩; rw [← HP.out] at hr; obtain rfl : P = r := (hr.eq_of NP.out).symm) | (rintro e w' ⟨r, n, rfl, hr, rfl⟩; rw [← HQ.out] at hr; obtain rfl : Q = r := (hr.eq_of NQ.out).symm))) | (go_at_call 69; (with_reducible refine (isInf_c hp0 _ _).mono ?_); rw [I1.out]; rintro e w' ⟨n, rfl, rfl⟩) | (go_at_call 69; (with_reducible refine (isInf_c hq0 _ _).mono ?_); rw [I2.out]; rintro e w' ⟨n, rfl, rfl⟩) | (go_at_call 135; refine (refAngle_c (hp0.quo hq0) _).mono ?_; rintro e w' ⟨v, n, rfl, hv, rfl⟩) | (go_at_call 137; (with_reducible refine (signbit_c hx _).mono ?_); rw [HS.out]; rintro e w' ⟨n, rfl, rfl⟩) | (go_at_call 137; (with_reducible refine (signbit_c hy _).mono ?_); rw [HS2.out]; rintro e w' ⟨n, rfl, rfl⟩) | (go_at_call 92; refine (High_c _).mono ?_; rintro e w' ⟨r, n, rfl, hr, rfl⟩; obtain rfl := hr.eq_of (by decide +kernel)) | (go_at_call 136; refine (Low_c _).mono ?_; rintro e w' ⟨r, n, rfl, hr, rfl⟩; obtain rfl := hr.eq_of (by decide +kernel)))
          go_ret
          exact RetF.mk _ (by rw [HO.out, if_pos HS2.out, HA.out]; unfold backP; rw [if_pos rfl]; exact (Rep.cpiH.sub ((Rep.cpiH.quo Rep.c4).sub Rep.cpiL)).neg)
        · rw [c0] at t0
          rw [if_pos c0] at hL
          rw [hL] at hA
          rw [hs] at hA
          have HA := Lib.hid hA
          clear hA hL
          have I1 := Lib.hid i1
          have I2 := Lib.hid i2
          have HS := Lib.hid hs
          have HS2 := Lib.hid hs2
          clear i1 i2 hs hs2 c0
          go_enter Tryd.func95, Tryd.ntmps95
          go_wp2_with (first | (go_at_call 68; refine (abs_c (by with_reducible first | exact hy | exact hx) _).mono ?_; (first | (rintro e w' ⟨r, n, rfl, hr, rfl⟩; rw [← HP.out] at hr; obtain rfl : P = r := (hr.eq_of NP.out).symm) | (rintro e w' ⟨r, n, rfl, hr, rfl⟩; rw [← HQ.out] at hr; obtain rfl : Q = r := (hr.eq_of NQ.out).symm))) | (go_at_call 69; (with_reducible refine (isInf_c hp0 _ _).mono ?_); rw [I1.out]; rintro e w' ⟨n, rfl, rfl⟩) | (go_at_call 69; (with_reducible refine (isInf_c hq0 _ _).mono ?_); rw [I2.out]; rintro e w' ⟨n, rfl, rfl⟩) | (go_at_call 135; refine (refAngle_c (hp0.quo hq0) _).mono ?_; rintro e w' ⟨v, n, rfl, hv, rfl⟩) | (go_at_call 137; (with_reducible refine (signbit_c hx _).mono ?_); rw [HS.out]; rintro e w' ⟨n, rfl, rfl⟩) | (go_at_call 137; (with_reducible refine (signbit_c hy _).mono ?_); rw [HS2.out]; rintro e w' ⟨n, rfl, rfl⟩) | (go_at_call 92; refine (High_c _).mono ?_; rintro e w' ⟨r, n, rfl, hr, rfl⟩; obtain rfl := hr.eq_of (by decide +kernel)) | (go_at_call 136; refine (Low_c _).mono ?_; rintro e w' ⟨r, n, rfl, hr, rfl⟩; obtain rfl := hr.eq_of (by decide +kernel)))
          go_ret
          exact RetF.mk _ (by rw [HO.out, if_pos HS2.out, HA.out]; unfold backP; rw [if_pos rfl]; exact (Rep.cpiH.sub ((Rep.c0).sub Rep.cpiL)).neg)
    · obtain rfl := hy.eq_of hn
      rw [hn] at ny
      rw [hm] at nx
      have HM := Lib.hid hm
      clear hm hn
      go_enter Tryd.func95, Tryd.ntmps95
      go_wp2_with go_in
      go_ret
      have hR : Rep _ (ofR y f) := (by unfold ofR; rw [HM.out, if_pos (by simp)]; exact Rep.nanC)
      first | exact RetF.mk0 hR | exact RetF.mk _ hR
  · rw [hn] at ny
    have HN := Lib.hid hn
    clear hn nx
    go_enter Tryd.func95, Tryd.ntmps95
    go_wp2_with go_in
    go_ret
    · have hR : Rep _ (ofR g f) := (by unfold ofR; rw [HN.out, if_pos (by simp)]; exact Rep.nanC)
      first | exact RetF.mk0 hR | exact RetF.mk _ hR
end
section
variable {x f : Nat} (hx : Rep x f) (w : World)
include hx
end
end Go.Proofs.YtndknkdfbjfjcaaDoor
