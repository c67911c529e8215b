/- The angle of a place: what the program's and the document's steps come to. No condition. -/
import Derived.Test.YtndknkdfbjfjcaaDoorAng5
namespace Go.Proofs.YtndknkdfbjfjcaaDoor
open Go.RowKit
set_option linter.unusedVariables false
set_option linter.unusedSimpArgs false
set_option maxRecDepth 100000
set_option maxHeartbeats 2000000

def cH4 : Nat := fdiv 4614256656552045848 4616189618054758400
def cH2 : Nat := fdiv 4614256656552045848 4611686018427387904
def cL2 : Nat := fdiv 4368955796522032135 4611686018427387904
def placeP (p q : Nat) : Nat := if feq p 0 then 0 else if feq p q && isInf p 1 then cH4 else if fle p q then coreF (fdiv p q) else fsub cH2 (fsub (coreF (fdiv q p)) cL2)
def backP (s : Bool) (b : Nat) : Nat := if s then fsub 4614256656552045848 (fsub b 4368955796522032135) else b
def ofAbs (y x : Nat) : Nat := backP (sgn x) (placeP (fabs y) (fabs x))
def ofF (y x : Nat) : Nat := if isN y || isN x then nanB else signed (ofAbs y x) y
def ofR (y x : Nat) : Nat := if isN y || isN x then nanB else if sgn y then fneg (ofAbs y x) else ofAbs y x
theorem sval_inf_only {q : Nat} (hl : q < 18446744073709551616) (hn : isN q = false) (h : sval q = sval 9218868437227405312) : q = 9218868437227405312 := by
  have h1 := mval_le_inf hn
  rw [sval_infP] at h
  unfold sval at h
  have h0 : 0 < mval 9218868437227405312 := by decide +kernel
  generalize hM : mval 9218868437227405312 = M at *
  cases hs : sgn q
  · rw [hs, if_neg (by simp)] at h
    have h2 : mval 9218868437227405312 ≤ mval (rung q) := by omega
    have h3 := mval_le_iff.1 h2
    have h4 := (notN_iff q).1 hn
    unfold sgn at hs; unfold rung at h3 h4
    simp at hs
    omega
  · rw [hs, if_pos rfl] at h; omega
theorem feq_inf {p q : Nat} (hp : p < 18446744073709551616) (hq : q < 18446744073709551616) (hn : isN p = false) (hm : isN q = false) : (isInf p 1 && isInf q 1) = (feq p q && isInf p 1) := by
  rw [infP_iff hp hn, infP_iff hq hm, feq_eq, hn, hm, Bool.eq_iff_iff]
  simp only [Bool.and_eq_true, Bool.not_false, Bool.true_and, decide_eq_true_eq]
  constructor
  · rintro ⟨rfl, rfl⟩; exact ⟨rfl, rfl⟩
  · rintro ⟨h1, rfl⟩; exact ⟨rfl, sval_inf_only hq hm h1.symm⟩
theorem Rep.cH4 : Rep cH4 cH4 := Rep.self (by decide +kernel) (by decide +kernel)
section
variable {x y z f g h : Nat} (hx : Rep x f) (hy : Rep y g) (w : World)
include hx hy
theorem of_c : Calls Tryd.prog 94 #[.float .f64 y, .float .f64 x] w (RetF (ofF g f) w) := by
  have ny := hy.none'
  have nx := hx.none'
  cases hn : isN g
  · cases hm : isN f
    · obtain rfl := hy.eq_of hn
      obtain rfl := hx.eq_of hm
      rw [hn] at ny
      rw [hm] at nx
      have HN : RowKit.Hid (isN y = false) := Lib.hid hn
      have HM : RowKit.Hid (isN x = false) := Lib.hid hm
      have hY := hy.flt
      have hX := hx.flt
      have pn : isN (fabs y) = false := by rw [isN_abs]; exact hn
      have qn : isN (fabs x) = false := by rw [isN_abs]; exact hm
      have hp0 : Rep (fabs y) (fabs y) := by rw [fabs_of hn]; exact (by have := hy.abs; rw [fabs_of hn] at this; exact this)
      have hq0 : Rep (fabs x) (fabs x) := by rw [fabs_of hm]; exact (by have := hx.abs; rw [fabs_of hm] at this; exact this)
      have hO : ofF y x = signed (ofAbs y x) y := by unfold ofF; rw [hn, hm, if_neg (by simp)]
      have hA : ofAbs y x = backP (sgn x) (placeP (fabs y) (fabs x)) := rfl
      have hmin : minus x = sgn x := by unfold minus; rw [hm]; rfl
      clear hn hm hY hX
      obtain ⟨P, hP⟩ : ∃ P, P = fabs y := ⟨_, rfl⟩
      obtain ⟨Q, hQ⟩ : ∃ Q, Q = fabs x := ⟨_, rfl⟩
      have HP := Lib.hid hP
      have HQ := Lib.hid hQ
      rw [← hP] at pn hp0 hA
      rw [← hQ] at qn hq0 hA
      clear hP hQ
      have NP := Lib.hid pn
      have NQ := Lib.hid qn
      clear pn qn
      have t0 := hp0.eq' Rep.c0
      have t1 := hp0.eq' hq0
      have t3 := hp0.le' hq0
      have hL : placeP P Q = if feq P 0 then 0 else if feq P Q && isInf P 1 then fdiv 4614256656552045848 4616189618054758400 else if fle P Q then coreF (fdiv P Q) else fsub (fdiv 4614256656552045848 4611686018427387904) (fsub (coreF (fdiv Q P)) (fdiv 4368955796522032135 4611686018427387904)) := by unfold placeP cH4 cH2 cL2; rfl
      have HO := Lib.hid hO
      clear hO
      cases hs : sgn x
      · cases c0 : feq P 0
        · rw [c0] at t0
          cases c1 : feq P Q
          · rw [c1] at t1
            cases c3 : fle P Q
            · rw [c3, t1, Bool.or_false] at t3
              rw [if_neg (by rw [c0]; simp), if_neg (by rw [c1]; simp), if_neg (by rw [c3]; simp)] at hL
              rw [hL] at hA
              rw [hs] at hmin hA
              have HA := Lib.hid hA
              clear hA hL
              have HMi := Lib.hid hmin
              clear hmin
              have HS := Lib.hid hs
              clear hs
              clear c0 c1 c3
              go_enter Tryd.func94, Tryd.ntmps94
              go_wp2_with (first | (go_at_call 68; refine (abs_c (by with_reducible first | exact hy | exact hx) _).mono ?_; (first | (rintro e w' ⟨r, n, rfl, hr, rfl⟩; rw [← HP.out] at hr; obtain rfl : P = r := (hr.eq_of NP.out).symm) | (rintro e w' ⟨r, n, rfl, hr, rfl⟩; rw [← HQ.out] at hr; obtain rfl : Q = r := (hr.eq_of NQ.out).symm))) | (go_at_call 69; refine (isInf_c hp0 _ _).mono ?_; rw [c2]; rintro e w' ⟨n, rfl, rfl⟩) | (go_at_call 134; refine (core_c (hq0.quo hp0) _).mono ?_; rintro e w' ⟨v, n, rfl, hv, rfl⟩) | (go_at_call 110; refine (minus_c hx _).mono ?_; rw [HMi.out]; rintro e w' ⟨n, rfl, rfl⟩) | (go_at_call 70; refine (signed_c ((Rep.cpiH.quo Rep.two).sub (hv.sub (Rep.cpiL.quo Rep.two))) hy _).mono ?_; rintro e w' ⟨u, n, rfl, hu, rfl⟩) | (go_at_call 131; refine (pi_c _).mono ?_; rintro e w' ⟨r1, r2, n, rfl, h1, h2, rfl⟩; obtain rfl := h1.eq_of (by decide +kernel); obtain rfl := h2.eq_of (by decide +kernel)))
              go_ret
              exact RetF.mk _ (by rw [HO.out, HA.out]; unfold backP; rw [if_neg (by simp)]; exact hu)
            · rw [c3, t1, Bool.or_false] at t3
              rw [if_neg (by rw [c0]; simp), if_neg (by rw [c1]; simp), if_pos c3] at hL
              rw [hL] at hA
              rw [hs] at hmin hA
              have HA := Lib.hid hA
              clear hA hL
              have HMi := Lib.hid hmin
              clear hmin
              have HS := Lib.hid hs
              clear hs
              clear c0 c1 c3
              go_enter Tryd.func94, Tryd.ntmps94
              go_wp2_with (first | (go_at_call 68; refine (abs_c (by with_reducible first | exact hy | exact hx) _).mono ?_; (first | (rintro e w' ⟨r, n, rfl, hr, rfl⟩; rw [← HP.out] at hr; obtain rfl : P = r := (hr.eq_of NP.out).symm) | (rintro e w' ⟨r, n, rfl, hr, rfl⟩; rw [← HQ.out] at hr; obtain rfl : Q = r := (hr.eq_of NQ.out).symm))) | (go_at_call 69; refine (isInf_c hp0 _ _).mono ?_; rw [c2]; rintro e w' ⟨n, rfl, rfl⟩) | (go_at_call 134; refine (core_c (hp0.quo hq0) _).mono ?_; rintro e w' ⟨v, n, rfl, hv, rfl⟩) | (go_at_call 110; refine (minus_c hx _).mono ?_; rw [HMi.out]; rintro e w' ⟨n, rfl, rfl⟩) | (go_at_call 70; refine (signed_c (hv) hy _).mono ?_; rintro e w' ⟨u, n, rfl, hu, rfl⟩) | (go_at_call 131; refine (pi_c _).mono ?_; rintro e w' ⟨r1, r2, n, rfl, h1, h2, rfl⟩; obtain rfl := h1.eq_of (by decide +kernel); obtain rfl := h2.eq_of (by decide +kernel)))
              go_ret
              exact RetF.mk _ (by rw [HO.out, HA.out]; unfold backP; rw [if_neg (by simp)]; exact hu)
          · rw [c1] at t1
            cases c2 : isInf P 1
            · cases c3 : fle P Q
              · exfalso
                rw [c3, t1, Bool.or_true] at t3
                cases t3
              · clear t3
                rw [if_neg (by rw [c0]; simp), if_neg (by rw [c2]; simp), if_pos c3] at hL
                rw [hL] at hA
                rw [hs] at hmin hA
                have HA := Lib.hid hA
                clear hA hL
                have HMi := Lib.hid hmin
                clear hmin
                have HS := Lib.hid hs
                clear hs
                clear c0 c1 c3
                go_enter Tryd.func94, Tryd.ntmps94
                go_wp2_with (first | (go_at_call 68; refine (abs_c (by with_reducible first | exact hy | exact hx) _).mono ?_; (first | (rintro e w' ⟨r, n, rfl, hr, rfl⟩; rw [← HP.out] at hr; obtain rfl : P = r := (hr.eq_of NP.out).symm) | (rintro e w' ⟨r, n, rfl, hr, rfl⟩; rw [← HQ.out] at hr; obtain rfl : Q = r := (hr.eq_of NQ.out).symm))) | (go_at_call 69; refine (isInf_c hp0 _ _).mono ?_; rw [c2]; rintro e w' ⟨n, rfl, rfl⟩) | (go_at_call 134; refine (core_c (hp0.quo hq0) _).mono ?_; rintro e w' ⟨v, n, rfl, hv, rfl⟩) | (go_at_call 110; refine (minus_c hx _).mono ?_; rw [HMi.out]; rintro e w' ⟨n, rfl, rfl⟩) | (go_at_call 70; refine (signed_c (hv) hy _).mono ?_; rintro e w' ⟨u, n, rfl, hu, rfl⟩) | (go_at_call 131; refine (pi_c _).mono ?_; rintro e w' ⟨r1, r2, n, rfl, h1, h2, rfl⟩; obtain rfl := h1.eq_of (by decide +kernel); obtain rfl := h2.eq_of (by decide +kernel)))
                go_ret
                exact RetF.mk _ (by rw [HO.out, HA.out]; unfold backP; rw [if_neg (by simp)]; exact hu)
            · rw [if_neg (by rw [c0]; simp), if_pos (by rw [c1, c2]; rfl)] at hL
              rw [hL] at hA
              rw [hs] at hmin hA
              have HA := Lib.hid hA
              clear hA hL
              have HMi := Lib.hid hmin
              clear hmin
              have HS := Lib.hid hs
              clear hs
              clear c0 c1
              go_enter Tryd.func94, Tryd.ntmps94
              go_wp2_with (first | (go_at_call 68; refine (abs_c (by with_reducible first | exact hy | exact hx) _).mono ?_; (first | (rintro e w' ⟨r, n, rfl, hr, rfl⟩; rw [← HP.out] at hr; obtain rfl : P = r := (hr.eq_of NP.out).symm) | (rintro e w' ⟨r, n, rfl, hr, rfl⟩; rw [← HQ.out] at hr; obtain rfl : Q = r := (hr.eq_of NQ.out).symm))) | (go_at_call 69; refine (isInf_c hp0 _ _).mono ?_; rw [c2]; rintro e w' ⟨n, rfl, rfl⟩) | (go_at_call 134; refine (core_c (hp0.quo hq0) _).mono ?_; rintro e w' ⟨v, n, rfl, hv, rfl⟩) | (go_at_call 110; refine (minus_c hx _).mono ?_; rw [HMi.out]; rintro e w' ⟨n, rfl, rfl⟩) | (go_at_call 70; refine (signed_c (Rep.cpiH.quo Rep.c4) hy _).mono ?_; rintro e w' ⟨u, n, rfl, hu, rfl⟩) | (go_at_call 131; refine (pi_c _).mono ?_; rintro e w' ⟨r1, r2, n, rfl, h1, h2, rfl⟩; obtain rfl := h1.eq_of (by decide +kernel); obtain rfl := h2.eq_of (by decide +kernel)))
              go_ret
              exact RetF.mk _ (by rw [HO.out, HA.out]; unfold backP; rw [if_neg (by simp)]; exact hu)
        · rw [c0] at t0
          rw [if_pos c0] at hL
          rw [hL] at hA
          rw [hs] at hmin hA
          have HA := Lib.hid hA
          clear hA hL
          have HMi := Lib.hid hmin
          clear hmin
          have HS := Lib.hid hs
          clear hs
          clear c0
          go_enter Tryd.func94, Tryd.ntmps94
          go_wp2_with (first | (go_at_call 68; refine (abs_c (by with_reducible first | exact hy | exact hx) _).mono ?_; (first | (rintro e w' ⟨r, n, rfl, hr, rfl⟩; rw [← HP.out] at hr; obtain rfl : P = r := (hr.eq_of NP.out).symm) | (rintro e w' ⟨r, n, rfl, hr, rfl⟩; rw [← HQ.out] at hr; obtain rfl : Q = r := (hr.eq_of NQ.out).symm))) | (go_at_call 69; refine (isInf_c hp0 _ _).mono ?_; rw [c2]; rintro e w' ⟨n, rfl, rfl⟩) | (go_at_call 134; refine (core_c (hp0.quo hq0) _).mono ?_; rintro e w' ⟨v, n, rfl, hv, rfl⟩) | (go_at_call 110; refine (minus_c hx _).mono ?_; rw [HMi.out]; rintro e w' ⟨n, rfl, rfl⟩) | (go_at_call 70; refine (signed_c (Rep.c0) hy _).mono ?_; rintro e w' ⟨u, n, rfl, hu, rfl⟩) | (go_at_call 131; refine (pi_c _).mono ?_; rintro e w' ⟨r1, r2, n, rfl, h1, h2, rfl⟩; obtain rfl := h1.eq_of (by decide +kernel); obtain rfl := h2.eq_of (by decide +kernel)))
          go_ret
          exact RetF.mk _ (by rw [HO.out, HA.out]; unfold backP; rw [if_neg (by simp)]; exact hu)
      · cases c0 : feq P 0
        · rw [c0] at t0
          cases c1 : feq P Q
          · rw [c1] at t1
            cases c3 : fle P Q
            · rw [c3, t1, Bool.or_false] at t3
              rw [if_neg (by rw [c0]; simp), if_neg (by rw [c1]; simp), if_neg (by rw [c3]; simp)] at hL
              rw [hL] at hA
              rw [hs] at hmin hA
              have HA := Lib.hid hA
              clear hA hL
              have HMi := Lib.hid hmin
              clear hmin
              have HS := Lib.hid hs
              clear hs
              clear c0 c1 c3
              go_enter Tryd.func94, Tryd.ntmps94
              go_wp2_with (first | (go_at_call 68; refine (abs_c (by with_reducible first | exact hy | exact hx) _).mono ?_; (first | (rintro e w' ⟨r, n, rfl, hr, rfl⟩; rw [← HP.out] at hr; obtain rfl : P = r := (hr.eq_of NP.out).symm) | (rintro e w' ⟨r, n, rfl, hr, rfl⟩; rw [← HQ.out] at hr; obtain rfl : Q = r := (hr.eq_of NQ.out).symm))) | (go_at_call 69; refine (isInf_c hp0 _ _).mono ?_; rw [c2]; rintro e w' ⟨n, rfl, rfl⟩) | (go_at_call 134; refine (core_c (hq0.quo hp0) _).mono ?_; rintro e w' ⟨v, n, rfl, hv, rfl⟩) | (go_at_call 110; refine (minus_c hx _).mono ?_; rw [HMi.out]; rintro e w' ⟨n, rfl, rfl⟩) | (go_at_call 70; refine (signed_c (Rep.cpiH.sub (((Rep.cpiH.quo Rep.two).sub (hv.sub (Rep.cpiL.quo Rep.two))).sub Rep.cpiL)) hy _).mono ?_; rintro e w' ⟨u, n, rfl, hu, rfl⟩) | (go_at_call 131; refine (pi_c _).mono ?_; rintro e w' ⟨r1, r2, n, rfl, h1, h2, rfl⟩; obtain rfl := h1.eq_of (by decide +kernel); obtain rfl := h2.eq_of (by decide +kernel)))
              go_ret
              exact RetF.mk _ (by rw [HO.out, HA.out]; unfold backP; rw [if_pos rfl]; exact hu)
            · rw [c3, t1, Bool.or_false] at t3
              rw [if_neg (by rw [c0]; simp), if_neg (by rw [c1]; simp), if_pos c3] at hL
              rw [hL] at hA
              rw [hs] at hmin hA
              have HA := Lib.hid hA
              clear hA hL
              have HMi := Lib.hid hmin
              clear hmin
              have HS := Lib.hid hs
              clear hs
              clear c0 c1 c3
              go_enter Tryd.func94, Tryd.ntmps94
              go_wp2_with (first | (go_at_call 68; refine (abs_c (by with_reducible first | exact hy | exact hx) _).mono ?_; (first | (rintro e w' ⟨r, n, rfl, hr, rfl⟩; rw [← HP.out] at hr; obtain rfl : P = r := (hr.eq_of NP.out).symm) | (rintro e w' ⟨r, n, rfl, hr, rfl⟩; rw [← HQ.out] at hr; obtain rfl : Q = r := (hr.eq_of NQ.out).symm))) | (go_at_call 69; refine (isInf_c hp0 _ _).mono ?_; rw [c2]; rintro e w' ⟨n, rfl, rfl⟩) | (go_at_call 134; refine (core_c (hp0.quo hq0) _).mono ?_; rintro e w' ⟨v, n, rfl, hv, rfl⟩) | (go_at_call 110; refine (minus_c hx _).mono ?_; rw [HMi.out]; rintro e w' ⟨n, rfl, rfl⟩) | (go_at_call 70; refine (signed_c (Rep.cpiH.sub ((hv).sub Rep.cpiL)) hy _).mono ?_; rintro e w' ⟨u, n, rfl, hu, rfl⟩) | (go_at_call 131; refine (pi_c _).mono ?_; rintro e w' ⟨r1, r2, n, rfl, h1, h2, rfl⟩; obtain rfl := h1.eq_of (by decide +kernel); obtain rfl := h2.eq_of (by decide +kernel)))
              go_ret
              exact RetF.mk _ (by rw [HO.out, HA.out]; unfold backP; rw [if_pos rfl]; exact hu)
          · rw [c1] at t1
            cases c2 : isInf P 1
            · cases c3 : fle P Q
              · exfalso
                rw [c3, t1, Bool.or_true] at t3
                cases t3
              · clear t3
                rw [if_neg (by rw [c0]; simp), if_neg (by rw [c2]; simp), if_pos c3] at hL
                rw [hL] at hA
                rw [hs] at hmin hA
                have HA := Lib.hid hA
                clear hA hL
                have HMi := Lib.hid hmin
                clear hmin
                have HS := Lib.hid hs
                clear hs
                clear c0 c1 c3
                go_enter Tryd.func94, Tryd.ntmps94
                go_wp2_with (first | (go_at_call 68; refine (abs_c (by with_reducible first | exact hy | exact hx) _).mono ?_; (first | (rintro e w' ⟨r, n, rfl, hr, rfl⟩; rw [← HP.out] at hr; obtain rfl : P = r := (hr.eq_of NP.out).symm) | (rintro e w' ⟨r, n, rfl, hr, rfl⟩; rw [← HQ.out] at hr; obtain rfl : Q = r := (hr.eq_of NQ.out).symm))) | (go_at_call 69; refine (isInf_c hp0 _ _).mono ?_; rw [c2]; rintro e w' ⟨n, rfl, rfl⟩) | (go_at_call 134; refine (core_c (hp0.quo hq0) _).mono ?_; rintro e w' ⟨v, n, rfl, hv, rfl⟩) | (go_at_call 110; refine (minus_c hx _).mono ?_; rw [HMi.out]; rintro e w' ⟨n, rfl, rfl⟩) | (go_at_call 70; refine (signed_c (Rep.cpiH.sub ((hv).sub Rep.cpiL)) hy _).mono ?_; rintro e w' ⟨u, n, rfl, hu, rfl⟩) | (go_at_call 131; refine (pi_c _).mono ?_; rintro e w' ⟨r1, r2, n, rfl, h1, h2, rfl⟩; obtain rfl := h1.eq_of (by decide +kernel); obtain rfl := h2.eq_of (by decide +kernel)))
                go_ret
                exact RetF.mk _ (by rw [HO.out, HA.out]; unfold backP; rw [if_pos rfl]; exact hu)
            · rw [if_neg (by rw [c0]; simp), if_pos (by rw [c1, c2]; rfl)] at hL
              rw [hL] at hA
              rw [hs] at hmin hA
              have HA := Lib.hid hA
              clear hA hL
              have HMi := Lib.hid hmin
              clear hmin
              have HS := Lib.hid hs
              clear hs
              clear c0 c1
              go_enter Tryd.func94, Tryd.ntmps94
              go_wp2_with (first | (go_at_call 68; refine (abs_c (by with_reducible first | exact hy | exact hx) _).mono ?_; (first | (rintro e w' ⟨r, n, rfl, hr, rfl⟩; rw [← HP.out] at hr; obtain rfl : P = r := (hr.eq_of NP.out).symm) | (rintro e w' ⟨r, n, rfl, hr, rfl⟩; rw [← HQ.out] at hr; obtain rfl : Q = r := (hr.eq_of NQ.out).symm))) | (go_at_call 69; refine (isInf_c hp0 _ _).mono ?_; rw [c2]; rintro e w' ⟨n, rfl, rfl⟩) | (go_at_call 134; refine (core_c (hp0.quo hq0) _).mono ?_; rintro e w' ⟨v, n, rfl, hv, rfl⟩) | (go_at_call 110; refine (minus_c hx _).mono ?_; rw [HMi.out]; rintro e w' ⟨n, rfl, rfl⟩) | (go_at_call 70; refine (signed_c (Rep.cpiH.sub ((Rep.cpiH.quo Rep.c4).sub Rep.cpiL)) hy _).mono ?_; rintro e w' ⟨u, n, rfl, hu, rfl⟩) | (go_at_call 131; refine (pi_c _).mono ?_; rintro e w' ⟨r1, r2, n, rfl, h1, h2, rfl⟩; obtain rfl := h1.eq_of (by decide +kernel); obtain rfl := h2.eq_of (by decide +kernel)))
              go_ret
              exact RetF.mk _ (by rw [HO.out, HA.out]; unfold backP; rw [if_pos rfl]; exact hu)
        · rw [c0] at t0
          rw [if_pos c0] at hL
          rw [hL] at hA
          rw [hs] at hmin hA
          have HA := Lib.hid hA
          clear hA hL
          have HMi := Lib.hid hmin
          clear hmin
          have HS := Lib.hid hs
          clear hs
          clear c0
          go_enter Tryd.func94, Tryd.ntmps94
          go_wp2_with (first | (go_at_call 68; refine (abs_c (by with_reducible first | exact hy | exact hx) _).mono ?_; (first | (rintro e w' ⟨r, n, rfl, hr, rfl⟩; rw [← HP.out] at hr; obtain rfl : P = r := (hr.eq_of NP.out).symm) | (rintro e w' ⟨r, n, rfl, hr, rfl⟩; rw [← HQ.out] at hr; obtain rfl : Q = r := (hr.eq_of NQ.out).symm))) | (go_at_call 69; refine (isInf_c hp0 _ _).mono ?_; rw [c2]; rintro e w' ⟨n, rfl, rfl⟩) | (go_at_call 134; refine (core_c (hp0.quo hq0) _).mono ?_; rintro e w' ⟨v, n, rfl, hv, rfl⟩) | (go_at_call 110; refine (minus_c hx _).mono ?_; rw [HMi.out]; rintro e w' ⟨n, rfl, rfl⟩) | (go_at_call 70; refine (signed_c (Rep.cpiH.sub ((Rep.c0).sub Rep.cpiL)) hy _).mono ?_; rintro e w' ⟨u, n, rfl, hu, rfl⟩) | (go_at_call 131; refine (pi_c _).mono ?_; rintro e w' ⟨r1, r2, n, rfl, h1, h2, rfl⟩; obtain rfl := h1.eq_of (by decide +kernel); obtain rfl := h2.eq_of (by decide +kernel)))
          go_ret
          exact RetF.mk _ (by rw [HO.out, HA.out]; unfold backP; rw [if_pos rfl]; exact hu)
    · obtain rfl := hy.eq_of hn
      rw [hn] at ny
      rw [hm] at nx
      have HM := Lib.hid hm
      clear hm hn
      go_enter Tryd.func94, Tryd.ntmps94
      go_wp2_with go_in
      go_ret
      have hR : Rep _ (ofF y f) := (by unfold ofF; rw [HM.out, if_pos (by simp)]; exact Rep.nanC)
      first | exact RetF.mk0 hR | exact RetF.mk _ hR
  · rw [hn] at ny
    have HN := Lib.hid hn
    clear hn nx
    go_enter Tryd.func94, Tryd.ntmps94
    go_wp2_with go_in
    go_ret
    · have hR : Rep _ (ofF g f) := (by unfold ofF; rw [HN.out, if_pos (by simp)]; exact Rep.nanC)
      first | exact RetF.mk0 hR | exact RetF.mk _ hR
end
section
variable {x f : Nat} (hx : Rep x f) (w : World)
include hx
end
end Go.Proofs.YtndknkdfbjfjcaaDoor
