/- Half planes bent to polygons: what the map goes on by, in pieces. -/
import Derived.Test.YtcfkhhnkboealaaZf
namespace Go.Proofs.Ytcfkhhnkboealaa
open Go.RowKit
set_option linter.unusedVariables false
set_option linter.unusedSimpArgs false
set_option maxRecDepth 100000
set_option maxHeartbeats 4000000
theorem wp_name {P : Program} {c : Code} {Q : Exit → Act → World → Prop} {a : Act} {w : World} (h : ∀ W, W = w → c.wp P Q a W) : c.wp P Q a w := h w rfl
def stepH (a b : Nat) (n : Nat) : Nat := fdiv (fsub b a) (ofInt n)
def midM (a h i : Nat) : Nat := fadd a (fmul (fadd (ofInt i) 4602678819172646912) h)
def pieceX (fs gs : List Nat) (x0 y0 hx hy k i : Nat) : Nat := mulX (fmul hx 4602678819172646912) (fmul hy 4602678819172646912) (sumC (ndX fs gs (midM x0 hx i) (midM y0 hy i) hx hy k) 3) (sumC (ndY fs gs (midM x0 hx i) (midM y0 hy i) hx hy k) 3)
def pieceY (fs gs : List Nat) (x0 y0 hx hy k i : Nat) : Nat := mulY (fmul hx 4602678819172646912) (fmul hy 4602678819172646912) (sumC (ndX fs gs (midM x0 hx i) (midM y0 hy i) hx hy k) 3) (sumC (ndY fs gs (midM x0 hx i) (midM y0 hy i) hx hy k) 3)
theorem between_c {w : World} {b cap n b2 c2 x0 y0 x1 y1 hX hY m : Nat} {xs fs ys gs : List Nat} (h : FW w b cap xs fs) (hn : xs.length = n) (k : FW w b2 c2 ys gs) (kn : ys.length = n) (h1 : 3 ≤ n)
    (rx0 : Rep x0 x0) (ry0 : Rep y0 y0) (rx1 : Rep x1 x1) (ry1 : Rep y1 y1) (m1 : 1 ≤ m) (m2 : m ≤ 16384) (eX : stepH x0 x1 m = hX) (eY : stepH y0 y1 m = hY)
    (d1 : isN (fsub x1 x0) = false) (d2 : isN (fsub y1 y0) = false) (d3 : isN (ofInt m) = false) (d4 : isN hX = false) (d5 : isN hY = false)
    (num : ∀ i, i < m → ∀ j, j < 4 → numP fs gs (fadd (midM x0 hX i) (fmul (ndT j) hX)) = true) {A B : Nat} (eA : sumC (pieceX fs gs x0 y0 hX hY (n - 1)) (m - 1) = A) (eB : sumC (pieceY fs gs x0 y0 hX hY (n - 1)) (m - 1) = B) (hfin : (fin A && fin B) = true) :
    Calls Try.prog 138 #[.slice (some ⟨b, 0, none⟩) n cap, .slice (some ⟨b2, 0, none⟩) n c2, .complex .f64 x0 y0, .complex .f64 x1 y1, .int .i64 m] w (fun e w' => e = .returned (.tuple #[.complex .f64 A B, .int .i64 0]) ∧ GrW w w') := by
  obtain ⟨fm, efm⟩ : ∃ q, ofInt m = q := ⟨_, rfl⟩
  obtain ⟨dx, edx⟩ : ∃ q, fsub x1 x0 = q := ⟨_, rfl⟩
  obtain ⟨dy, edy⟩ : ∃ q, fsub y1 y0 = q := ⟨_, rfl⟩
  unfold stepH at eX eY
  rw [edx, efm] at eX
  rw [edy, efm] at eY
  have q0 : floatOfInt .f64 (m : Int) = fm := ((ofInt_rep m).eq_of d3).trans efm
  have rm : Rep fm fm := by have := self_of (ofInt_rep m) d3; rwa [efm] at this
  have z1 : fdr .sub x1 x0 = 0 := fdr_sub d1
  have z2 : fdr .sub y1 y0 = 0 := fdr_sub d2
  have q1 : ∀ W, fres .sub x1 x0 W = dx := fun W => ((rx1.sub rx0).eq_of d1).trans edx
  have q2 : ∀ W, fres .sub y1 y0 W = dy := fun W => ((ry1.sub ry0).eq_of d2).trans edy
  have rdx : Rep dx dx := by have := self_of (rx1.sub rx0 (w := w)) d1; rwa [edx] at this
  have rdy : Rep dy dy := by have := self_of (ry1.sub ry0 (w := w)) d2; rwa [edy] at this
  have d4' : isN (fdiv dx fm) = false := by rw [eX]; exact d4
  have d5' : isN (fdiv dy fm) = false := by rw [eY]; exact d5
  have z3 : fdr .quo dx fm = 0 := fdr_quo d4'
  have z4 : fdr .quo dy fm = 0 := fdr_quo d5'
  have q3 : ∀ W, fres .quo dx fm W = hX := fun W => ((rdx.quo rm).eq_of d4').trans eX
  have q4 : ∀ W, fres .quo dy fm W = hY := fun W => ((rdy.quo rm).eq_of d5').trans eY
  have rhX : Rep hX hX := by have := self_of (rdx.quo rm (w := w)) d4'; rwa [eX] at this
  have rhY : Rep hY hY := by have := self_of (rdy.quo rm (w := w)) d5'; rwa [eY] at this
  have H := Lib.hid h
  have K := Lib.hid k
  have NUM := Lib.hid num
  have EA := Lib.hid eA
  have EB := Lib.hid eB
  have FN := Lib.hid hfin
  have RX := Lib.hid (And.intro rx0 (And.intro ry0 (And.intro rhX rhY)))
  have hm := mk_cplx m (by omega)
  clear h k num eA eB hfin eX eY d1 d2 d3 d4 d5 d4' d5' edx edy efm rm rdx rdy rhX rhY rx0 ry0 rx1 ry1
  go_enter Try.func138, Try.ntmps138
  go_upto_region 3 with fail
  clear z1 z2 z3 z4 q0 q1 q2 q3 q4
  refine wp_name fun W eW => ?_
  have G0 : RowKit.Hid (GrW w W) := Lib.hid (by rw [eW]; exact ((((GrW.refl w).alloc _).alloc _).drewN 0).alloc _)
  have L0 : RowKit.Hid (Kp (w.heap.size + 1 + 1 + 1) W [(⟨w.heap.size, 0, none⟩, .slice (some ⟨b, 0, none⟩) n cap), (⟨w.heap.size + 1, 0, none⟩, .slice (some ⟨b2, 0, none⟩) n c2), (⟨w.heap.size + 1 + 1, 0, none⟩, .complex .f64 hX hY)]) :=
    Lib.hid (by rw [eW]; exact ((((Kp.start w).box rfl _ _).box (by simp) _ _).up ((GrW.refl _).drewN 0)).box (by simp) _ _)
  clear eW
  generalize w.heap.size = wb at L0 ⊢
  go_upto_region 4 with (first
    | (go_at_call 164; (with_reducible refine (rule_c _).mono ?_); rintro e W1 ⟨rfl, g1⟩; have G1 := Lib.hid (G0.out.trans (GrW.of g1)); have L1 := Lib.hid (L0.out.up (GrW.of g1)); clear g1 G0 L0)
    | fail)
  refine wp_name fun W2 eW => ?_
  have G2 : RowKit.Hid (GrW w W2) := Lib.hid (by rw [eW]; exact G1.out.alloc _)
  have L2 := Lib.hid (L1.out.box8 (.float .f64 13824800083116702085) (.float .f64 4599938015721666155) (.float .f64 13818664611150118396) (.float .f64 4604049220898137290) (.float .f64 4595292574295342588) (.float .f64 4604049220898137290) (.float .f64 4601428046261926277) (.float .f64 4599938015721666155) 161)
  rw [← eW] at L2
  clear eW G1 L1
  generalize W1.heap.size = bf at L2 ⊢
  obtain ⟨L, eL⟩ : ∃ L, L = ([(⟨wb, 0, none⟩, .slice (some ⟨b, 0, none⟩) n cap), (⟨wb + 1, 0, none⟩, .slice (some ⟨b2, 0, none⟩) n c2), (⟨wb + 1 + 1, 0, none⟩, .complex .f64 hX hY)] ++ [(⟨bf, 0, none⟩, .float .f64 13824800083116702085)] ++ [(⟨bf, 1, none⟩, .float .f64 4599938015721666155)] ++ [(⟨bf, 2, none⟩, .float .f64 13818664611150118396)] ++ [(⟨bf, 3, none⟩, .float .f64 4604049220898137290)] ++ [(⟨bf, 4, none⟩, .float .f64 4595292574295342588)] ++ [(⟨bf, 5, none⟩, .float .f64 4604049220898137290)] ++ [(⟨bf, 6, none⟩, .float .f64 4601428046261926277)] ++ [(⟨bf, 7, none⟩, .float .f64 4599938015721666155)] : List (Addr × Value)) := ⟨_, rfl⟩
  rw [← eL] at L2
  have LE : RowKit.Hid (L[0]? = some (⟨wb, 0, none⟩, .slice (some ⟨b, 0, none⟩) n cap) ∧ L[1]? = some (⟨wb + 1, 0, none⟩, .slice (some ⟨b2, 0, none⟩) n c2) ∧ L[2]? = some (⟨wb + 1 + 1, 0, none⟩, .complex .f64 hX hY) ∧ L[3]? = some (⟨bf, 0, none⟩, .float .f64 13824800083116702085) ∧ L[4]? = some (⟨bf, 1, none⟩, .float .f64 4599938015721666155) ∧ L[5]? = some (⟨bf, 2, none⟩, .float .f64 13818664611150118396) ∧ L[6]? = some (⟨bf, 3, none⟩, .float .f64 4604049220898137290) ∧ L[7]? = some (⟨bf, 4, none⟩, .float .f64 4595292574295342588) ∧ L[8]? = some (⟨bf, 5, none⟩, .float .f64 4604049220898137290) ∧ L[9]? = some (⟨bf, 6, none⟩, .float .f64 4601428046261926277) ∧ L[10]? = some (⟨bf, 7, none⟩, .float .f64 4599938015721666155) ∧ L.length = 11) := Lib.hid (by rw [eL]; exact ⟨rfl, rfl, rfl, rfl, rfl, rfl, rfl, rfl, rfl, rfl, rfl, rfl⟩)
  clear eL
  go_upto_region 5 with fail
  refine wp_name fun W3 eW => ?_
  have hbo := G2.out.size
  have G3 : RowKit.Hid (GrW w W3) := Lib.hid (by rw [eW]; exact G2.out.alloc _)
  have L3 : RowKit.Hid (Kp W2.heap.size W3 L) := Lib.hid (by rw [eW]; exact L2.out.size.up ((GrW.refl _).alloc _))
  have R3 : RowKit.Hid (RowC W3 W2.heap.size m 0 (pieceX fs gs x0 y0 hX hY (n - 1)) (pieceY fs gs x0 y0 hX hY (n - 1))) := Lib.hid (by rw [eW]; exact RowC.made _ _ _ _ _)
  have LB : RowKit.Hid (∀ (i : Nat) (a : Addr) (v : Value), L[i]? = some (a, v) → a.block < W2.heap.size) := Lib.hid fun i a v e => (L3.out.all i a v e).1
  clear eW G2 L2 hm
  generalize W2.heap.size = bo at L3 R3 LB hbo ⊢
  have O3 : RowKit.Hid (OutW w W3 bo L m 0 (pieceX fs gs x0 y0 hX hY (n - 1)) (pieceY fs gs x0 y0 hX hY (n - 1))) := Lib.hid ⟨G3.out, L3.out, R3.out⟩
  clear G3 L3 R3
  have hmf : ∀ (fn : Fn) (first cap : Array Value) (w : World), (Instr.makeFunc fn first cap).run Try.prog w = .ok (.func fn first cap) w := fun _ _ _ _ => rfl
  have hm4 : ∀ w : World, (Instr.makeSlice 84 (.int .i64 4) (.int .i64 4)).run Try.prog w = .ok (.slice (some ⟨w.heap.size, 0, none⟩) 4 4) (w.alloc (.cells (madeCells #[.complex .f64 0 0] 4) 60)) := mk_cplx 4 (by decide)
  have HALF := Lib.hid Rep.half
  go_wp2
  go_loopw [44] (fun i wr => ∃ k : Nat, k ≤ m ∧ i = .int .i64 k ∧ RowKit.Hid (OutW w wr bo L m k (pieceX fs gs x0 y0 hX hY (n - 1)) (pieceY fs gs x0 y0 hX hY (n - 1)))) (fun i _ => m - (intOf i).toNat)
  case atStart => exact ⟨0, by omega, rfl, O3⟩
  case round =>
    obtain ⟨k, hk, rfl, HO⟩ := hrel
    by_cases hlt : k < m
    · have c2h := HO.out.kp.cell 2 LE.out.2.2.1
      have fzw : wr.frozen? ⟨wr.heap.size, 0, none⟩ = false := frozen_new (Grown.refl wr) (Nat.le_refl _)
      go_upto_region 9 with (first
        | (go_at_call 165; go_loud ((with_reducible refine (along_c RX.out.1 RX.out.2.1 RX.out.2.2.1 RX.out.2.2.2 ((ofInt_rep _).add HALF.out) _).mono ?_); rintro e w5 ⟨mx, my, d, rfl, hmx, hmy, hw5⟩; have HO5 := Lib.hid (HO.out.up (W' := w5) (by rw [hw5]; first | exact ((GrW.refl wr).drewN _).drewN _ | exact (GrW.refl wr).drewN _)); have HM : RowKit.Hid (Rep mx (midM x0 hX k) ∧ Rep my (midM y0 hY k)) := Lib.hid (And.intro hmx hmy); clear hw5 hmx hmy HO c2h fzw))
        | fail)
      refine wp_name fun W4 eW => ?_
      have O4 : RowKit.Hid (OutW w W4 bo L m k (pieceX fs gs x0 y0 hX hY (n - 1)) (pieceY fs gs x0 y0 hX hY (n - 1))) := Lib.hid (by rw [eW]; exact HO5.out.up ((GrW.refl _).alloc _))
      have L4 : RowKit.Hid (Kp (w5.heap.size + 1) W4 (L ++ [(⟨w5.heap.size, 0, none⟩, .complex .f64 mx my)])) := Lib.hid (by rw [eW]; exact HO5.out.kp.boxN _ _)
      clear eW HO5
      generalize w5.heap.size = bm at L4 ⊢
      go_upto_region 11 with fail
      refine wp_name fun W5 eW => ?_
      have ne : W4.heap.size ≠ bo := by have := O4.out.row.lt; omega
      have hbs := O4.out.gr.size
      have I5 : RowKit.Hid (InW w W5 bo W4.heap.size (L ++ [(⟨bm, 0, none⟩, .complex .f64 mx my)]) m k 0 (pieceX fs gs x0 y0 hX hY (n - 1)) (pieceY fs gs x0 y0 hX hY (n - 1)) (ndX fs gs (midM x0 hX k) (midM y0 hY k) hX hY (n - 1)) (ndY fs gs (midM x0 hX k) (midM y0 hY k) hX hY (n - 1))) := Lib.hid (by
        rw [eW]
        have o := O4.out.up ((GrW.refl W4).alloc (.cells (madeCells #[.complex .f64 0 0] 4) 60))
        exact ⟨o.gr, L4.out.size.up ((GrW.refl _).alloc _), o.row, RowC.made _ _ _ _ _⟩)
      clear eW O4 L4
      generalize W4.heap.size = bs at I5 ne hbs ⊢
      have e3 := I5.out.kp.cell 3 (Kp.ap LE.out.2.2.2.1)
      have e4 := I5.out.kp.cell 4 (Kp.ap LE.out.2.2.2.2.1)
      have e5 := I5.out.kp.cell 5 (Kp.ap LE.out.2.2.2.2.2.1)
      have e6 := I5.out.kp.cell 6 (Kp.ap LE.out.2.2.2.2.2.2.1)
      have e7 := I5.out.kp.cell 7 (Kp.ap LE.out.2.2.2.2.2.2.2.1)
      have e8 := I5.out.kp.cell 8 (Kp.ap LE.out.2.2.2.2.2.2.2.2.1)
      have e9 := I5.out.kp.cell 9 (Kp.ap LE.out.2.2.2.2.2.2.2.2.2.1)
      have ea := I5.out.kp.cell 10 (Kp.ap LE.out.2.2.2.2.2.2.2.2.2.2.1)
      go_wp2
      clear e3 e4 e5 e6 e7 e8 e9 ea
      go_loopw [56] (fun i wz => ∃ j : Nat, j ≤ 4 ∧ i = .int .i64 j ∧ RowKit.Hid (InW w wz bo bs (L ++ [(⟨bm, 0, none⟩, .complex .f64 mx my)]) m k j (pieceX fs gs x0 y0 hX hY (n - 1)) (pieceY fs gs x0 y0 hX hY (n - 1)) (ndX fs gs (midM x0 hX k) (midM y0 hY k) hX hY (n - 1)) (ndY fs gs (midM x0 hX k) (midM y0 hY k) hX hY (n - 1)))) (fun i _ => 4 - (intOf i).toNat)
      case atStart => exact ⟨0, by omega, rfl, I5⟩
      case round =>
        obtain ⟨j, hj, rfl, HI⟩ := hrel
        clear I5
        have CA := Lib.hid fun o => (HI.out.kp.up ((GrW.refl wr).alloc o)).cell 0 (Kp.ap LE.out.1)
        have CG := Lib.hid fun o => (HI.out.kp.up ((GrW.refl wr).alloc o)).cell 1 (Kp.ap LE.out.2.1)
        have CH := Lib.hid fun o => (HI.out.kp.up ((GrW.refl wr).alloc o)).cell 2 (Kp.ap LE.out.2.2.1)
        have CM := Lib.hid fun o => (HI.out.kp.up ((GrW.refl wr).alloc o)).cell 11 (Kp.apl LE.out.2.2.2.2.2.2.2.2.2.2.2)
        have HF := Lib.hid fun o => (H.out.up (HI.out.gr.alloc o))
        have KF := Lib.hid fun o => (K.out.up (HI.out.gr.alloc o))
        by_cases hj4 : j < 4
        · have hcs : j = 0 ∨ j = 1 ∨ j = 2 ∨ j = 3 := by omega
          rcases hcs with rfl | rfl | rfl | rfl
          · go_wp2_with (first
              | (go_at_call 166; go_loud ((with_reducible refine (nd0_c (HF.out _) hn (KF.out _) kn h1 (CA.out _) (CG.out _) (CM.out _) (CH.out _) HM.out.1 HM.out.2 RX.out.2.2.1 RX.out.2.2.2 (NUM.out k hlt 0 (by decide))).mono ?_); rintro e w6 ⟨p, q, rfl, hp, hq, g6⟩; have HI6 := Lib.hid ((HI.out.up ((GrW.refl wr).alloc _)).up (GrW.of g6)); obtain ⟨u6, hu6⟩ := HI6.out.own.has 0 (by decide); have fz6 := HI6.out.own.fz 0; have HP := Lib.hid (And.intro hp hq); clear g6 hp hq HI))
              | fail)
            go_roundw
            case rel => exact ⟨1, by omega, rfl, Lib.hid (HI6.out.put hbs ne (by decide) HP.out.1 HP.out.2)⟩
            case measure => simp [intOf]
          · go_wp2_with (first
              | (go_at_call 166; go_loud ((with_reducible refine (nd1_c (HF.out _) hn (KF.out _) kn h1 (CA.out _) (CG.out _) (CM.out _) (CH.out _) HM.out.1 HM.out.2 RX.out.2.2.1 RX.out.2.2.2 (NUM.out k hlt 1 (by decide))).mono ?_); rintro e w6 ⟨p, q, rfl, hp, hq, g6⟩; have HI6 := Lib.hid ((HI.out.up ((GrW.refl wr).alloc _)).up (GrW.of g6)); obtain ⟨u6, hu6⟩ := HI6.out.own.has 1 (by decide); have fz6 := HI6.out.own.fz 1; have HP := Lib.hid (And.intro hp hq); clear g6 hp hq HI))
              | fail)
            go_roundw
            case rel => exact ⟨2, by omega, rfl, Lib.hid (HI6.out.put hbs ne (by decide) HP.out.1 HP.out.2)⟩
            case measure => simp [intOf]
          · go_wp2_with (first
              | (go_at_call 166; go_loud ((with_reducible refine (nd2_c (HF.out _) hn (KF.out _) kn h1 (CA.out _) (CG.out _) (CM.out _) (CH.out _) HM.out.1 HM.out.2 RX.out.2.2.1 RX.out.2.2.2 (NUM.out k hlt 2 (by decide))).mono ?_); rintro e w6 ⟨p, q, rfl, hp, hq, g6⟩; have HI6 := Lib.hid ((HI.out.up ((GrW.refl wr).alloc _)).up (GrW.of g6)); obtain ⟨u6, hu6⟩ := HI6.out.own.has 2 (by decide); have fz6 := HI6.out.own.fz 2; have HP := Lib.hid (And.intro hp hq); clear g6 hp hq HI))
              | fail)
            go_roundw
            case rel => exact ⟨3, by omega, rfl, Lib.hid (HI6.out.put hbs ne (by decide) HP.out.1 HP.out.2)⟩
            case measure => simp [intOf]
          · go_wp2_with (first
              | (go_at_call 166; go_loud ((with_reducible refine (nd3_c (HF.out _) hn (KF.out _) kn h1 (CA.out _) (CG.out _) (CM.out _) (CH.out _) HM.out.1 HM.out.2 RX.out.2.2.1 RX.out.2.2.2 (NUM.out k hlt 3 (by decide))).mono ?_); rintro e w6 ⟨p, q, rfl, hp, hq, g6⟩; have HI6 := Lib.hid ((HI.out.up ((GrW.refl wr).alloc _)).up (GrW.of g6)); obtain ⟨u6, hu6⟩ := HI6.out.own.has 3 (by decide); have fz6 := HI6.out.own.fz 3; have HP := Lib.hid (And.intro hp hq); clear g6 hp hq HI))
              | fail)
            go_roundw
            case rel => exact ⟨4, by omega, rfl, Lib.hid (HI6.out.put hbs ne (by decide) HP.out.1 HP.out.2)⟩
            case measure => simp [intOf]
        · obtain rfl : j = 4 := by omega
          have ch := HI.out.kp.cell 2 (Kp.ap LE.out.2.2.1)
          obtain ⟨u0, hu0⟩ := HI.out.row.has k hlt
          have fz0 := HI.out.row.fz k
          clear CA CG CH CM HF KF
          go_wp2_with (first
            | (go_at_call 48; go_loud ((with_reducible refine (cscale_c RX.out.2.2.1 RX.out.2.2.2 HALF.out _).mono ?_); rintro e w' ⟨sx, sy, d1, rfl, hsx, hsy, rfl⟩))
            | (go_at_call 127; go_loud (refine (psum_c (n := 4) (ndX fs gs (midM x0 hX k) (midM y0 hY k) hX hY (n - 1)) (ndY fs gs (midM x0 hX k) (midM y0 hY k) hX hY (n - 1)) (by decide) (by decide) (fun j hj => (HI.out.own.up ((GrW.refl wr).drewN _)).done j hj)).mono ?_; rintro e w' ⟨tx, ty, d2, rfl, htx, hty, rfl⟩))
            | (go_at_call 62; go_loud ((with_reducible refine (cmul_c hsx hsy htx hty _).mono ?_); rintro e w' ⟨px, py, d3, rfl, hpx, hpy, rfl⟩))
            | fail)
          go_roundw
          case rel => exact ⟨k + 1, by omega, by go_num, Lib.hid ((HI.out.up ((GrW.refl wr).drewN _)).out hbo hlt LB.out (by unfold pieceX mulX; exact hpx) (by unfold pieceY mulY; exact hpy))⟩
          case measure => simp [intOf]; omega
    · obtain rfl : k = m := by omega
      go_wp2_with (first
        | (go_at_call 127; go_loud (refine (psum_c (n := k) (pieceX fs gs x0 y0 hX hY (n - 1)) (pieceY fs gs x0 y0 hX hY (n - 1)) (by omega) (by omega) (fun j hj => HO.out.row.done j hj)).mono ?_; rintro e w' ⟨tx, ty, d2, rfl, htx, hty, rfl⟩; rw [EA.out] at htx; rw [EB.out] at hty; have FF := FN.out; rw [Bool.and_eq_true] at FF; obtain rfl := htx.eq_of (fin_notN FF.1); obtain rfl := hty.eq_of (fin_notN FF.2)))
        | (go_at_call 135; go_loud ((with_reducible refine (placed_c htx hty _ FN.out).mono ?_); rintro e w' ⟨d3, rfl, rfl⟩))
        | fail)
      go_ret2
      exact ⟨rfl, (HO.out.gr.drewN _)⟩
end Go.Proofs.Ytcfkhhnkboealaa
