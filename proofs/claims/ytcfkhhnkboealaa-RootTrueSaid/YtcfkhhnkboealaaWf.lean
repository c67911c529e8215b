/- Words added, less one another, times one another; two rows blended; first bits. -/
import Derived.Test.YtcfkhhnkboealaaWdd
import Derived.Test.YtcfkhhnkboealaaCol
namespace Go.Proofs.Ytcfkhhnkboealaa
open Go.RowKit
set_option linter.unusedVariables false
set_option linter.unusedSimpArgs false
set_option maxRecDepth 100000
set_option maxHeartbeats 4000000
theorem IsW.opn {w : World} {s : Option Addr} {n c : Nat} {l : List Nat} (h : IsW w (.slice s n c) l) : n = l.length ∧ n ≤ c ∧ c ≤ 1000000000 := by
  obtain ⟨s', c', e, h1, h2, _⟩ := h
  injection e with e1 e2 e3
  subst e1 e2 e3
  exact ⟨rfl, h1, h2⟩
theorem IsW.word {w : World} {s : Option Addr} {n c : Nat} {l : List Nat} (h : IsW w (.slice s n c) l) {i : Nat} (hi : i < l.length) :
    ∃ b off, s = some ⟨b, off, none⟩ ∧ b < w.heap.size ∧ w.cell? ⟨b, off + i, none⟩ = some (.int .u32 ((l.getD i 0 : Nat) : Int)) := by
  obtain ⟨s', c', e, h1, h2, h3⟩ := h
  injection e with e1 e2 e3
  subst e1 e2 e3
  obtain ⟨b, off, e, hb, hc⟩ := h3 (by intro e; subst e; simp at hi)
  exact ⟨b, off, e, hb, hc i hi⟩
theorem row_isW {w : World} {b n : Nat} {xs : List Nat} (h : Row w b xs) (hl : xs.length = n) (hn : n ≤ 1000000000) : IsW w (.slice (some ⟨b, 0, none⟩) n n) xs := by
  have := h.isW n n (by omega) (by omega) hn
  rwa [List.take_of_length_le (by omega)] at this
theorem addW_core {s1 s2 : Option Addr} {c1 c2 : Nat} {la lb : List Nat} {w : World} (sw : Bool) (h1 : IsW w (.slice s1 la.length c1) la) (h2 : IsW w (.slice s2 lb.length c2) lb) (hla : Sm la) (hlb : Sm lb)
    (hlen : if sw = true then lb.length < la.length else lb.length ≤ la.length) (hmax : la.length ≤ 100000000) :
    Calls Try.prog 182 (if sw = true then #[.slice s2 lb.length c2, .slice s1 la.length c1] else #[.slice s1 la.length c1, .slice s2 lb.length c2]) w (RetW (wv la + wv lb) w) := by
  have HA := Lib.hid h1
  have HB := Lib.hid h2
  have HLA := Lib.hid hla
  have HLB := Lib.hid hlb
  obtain ⟨_, p1, p2⟩ := h1.opn
  obtain ⟨_, q1, q2⟩ := h2.opn
  have hmk := mk_words ((la.length : Int) + 1) (la.length + 1) (by omega) (by omega)
  have hle : lb.length ≤ la.length := by cases sw <;> simp at hlen <;> omega
  have HE : RowKit.Hid (wv la + wv lb < 4294967296 ^ (la.length + 1)) := Lib.hid (by
    have t1 := wv_lt hla
    have t2 := wv_lt hlb
    have t3 : 4294967296 ^ lb.length ≤ 4294967296 ^ la.length := Nat.pow_le_pow_right (by decide) hle
    rw [Nat.pow_succ]
    omega)
  have HLE := Lib.hid hle
  clear h1 h2 hla hlb hle
  cases sw
  all_goals
    simp only [Bool.false_eq_true, if_false, if_true, if_pos] at hlen ⊢
    go_enter Try.func182, Try.ntmps182
    go_wp2
    go_loopw [6, 7, 8] (fun n6 n7 n8 wr => ∃ (i c : Nat) (xs : List Nat), n7 = .int .i64 i ∧ n6 = .int .u64 c ∧ c ≤ 1 ∧ i ≤ la.length ∧ ColRel la lb 1 1 (la.length + 1) i c xs ∧ Row wr w.heap.size xs ∧ Grown w wr) (fun _ n7 _ _ => la.length - (intOf n7).toNat)
    case atStart => exact ⟨0, 0, List.replicate (la.length + 1) 0, rfl, rfl, by decide, Nat.zero_le _, col_start _ _ _ _ _, row_made _ _ _, (Grown.refl _).alloc _ _⟩
    case round =>
      obtain ⟨i, c, xs, rfl, rfl, hc, hi, hR, hrow, hg⟩ := hrel
      have HR := Lib.hid hR
      have HW := Lib.hid hrow
      have HG := Lib.hid hg
      have XL := Lib.hid (show xs.length = la.length + 1 from hR.len)
      clear hR hrow hg
      by_cases hlt : i < la.length
      · obtain ⟨b1, o1, e1, hb1, a1⟩ := HA.out.word hlt
        subst e1
        rw [← grown_cell HG.out hb1] at a1
        have u1 := sm_getD HLA.out i
        obtain ⟨u, eu⟩ : ∃ u, u = la.getD i 0 := ⟨_, rfl⟩
        rw [← eu] at a1 u1
        have EU := Lib.hid eu
        clear eu
        have r1 := HW.out.cell i (by rw [XL.out]; omega)
        have f1 : wr.frozen? ⟨w.heap.size, i, none⟩ = false := Row.free HG.out (Nat.le_refl _)
        by_cases hlt2 : i < lb.length
        · obtain ⟨b2, o2, e2, hb2, a2⟩ := HB.out.word hlt2
          subst e2
          rw [← grown_cell HG.out hb2] at a2
          have v1 := sm_getD HLB.out i
          obtain ⟨v, ev⟩ : ∃ v, v = lb.getD i 0 := ⟨_, rfl⟩
          rw [← ev] at a2 v1
          have EV := Lib.hid ev
          clear ev
          have HST := Lib.hid (show ColRel la lb 1 1 (la.length + 1) (i + 1) (((u + c + v) / 4294967296 : Nat) : Int) (xs.set i ((u + c + v) % 4294967296)) from col_step HR.out (by omega) (by omega) (by rw [← EU.out, ← EV.out]; omega))
          have z1 := Lib.hid (show ((u : Int) + (c : Int) + (v : Int)) % 4294967296 = (((u + c + v) % 4294967296 : Nat) : Int) from by omega)
          have z2 := Lib.hid (show ((u : Int) + (c : Int) + (v : Int)) / 4294967296 = (((u + c + v) / 4294967296 : Nat) : Int) from by omega)
          go_wp2_with fail
          go_roundw
          case rel =>
            refine ⟨i + 1, (u + c + v) / 4294967296, xs.set i ((u + c + v) % 4294967296), by go_num, by rw [z2.out], by omega, by omega, HST.out, ?_, ?_⟩
            · rw [z1.out]; exact HW.out.set (by rw [XL.out]; omega) _
            · exact HG.out.setCell (Nat.le_refl _) _
          case measure => simp [intOf]; omega
        · have HST := Lib.hid (show ColRel la lb 1 1 (la.length + 1) (i + 1) (((u + c) / 4294967296 : Nat) : Int) (xs.set i ((u + c) % 4294967296)) from col_step HR.out (by omega) (by omega) (by rw [← EU.out, gd_ge (by omega)]; omega))
          have z1 := Lib.hid (show ((u : Int) + (c : Int)) % 4294967296 = (((u + c) % 4294967296 : Nat) : Int) from by omega)
          have z2 := Lib.hid (show ((u : Int) + (c : Int)) / 4294967296 = (((u + c) / 4294967296 : Nat) : Int) from by omega)
          go_wp2_with fail
          go_roundw
          case rel =>
            refine ⟨i + 1, (u + c) / 4294967296, xs.set i ((u + c) % 4294967296), by go_num, by rw [z2.out], by omega, by omega, HST.out, ?_, ?_⟩
            · rw [z1.out]; exact HW.out.set (by rw [XL.out]; omega) _
            · exact HG.out.setCell (Nat.le_refl _) _
          case measure => simp [intOf]; omega
      · have hi2 : i = la.length := by omega
        subst hi2
        have r1 := HW.out.cell la.length (by rw [XL.out]; omega)
        have f1 : wr.frozen? ⟨w.heap.size, la.length, none⟩ = false := Row.free HG.out (Nat.le_refl _)
        have HST := Lib.hid (show ColRel la lb 1 1 (la.length + 1) (la.length + 1) 0 (xs.set la.length c) from col_step HR.out (by omega) (by omega) (by rw [gd_ge (by omega), gd_ge HLE.out]; omega))
        have HV := Lib.hid (show wv (xs.set la.length c) = wv la + wv lb from (col_end HST.out (by omega) (by have := HLE.out; omega) (by omega) HE.out).1)
        have HS := Lib.hid HST.out.sm
        have hcm : (c : Int) % 4294967296 = (c : Int) := by omega
        have HI := Lib.hid (row_isW (n := la.length + 1) (HW.out.set (j := la.length) (by rw [XL.out]; omega) c) (by rw [List.length_set]; exact XL.out) (by omega))
        have HG2 := Lib.hid (HG.out.setCell (a := ⟨w.heap.size, la.length, none⟩) (Nat.le_refl _) (.int .u32 (c : Int)))
        go_wp2_with (first
          | (go_at_call 145; (with_reducible refine (trim_c HI.out HS.out).mono ?_); rw [HV.out]; rintro e w' ⟨v', n', rfl, hv, rfl⟩)
          | fail)
        go_ret
        have h1 := gr_drewN n' HG2.out
        exact ⟨v', rfl, hv, h1⟩
theorem addW_c {v1 v2 : Value} {A B : Nat} {w : World} (h1 : IsW w v1 (digs A)) (h2 : IsW w v2 (digs B)) (hA : (digs A).length ≤ 100000000) (hB : (digs B).length ≤ 100000000) : Calls Try.prog 182 #[v1, v2] w (RetW (A + B) w) := by
  have h1' := h1
  have h2' := h2
  obtain ⟨s1, c1, rfl, _, _, _⟩ := h1'
  obtain ⟨s2, c2, rfl, _, _, _⟩ := h2'
  by_cases h : (digs A).length < (digs B).length
  · have := addW_core true h2 h1 (digs_sm _) (digs_sm _) (by simpa using h) hB
    rwa [wv_digs, wv_digs, Nat.add_comm] at this
  · have := addW_core false h1 h2 (digs_sm _) (digs_sm _) (by simpa using h) hA
    rwa [wv_digs, wv_digs] at this
theorem sub_word2 (u v bo : Nat) (hu : u < 4294967296) (hv : v < 4294967296) (hb : bo ≤ 1) :
    ∃ T x bo' : Nat, x < 4294967296 ∧ bo' ≤ 1 ∧ T < 18446744073709551616 ∧ IntKind.u64.wrap (IntKind.u64.wrap ((u : Int) - (bo : Int)) - (v : Int)) = (T : Int) ∧ (T : Int) % 4294967296 = (x : Int) ∧ (T : Int) / 9223372036854775808 = (bo' : Int) ∧
      (x : Int) + 4294967296 * (-(bo' : Int)) = 1 * (u : Nat) + (-1) * (v : Nat) + -(bo : Int) := by
  refine ⟨(((u : Int) - bo - v) % 18446744073709551616).toNat, (((u : Int) - bo - v) % 4294967296).toNat, if v + bo ≤ u then 0 else 1, by omega, by split <;> omega, by omega, ?_, by omega, ?_, ?_⟩
  · rw [IntKind.wrap_u64, IntKind.wrap_u64]; omega
  · split <;> omega
  · split <;> omega
theorem sub_word1 (u bo : Nat) (hu : u < 4294967296) (hb : bo ≤ 1) :
    ∃ T x bo' : Nat, x < 4294967296 ∧ bo' ≤ 1 ∧ T < 18446744073709551616 ∧ IntKind.u64.wrap ((u : Int) - (bo : Int)) = (T : Int) ∧ (T : Int) % 4294967296 = (x : Int) ∧ (T : Int) / 9223372036854775808 = (bo' : Int) ∧
      (x : Int) + 4294967296 * (-(bo' : Int)) = 1 * (u : Nat) + (-1) * (0 : Nat) + -(bo : Int) := by
  refine ⟨(((u : Int) - bo) % 18446744073709551616).toNat, (((u : Int) - bo) % 4294967296).toNat, if bo ≤ u then 0 else 1, by omega, by split <;> omega, by omega, ?_, by omega, ?_, ?_⟩
  · rw [IntKind.wrap_u64]; omega
  · split <;> omega
  · split <;> omega
theorem subW_c {v1 v2 : Value} {A B : Nat} {w : World} (h1 : IsW w v1 (digs A)) (h2 : IsW w v2 (digs B)) (hle : B ≤ A) (hA : (digs A).length ≤ 100000000) : Calls Try.prog 183 #[v1, v2] w (RetW (A - B) w) := by
  obtain ⟨la, ela⟩ : ∃ la, la = digs A := ⟨_, rfl⟩
  obtain ⟨lb, elb⟩ : ∃ lb, lb = digs B := ⟨_, rfl⟩
  have hlen : lb.length ≤ la.length := by rw [ela, elb]; exact digs_mono hle
  have hla : Sm la := by rw [ela]; exact digs_sm A
  have hlb : Sm lb := by rw [elb]; exact digs_sm B
  have va : wv la = A := by rw [ela]; exact wv_digs A
  have vb : wv lb = B := by rw [elb]; exact wv_digs B
  rw [← ela] at h1 hA
  rw [← elb] at h2
  clear ela elb
  have HA := Lib.hid h1
  have HB := Lib.hid h2
  obtain ⟨s1, c1, rfl, p1, p2, _⟩ := h1
  obtain ⟨s2, c2, rfl, q1, q2, _⟩ := h2
  have HLA := Lib.hid hla
  have HLB := Lib.hid hlb
  have hmk := mk_words (la.length : Int) la.length rfl (by omega)
  have HE : RowKit.Hid (∀ xs c, ColRel la lb 1 (-1) la.length la.length c xs → wv xs = A - B) := Lib.hid (fun xs c h => (col_end (S := A - B) h (Nat.le_refl _) hlen (by rw [va, vb]; omega) (by
    have := wv_lt hla
    omega)).1)
  have HL := Lib.hid hlen
  clear hla hlb va vb hlen hle
  go_enter Try.func183, Try.ntmps183
  go_wp2
  go_loopw [6, 7, 8] (fun n6 n7 n8 wr => ∃ (i bo : Nat) (xs : List Nat), n7 = .int .i64 i ∧ n6 = .int .u64 bo ∧ bo ≤ 1 ∧ i ≤ la.length ∧ ColRel la lb 1 (-1) la.length i (-(bo : Int)) xs ∧ Row wr w.heap.size xs ∧ Grown w wr) (fun _ n7 _ _ => la.length - (intOf n7).toNat)
  case atStart => exact ⟨0, 0, List.replicate la.length 0, rfl, rfl, by decide, Nat.zero_le _, col_start _ _ _ _ _, row_made _ _ _, (Grown.refl _).alloc _ _⟩
  case round =>
    obtain ⟨i, bo, xs, rfl, rfl, hc, hi, hR, hrow, hg⟩ := hrel
    have HR := Lib.hid hR
    have HW := Lib.hid hrow
    have HG := Lib.hid hg
    have XL := Lib.hid (show xs.length = la.length from hR.len)
    clear hR hrow hg
    by_cases hlt : i < la.length
    · obtain ⟨b1, o1, e1, hb1, a1⟩ := HA.out.word hlt
      subst e1
      rw [← grown_cell HG.out hb1] at a1
      have u1 := sm_getD HLA.out i
      obtain ⟨u, eu⟩ : ∃ u, u = la.getD i 0 := ⟨_, rfl⟩
      rw [← eu] at a1 u1
      have EU := Lib.hid eu
      clear eu
      have r1 := HW.out.cell i (by rw [XL.out]; omega)
      have f1 : wr.frozen? ⟨w.heap.size, i, none⟩ = false := Row.free HG.out (Nat.le_refl _)
      by_cases hlt2 : i < lb.length
      · obtain ⟨b2, o2, e2, hb2, a2⟩ := HB.out.word hlt2
        subst e2
        rw [← grown_cell HG.out hb2] at a2
        have v1 := sm_getD HLB.out i
        obtain ⟨v, ev⟩ : ∃ v, v = lb.getD i 0 := ⟨_, rfl⟩
        rw [← ev] at a2 v1
        have EV := Lib.hid ev
        clear ev
        obtain ⟨T, x, bo', x1, x2, x3, x4, x5, x6, x7⟩ := sub_word2 u v bo u1 v1 hc
        have HST := Lib.hid (show ColRel la lb 1 (-1) la.length (i + 1) (-(bo' : Int)) (xs.set i x) from col_step HR.out (by omega) x1 (by rw [← EU.out, ← EV.out]; exact x7))
        have Z5 := Lib.hid x5
        have Z6 := Lib.hid x6
        have X2 := Lib.hid x2
        clear x5 x6 x7 x1 x2
        go_wp2_with fail
        go_roundw
        case rel =>
          refine ⟨i + 1, bo', xs.set i x, by go_num, by rw [Z6.out], X2.out, by omega, HST.out, ?_, ?_⟩
          · rw [Z5.out]; exact HW.out.set (by rw [XL.out]; omega) _
          · exact HG.out.setCell (Nat.le_refl _) _
        case measure => simp [intOf]; omega
      · obtain ⟨T, x, bo', x1, x2, x3, x4, x5, x6, x7⟩ := sub_word1 u bo u1 hc
        have HST := Lib.hid (show ColRel la lb 1 (-1) la.length (i + 1) (-(bo' : Int)) (xs.set i x) from col_step HR.out (by omega) x1 (by rw [← EU.out, gd_ge (by omega)]; exact x7))
        have Z5 := Lib.hid x5
        have Z6 := Lib.hid x6
        have X2 := Lib.hid x2
        clear x5 x6 x7 x1 x2
        go_wp2_with fail
        go_roundw
        case rel =>
          refine ⟨i + 1, bo', xs.set i x, by go_num, by rw [Z6.out], X2.out, by omega, HST.out, ?_, ?_⟩
          · rw [Z5.out]; exact HW.out.set (by rw [XL.out]; omega) _
          · exact HG.out.setCell (Nat.le_refl _) _
        case measure => simp [intOf]; omega
    · have hi2 : i = la.length := by omega
      subst hi2
      have HV := Lib.hid (HE.out xs _ HR.out)
      have HS := Lib.hid HR.out.sm
      have HI := Lib.hid (row_isW (n := la.length) HW.out XL.out (by omega))
      go_wp2_with (first
        | (go_at_call 145; (with_reducible refine (trim_c HI.out HS.out).mono ?_); rw [HV.out]; rintro e w' ⟨v', n', rfl, hv, rfl⟩)
        | fail)
      go_ret
      have h1 := gr_drewN n' HG.out
      exact ⟨v', rfl, hv, h1⟩
theorem mulW_c {v1 v2 : Value} {A B : Nat} {w : World} (h1 : IsW w v1 (digs A)) (h2 : IsW w v2 (digs B)) (hA : (digs A).length ≤ 100000000) (hB : (digs B).length ≤ 100000000) : Calls Try.prog 96 #[v1, v2] w (RetW (A * B) w) := by
  obtain ⟨la, ela⟩ : ∃ la, la = digs A := ⟨_, rfl⟩
  obtain ⟨lb, elb⟩ : ∃ lb, lb = digs B := ⟨_, rfl⟩
  have hla : Sm la := by rw [ela]; exact digs_sm A
  have hlb : Sm lb := by rw [elb]; exact digs_sm B
  have va : wv la = A := by rw [ela]; exact wv_digs A
  have vb : wv lb = B := by rw [elb]; exact wv_digs B
  rw [← ela] at h1 hA
  rw [← elb] at h2 hB
  clear ela elb
  have HA := Lib.hid h1
  have HB := Lib.hid h2
  obtain ⟨s1, c1, rfl, p1, p2, _⟩ := h1
  obtain ⟨s2, c2, rfl, q1, q2, _⟩ := h2
  have HLA := Lib.hid hla
  have HLB := Lib.hid hlb
  have hmk := mk_words ((la.length : Int) + (lb.length : Int)) (la.length + lb.length) (by omega) (by omega)
  have HE : RowKit.Hid (∀ xs, MulRel la lb la.length xs → wv xs = A * B) := Lib.hid (fun xs h => by rw [mul_end h, va, vb])
  clear hla hlb va vb
  go_enter Try.func96, Try.ntmps96
  go_wp2
  go_loopw [6, 7, 8, 9, 10] (fun n6 n7 n8 n9 n10 wr => ∃ (i : Nat) (xs : List Nat), n6 = .int .i64 i ∧ i ≤ la.length ∧ MulRel la lb i xs ∧ Row wr w.heap.size xs ∧ Grown w wr) (fun n6 _ _ _ _ _ => la.length - (intOf n6).toNat)
  case atStart => exact ⟨0, List.replicate (la.length + lb.length) 0, rfl, Nat.zero_le _, mul_start _ _, row_made _ _ _, (Grown.refl _).alloc _ _⟩
  case round =>
    obtain ⟨i, xs, rfl, hi, hR, hrow, hg⟩ := hrel
    have HR := Lib.hid hR
    have HW := Lib.hid hrow
    have HG := Lib.hid hg
    have XL := Lib.hid (show xs.length = la.length + lb.length from hR.len)
    clear hR hrow hg
    by_cases hlt : i < la.length
    · obtain ⟨b1, o1, e1, hb1, a1⟩ := HA.out.word hlt
      subst e1
      rw [← grown_cell HG.out hb1] at a1
      have u1 := sm_getD HLA.out i
      obtain ⟨u, eu⟩ : ∃ u, u = la.getD i 0 := ⟨_, rfl⟩
      rw [← eu] at a1 u1
      have EU := Lib.hid eu
      clear eu
      obtain ⟨wo, ewo⟩ : ∃ wo : World, wo = wr := ⟨_, rfl⟩
      subst ewo
      go_wp2_with fail
      go_loopw [7, 9, 10] (fun n7 n9 n10 wz => ∃ (j c : Nat) (ys : List Nat), n9 = .int .i64 j ∧ n7 = .int .u64 c ∧ j ≤ lb.length ∧ MulIn la lb i j c ys ∧ Row wz w.heap.size ys ∧ Grown w wz) (fun _ n9 _ _ => lb.length - (intOf n9).toNat)
      case atStart => exact ⟨0, 0, xs, rfl, rfl, Nat.zero_le _, mulIn_start HR.out, HW.out, HG.out⟩
      case round =>
        obtain ⟨j, c, ys, rfl, rfl, hj, hR2, hrow2, hg2⟩ := hrel
        have HR2 := Lib.hid hR2
        have HW2 := Lib.hid hrow2
        have HG2 := Lib.hid hg2
        have YL := Lib.hid (show ys.length = la.length + lb.length from hR2.len)
        have cb := hR2.car
        clear hR2 hrow2 hg2
        by_cases hlt2 : j < lb.length
        · obtain ⟨b2, o2, e2, hb2, a2⟩ := HB.out.word hlt2
          subst e2
          rw [← grown_cell HG2.out hb2] at a2
          have v1 := sm_getD HLB.out j
          obtain ⟨v, ev⟩ : ∃ v, v = lb.getD j 0 := ⟨_, rfl⟩
          rw [← ev] at a2 v1
          have EV := Lib.hid ev
          clear ev
          have r1 := HW2.out.cell (i + j) (by rw [YL.out]; omega)
          have y1 := sm_getD HR2.out.sm (i + j)
          obtain ⟨y, ey⟩ : ∃ y, y = ys.getD (i + j) 0 := ⟨_, rfl⟩
          rw [← ey] at r1 y1
          have EY := Lib.hid ey
          clear ey
          have f1 : wr.frozen? ⟨w.heap.size, i + j, none⟩ = false := Row.free HG2.out (Nat.le_refl _)
          obtain ⟨m1, m2⟩ := mul_word u1 v1 y1 cb
          obtain ⟨M, eM⟩ : ∃ M, M = u * v := ⟨_, rfl⟩
          rw [← eM] at m1 m2
          have HST := Lib.hid (show MulIn la lb i (j + 1) ((M + y + c) / 4294967296) (ys.set (i + j) ((M + y + c) % 4294967296)) from mulIn_step HR2.out HLA.out HLB.out hlt hlt2 (by rw [← EU.out, ← EV.out, ← EY.out, ← eM]))
          have em : (u : Int) * (v : Int) = (M : Int) := by rw [eM, Int.natCast_mul]
          have z1 := Lib.hid (show ((M : Int) + (y : Int) + (c : Int)) % 4294967296 = (((M + y + c) % 4294967296 : Nat) : Int) from by omega)
          have z2 := Lib.hid (show ((M : Int) + (y : Int) + (c : Int)) / 4294967296 = (((M + y + c) / 4294967296 : Nat) : Int) from by omega)
          have mi : (M : Int) + (y : Int) + (c : Int) ≤ 18446744073709551615 := by omega
          clear eM m1 m2
          go_wp2_with fail
          go_quiet (fail)
          go_wp2_with fail
          go_roundw
          case rel =>
            refine ⟨j + 1, (M + y + c) / 4294967296, ys.set (i + j) ((M + y + c) % 4294967296), by go_num, by rw [z2.out], by omega, HST.out, ?_, ?_⟩
            · rw [z1.out]; exact Row.set (w := wr.drewN _) ⟨HW2.out.cell, HW2.out.lt⟩ (j := i + j) (by rw [YL.out]; omega) _
            · exact (gr_drewN _ HG2.out).setCell (Nat.le_refl _) _
          case measure => simp [intOf]; omega
        · have hj2 : j = lb.length := by omega
          subst hj2
          have r1 := HW2.out.cell (i + lb.length) (by rw [YL.out]; omega)
          have f1 : wr.frozen? ⟨w.heap.size, i + lb.length, none⟩ = false := Row.free HG2.out (Nat.le_refl _)
          have HST := Lib.hid (mulIn_end HR2.out hlt)
          have z1 := Lib.hid (show (c : Int) % 4294967296 = (c : Int) from by omega)
          go_wp2_with fail
          go_roundw
          case rel =>
            refine ⟨i + 1, ys.set (i + lb.length) c, by go_num, by omega, HST.out, ?_, ?_⟩
            · first | exact HW2.out.set (by rw [YL.out]; omega) _ | (rw [z1.out]; exact HW2.out.set (by rw [YL.out]; omega) _)
            · exact HG2.out.setCell (Nat.le_refl _) _
          case measure => simp [intOf]; omega
    · have hi2 : i = la.length := by omega
      subst hi2
      have HV := Lib.hid (HE.out xs HR.out)
      have HS := Lib.hid HR.out.sm
      have HI := Lib.hid (row_isW (n := la.length + lb.length) HW.out XL.out (by omega))
      go_wp2_with (first
        | (go_at_call 145; (with_reducible refine (trim_c HI.out HS.out).mono ?_); rw [HV.out]; rintro e w' ⟨v', n', rfl, hv, rfl⟩)
        | fail)
      go_ret
      have h1 := gr_drewN n' HG.out
      exact ⟨v', rfl, hv, h1⟩
theorem blend_bd (p : Int) (u : Nat) (hp : -1073741824 ≤ p ∧ p ≤ 1073741824) (hu : u < 4294967296) : -4611686018427387904 ≤ p * (u : Int) ∧ p * (u : Int) ≤ 4611686018427387904 := by
  have h1 : p * (u : Int) ≤ 1073741824 * (u : Int) := Int.mul_le_mul_of_nonneg_right hp.2 (by omega)
  have h2 : -1073741824 * (u : Int) ≤ p * (u : Int) := Int.mul_le_mul_of_nonneg_right hp.1 (by omega)
  omega
theorem blend_bd2 (p q : Int) (u v : Nat) (hp : (0 ≤ p ∧ q ≤ 0) ∨ (p ≤ 0 ∧ 0 ≤ q)) (bp : -4611686018427387904 ≤ p * (u : Int) ∧ p * (u : Int) ≤ 4611686018427387904) (bq : -4611686018427387904 ≤ q * (v : Int) ∧ q * (v : Int) ≤ 4611686018427387904) :
    -4611686018427387904 ≤ p * (u : Int) + q * (v : Int) ∧ p * (u : Int) + q * (v : Int) ≤ 4611686018427387904 := by
  rcases hp with ⟨a, b⟩ | ⟨a, b⟩
  · have h1 : 0 ≤ p * (u : Int) := Int.mul_nonneg a (by omega)
    have h2 : q * (v : Int) ≤ 0 := Int.mul_nonpos_of_nonpos_of_nonneg b (by omega)
    omega
  · have h1 : 0 ≤ q * (v : Int) := Int.mul_nonneg b (by omega)
    have h2 : p * (u : Int) ≤ 0 := Int.mul_nonpos_of_nonpos_of_nonneg a (by omega)
    omega
theorem blend_c {v1 v2 : Value} {A B S : Nat} {p q : Int} {w : World} (h1 : IsW w v1 (digs A)) (h2 : IsW w v2 (digs B)) (hle : (digs B).length ≤ (digs A).length) (hA : (digs A).length ≤ 100000000)
    (hp : -1073741824 ≤ p ∧ p ≤ 1073741824) (hq : -1073741824 ≤ q ∧ q ≤ 1073741824) (hpq : (0 ≤ p ∧ q ≤ 0) ∨ (p ≤ 0 ∧ 0 ≤ q)) (hS : (S : Int) = p * (A : Nat) + q * (B : Nat)) (hSA : S ≤ A) :
    Calls Try.prog 171 #[v1, v2, .int .i64 p, .int .i64 q] w (RetW S w) := by
  obtain ⟨la, ela⟩ : ∃ la, la = digs A := ⟨_, rfl⟩
  obtain ⟨lb, elb⟩ : ∃ lb, lb = digs B := ⟨_, rfl⟩
  have hla : Sm la := by rw [ela]; exact digs_sm A
  have hlb : Sm lb := by rw [elb]; exact digs_sm B
  have va : wv la = A := by rw [ela]; exact wv_digs A
  have vb : wv lb = B := by rw [elb]; exact wv_digs B
  rw [← ela, ← elb] at hle
  rw [← ela] at h1 hA
  rw [← elb] at h2
  clear ela elb
  have HA := Lib.hid h1
  have HB := Lib.hid h2
  obtain ⟨s1, c1, rfl, p1, p2, _⟩ := h1
  obtain ⟨s2, c2, rfl, q1, q2, _⟩ := h2
  have HLA := Lib.hid hla
  have HLB := Lib.hid hlb
  have hmk := mk_words ((la.length : Int) + 1) (la.length + 1) (by omega) (by omega)
  have HE : RowKit.Hid (∀ xs c, ColRel la lb p q (la.length + 1) (la.length + 1) c xs → wv xs = S) := Lib.hid (fun xs c h => (col_end (S := S) h (by omega) (by omega) (by rw [va, vb]; exact hS) (by
    have := wv_lt hla
    rw [Nat.pow_succ]
    omega)).1)
  have HL := Lib.hid hle
  have HP := Lib.hid hpq
  clear hla hlb va vb hle hS hSA hpq
  go_enter Try.func171, Try.ntmps171
  go_wp2
  go_loopw [10, 11, 12] (fun n10 n11 n12 wr => ∃ (i : Nat) (c : Int) (xs : List Nat), n11 = .int .i64 i ∧ n10 = .int .i64 c ∧ -2147483648 ≤ c ∧ c ≤ 2147483648 ∧ i ≤ la.length ∧ ColRel la lb p q (la.length + 1) i c xs ∧ Row wr w.heap.size xs ∧ Grown w wr) (fun _ n11 _ _ => la.length - (intOf n11).toNat)
  case atStart => exact ⟨0, 0, List.replicate (la.length + 1) 0, rfl, rfl, by decide, by decide, Nat.zero_le _, col_start _ _ _ _ _, row_made _ _ _, (Grown.refl _).alloc _ _⟩
  case round =>
    obtain ⟨i, c, xs, rfl, rfl, hc1, hc2, hi, hR, hrow, hg⟩ := hrel
    have HR := Lib.hid hR
    have HW := Lib.hid hrow
    have HG := Lib.hid hg
    have XL := Lib.hid (show xs.length = la.length + 1 from hR.len)
    clear hR hrow hg
    by_cases hlt : i < la.length
    · obtain ⟨b1, o1, e1, hb1, a1⟩ := HA.out.word hlt
      subst e1
      rw [← grown_cell HG.out hb1] at a1
      have u1 := sm_getD HLA.out i
      obtain ⟨u, eu⟩ : ∃ u, u = la.getD i 0 := ⟨_, rfl⟩
      rw [← eu] at a1 u1
      have EU := Lib.hid eu
      clear eu
      have r1 := HW.out.cell i (by rw [XL.out]; omega)
      have f1 : wr.frozen? ⟨w.heap.size, i, none⟩ = false := Row.free HG.out (Nat.le_refl _)
      have bp := blend_bd p u hp u1
      obtain ⟨bp1, bp2⟩ := bp
      by_cases hlt2 : i < lb.length
      · obtain ⟨b2, o2, e2, hb2, a2⟩ := HB.out.word hlt2
        subst e2
        rw [← grown_cell HG.out hb2] at a2
        have v1 := sm_getD HLB.out i
        obtain ⟨v, ev⟩ : ∃ v, v = lb.getD i 0 := ⟨_, rfl⟩
        rw [← ev] at a2 v1
        have EV := Lib.hid ev
        clear ev
        obtain ⟨bq1, bq2⟩ := blend_bd q v hq v1
        obtain ⟨bb1, bb2⟩ := blend_bd2 p q u v HP.out ⟨bp1, bp2⟩ ⟨bq1, bq2⟩
        obtain ⟨M, eM⟩ : ∃ M : Int, p * (u : Int) = M := ⟨_, rfl⟩
        obtain ⟨K, eK⟩ : ∃ K : Int, q * (v : Int) = K := ⟨_, rfl⟩
        rw [eM] at bp1 bp2
        rw [eK] at bq1 bq2
        rw [eM, eK] at bb1 bb2
        obtain ⟨x, ex⟩ : ∃ x : Nat, (x : Int) = (M + c + K) % 4294967296 := ⟨((M + c + K) % 4294967296).toNat, by omega⟩
        have HST := Lib.hid (show ColRel la lb p q (la.length + 1) (i + 1) ((M + c + K) / 4294967296) (xs.set i x) from col_step HR.out (by omega) (by omega) (by rw [← EU.out, ← EV.out, eM, eK]; omega))
        have EX := Lib.hid ex
        have g1 := Lib.hid (show -2147483648 ≤ (M + c + K) / 4294967296 from by omega)
        have g2 := Lib.hid (show (M + c + K) / 4294967296 ≤ 2147483648 from by omega)
        clear ex
        go_wp2_with fail
        go_roundw
        case rel =>
          refine ⟨i + 1, (M + c + K) / 4294967296, xs.set i x, by go_num, rfl, g1.out, g2.out, by omega, HST.out, ?_, ?_⟩
          · rw [← EX.out]; exact HW.out.set (by rw [XL.out]; omega) _
          · exact HG.out.setCell (Nat.le_refl _) _
        case measure => simp [intOf]; omega
      · obtain ⟨M, eM⟩ : ∃ M : Int, p * (u : Int) = M := ⟨_, rfl⟩
        rw [eM] at bp1 bp2
        obtain ⟨x, ex⟩ : ∃ x : Nat, (x : Int) = (M + c) % 4294967296 := ⟨((M + c) % 4294967296).toNat, by omega⟩
        have HST := Lib.hid (show ColRel la lb p q (la.length + 1) (i + 1) ((M + c) / 4294967296) (xs.set i x) from col_step HR.out (by omega) (by omega) (by
          rw [← EU.out, gd_ge (by omega), eM]
          have : q * ((0 : Nat) : Int) = 0 := Int.mul_zero q
          omega))
        have EX := Lib.hid ex
        have g1 := Lib.hid (show -2147483648 ≤ (M + c) / 4294967296 from by omega)
        have g2 := Lib.hid (show (M + c) / 4294967296 ≤ 2147483648 from by omega)
        clear ex
        go_wp2_with fail
        go_roundw
        case rel =>
          refine ⟨i + 1, (M + c) / 4294967296, xs.set i x, by go_num, rfl, g1.out, g2.out, by omega, HST.out, ?_, ?_⟩
          · rw [← EX.out]; exact HW.out.set (by rw [XL.out]; omega) _
          · exact HG.out.setCell (Nat.le_refl _) _
        case measure => simp [intOf]; omega
    · have hi2 : i = la.length := by omega
      subst hi2
      have r1 := HW.out.cell la.length (by rw [XL.out]; omega)
      have f1 : wr.frozen? ⟨w.heap.size, la.length, none⟩ = false := Row.free HG.out (Nat.le_refl _)
      obtain ⟨x, ex⟩ : ∃ x : Nat, (x : Int) = c % 4294967296 := ⟨(c % 4294967296).toNat, by omega⟩
      have HST := Lib.hid (show ColRel la lb p q (la.length + 1) (la.length + 1) (c / 4294967296) (xs.set la.length x) from col_step HR.out (by omega) (by omega) (by
        rw [gd_ge (by omega), gd_ge (by have := HL.out; omega)]
        have e1 : q * ((0 : Nat) : Int) = 0 := Int.mul_zero q
        have e2 : p * ((0 : Nat) : Int) = 0 := Int.mul_zero p
        omega))
      have EX := Lib.hid ex
      clear ex
      have HV := Lib.hid (HE.out _ _ HST.out)
      have HS := Lib.hid HST.out.sm
      have HI := Lib.hid (row_isW (n := la.length + 1) (HW.out.set (j := la.length) (by rw [XL.out]; omega) x) (by rw [List.length_set]; exact XL.out) (by omega))
      have HG2 := Lib.hid (HG.out.setCell (a := ⟨w.heap.size, la.length, none⟩) (Nat.le_refl _) (.int .u32 (x : Int)))
      go_wp2_with (first
        | (go_at_call 145; rw [← EX.out]; (with_reducible refine (trim_c HI.out HS.out).mono ?_); rw [HV.out]; rintro e w' ⟨v', n', rfl, hv, rfl⟩)
        | fail)
      go_ret
      have h1 := gr_drewN n' HG2.out
      exact ⟨v', rfl, hv, h1⟩
def tb2 (w2 s : Nat) : Nat := w2 * 2 ^ (64 - s) % 18446744073709551616
def tb1 (w2 w1 s : Nat) : Nat := tb2 w2 s ||| w1 * 2 ^ (32 - s)
def tb0 (w2 w1 w0 s : Nat) : Nat := tb1 w2 w1 s ||| w0 / 2 ^ s
theorem tb_val (w2 w1 w0 s : Nat) (hs : s < 32) (h2 : w2 < 4294967296) (h1 : w1 < 4294967296) (h0 : w0 < 4294967296) :
    tb2 w2 s < 18446744073709551616 ∧ w1 * 2 ^ (32 - s) < 18446744073709551616 ∧ tb1 w2 w1 s < 18446744073709551616 ∧ w0 / 2 ^ s < 18446744073709551616 ∧
    tb0 w2 w1 w0 s = (w0 / 2 ^ s + w1 * 2 ^ (32 - s) + w2 * 2 ^ (64 - s)) % 18446744073709551616 := by
  have f2 : (18446744073709551616 : Nat) = 2 ^ s * 2 ^ (64 - s) := by rw [← Nat.pow_add, show s + (64 - s) = 64 by omega]
  have f3 : (2 : Nat) ^ (64 - s) = 4294967296 * 2 ^ (32 - s) := by rw [show 64 - s = 32 + (32 - s) by omega, Nat.pow_add]
  have e2 : tb2 w2 s = (w2 % 2 ^ s) * 2 ^ (64 - s) := by
    unfold tb2; rw [f2, Nat.mul_mod_mul_right]
  have hm : w2 % 2 ^ s < 2 ^ s := Nat.mod_lt _ (Nat.two_pow_pos s)
  have b1 : w1 * 2 ^ (32 - s) < 2 ^ (64 - s) := by rw [f3]; exact Nat.mul_lt_mul_of_pos_right h1 (Nat.two_pow_pos _)
  have p32 : (4294967296 : Nat) = 2 ^ s * 2 ^ (32 - s) := by rw [← Nat.pow_add, show s + (32 - s) = 32 by omega]
  have b0 : w0 / 2 ^ s < 2 ^ (32 - s) := by rw [Nat.div_lt_iff_lt_mul (Nat.two_pow_pos s), Nat.mul_comm, ← p32]; exact h0
  have l64 : (2 : Nat) ^ (64 - s) ≤ 18446744073709551616 := by
    have : (2 : Nat) ^ (64 - s) ≤ 2 ^ 64 := Nat.pow_le_pow_right (by decide) (by omega)
    rwa [show (2 : Nat) ^ 64 = 18446744073709551616 by decide] at this
  have e1 : tb1 w2 w1 s = (w2 % 2 ^ s) * 2 ^ (64 - s) + w1 * 2 ^ (32 - s) := by
    unfold tb1; rw [e2, or_two _ _ _ b1]
  have e0 : tb0 w2 w1 w0 s = (w2 % 2 ^ s) * 2 ^ (64 - s) + w1 * 2 ^ (32 - s) + w0 / 2 ^ s := by
    unfold tb0; rw [e1, f3, show w2 % 2 ^ s * (4294967296 * 2 ^ (32 - s)) + w1 * 2 ^ (32 - s) = (w2 % 2 ^ s * 4294967296 + w1) * 2 ^ (32 - s) by rw [Nat.add_mul, Nat.mul_assoc], or_two _ _ _ b0]
  have t1 : (w2 % 2 ^ s + 1) * 2 ^ (64 - s) ≤ 18446744073709551616 := by rw [f2]; exact Nat.mul_le_mul_right _ hm
  rw [Nat.add_mul, Nat.one_mul] at t1
  have t2 : w1 * 2 ^ (32 - s) + w0 / 2 ^ s < 2 ^ (64 - s) := by
    have : (w1 + 1) * 2 ^ (32 - s) ≤ 4294967296 * 2 ^ (32 - s) := Nat.mul_le_mul_right _ h1
    rw [Nat.add_mul, Nat.one_mul, ← f3] at this
    omega
  have e3 : w2 * 2 ^ (64 - s) % 18446744073709551616 = (w2 % 2 ^ s) * 2 ^ (64 - s) := e2
  refine ⟨by rw [e2]; omega, by omega, by rw [e1]; omega, by omega, ?_⟩
  rw [e0]
  omega
theorem wrap_mod (x n : Nat) : IntKind.u64.wrap ((x : Int) * 2 ^ n) = ((x * 2 ^ n % 18446744073709551616 : Nat) : Int) := by
  rw [IntKind.wrap_u64]
  have e : (x : Int) * 2 ^ n = ((x * 2 ^ n : Nat) : Int) := by rw [Int.natCast_mul, Int.natCast_pow]; rfl
  rw [e]; rfl
theorem topBits_c {v1 : Value} {A n : Nat} {w : World} (h1 : IsW w v1 (digs A)) (hA : (digs A).length ≤ 100000000) (hn : n ≤ 100000000) (hb : A / 2 ^ n < 18446744073709551616) :
    Calls Try.prog 170 #[v1, .int .i64 (n : Int)] w (fun e w' => ∃ d, e = .returned (.int .u64 ((A / 2 ^ n : Nat) : Int)) ∧ w' = w.drewN d) := by
  obtain ⟨la, ela⟩ : ∃ la, la = digs A := ⟨_, rfl⟩
  have hla : Sm la := by rw [ela]; exact digs_sm A
  have va : wv la = A := by rw [ela]; exact wv_digs A
  rw [← ela] at h1 hA
  clear ela
  have HA := Lib.hid h1
  obtain ⟨s1, c1, rfl, p1, p2, _⟩ := h1
  have HLA := Lib.hid hla
  obtain ⟨k, hk⟩ : ∃ k, k = n / 32 := ⟨_, rfl⟩
  obtain ⟨s, hs⟩ : ∃ s, s = n % 32 := ⟨_, rfl⟩
  have e1 : (n : Int) / 32 = (k : Int) := by omega
  have e2 : (n : Int) % 32 = (s : Int) := by omega
  have hs32 : s < 32 := by omega
  have hk2 : k ≤ 100000000 := by omega
  have hn2 : n = 32 * k + s := by omega
  have hV := tb_val (la.getD (k + 2) 0) (la.getD (k + 1) 0) (la.getD k 0) s hs32 (sm_getD hla _) (sm_getD hla _) (sm_getD hla _)
  have HV : RowKit.Hid (A / 2 ^ n = tb0 (la.getD (k + 2) 0) (la.getD (k + 1) 0) (la.getD k 0) s) := Lib.hid (by
    rw [hV.2.2.2.2, hn2, ← va]
    exact top_val la hla k s hs32 (by rw [va, ← hn2]; exact hb))
  have hw2 := sm_getD hla (k + 2)
  have hw1 := sm_getD hla (k + 1)
  have hw0 := sm_getD hla k
  have a1 := hV.1
  have a2 := hV.2.1
  have a3 := hV.2.2.1
  have a4 := hV.2.2.2.1
  clear hV hla va hb hk hs hn2
  have HC : RowKit.Hid (∀ (i : Nat) (d : Nat), k + i < la.length → ∃ b off, s1 = some ⟨b, off, none⟩ ∧ (w.drewN d).cell? ⟨b, off + (k + i), none⟩ = some (.int .u32 ((la.getD (k + i) 0 : Nat) : Int))) := Lib.hid (by
    intro i d h
    obtain ⟨b, off, e, _, h2⟩ := HA.out.word h
    exact ⟨b, off, e, h2⟩)
  have k64 : ((64 : Int) - (s : Int)).toNat = 64 - s := by omega
  have k32 : ((32 : Int) - (s : Int)).toNat = 32 - s := by omega
  have g0 : ∀ i, ¬ k + i < la.length → la.getD (k + i) 0 = 0 := fun i h => gd_ge (by omega)
  have G0 := Lib.hid g0
  clear g0
  go_enter Try.func170, Try.ntmps170
  go_wp2
  go_loopw [7, 8, 9] (fun n7 n8 n9 wr => ∃ (d : Nat), wr = w.drewN d ∧ ((n8 = .int .i64 2 ∧ n7 = .int .u64 0) ∨ (n8 = .int .i64 1 ∧ n7 = .int .u64 (tb2 (la.getD (k + 2) 0) s : Nat)) ∨ (n8 = .int .i64 0 ∧ n7 = .int .u64 (tb1 (la.getD (k + 2) 0) (la.getD (k + 1) 0) s : Nat)) ∨
    (n8 = .int .i64 (-1) ∧ n7 = .int .u64 (tb0 (la.getD (k + 2) 0) (la.getD (k + 1) 0) (la.getD k 0) s : Nat)))) (fun _ n8 _ _ => (intOf n8 + 1).toNat)
  case atStart => exact ⟨0, rfl, .inl ⟨rfl, rfl⟩⟩
  case round =>
    obtain ⟨d, rfl, ⟨rfl, rfl⟩ | ⟨rfl, rfl⟩ | ⟨rfl, rfl⟩ | ⟨rfl, rfl⟩⟩ := hrel
    · by_cases hl : k + 2 < la.length
      · obtain ⟨b, off, rfl, hc⟩ := HC.out 2 d hl
        obtain ⟨x, ex⟩ : ∃ x, x = la.getD (k + 2) 0 := ⟨_, rfl⟩
        rw [← ex] at hc hw2
        have EX := Lib.hid ex
        rw [← ex] at a1 a3 ⊢
        clear ex
        by_cases hs0 : s = 0
        · subst hs0
          go_wp2_with fail
          go_roundw
          case rel => exact ⟨_, rfl, .inr (.inl ⟨rfl, by unfold tb2; rw [show (2 : Nat) ^ (64 - 0) = 18446744073709551616 from by decide, Nat.mul_mod_left]; rfl⟩)⟩
          case measure => decide
        · have hs1 : (0 : Int) < (s : Int) := by omega
          go_wp2_with fail
          go_roundw
          case rel => exact ⟨_, rfl, .inr (.inl ⟨rfl, by rw [wrap_mod]; rfl⟩)⟩
          case measure => decide
      · have hz := G0.out 2 hl
        rw [hz] at a1 a3 ⊢
        by_cases hs0 : s = 0
        · subst hs0
          go_wp2_with fail
          go_roundw
          case rel => exact ⟨_, rfl, .inr (.inl ⟨rfl, by unfold tb2; rw [Nat.zero_mul]; rfl⟩)⟩
          case measure => decide
        · have hs1 : (0 : Int) < (s : Int) := by omega
          go_wp2_with fail
          go_roundw
          case rel => exact ⟨_, rfl, .inr (.inl ⟨rfl, by unfold tb2; rw [Nat.zero_mul]; first | rfl | simp [IntKind.wrap_u64]⟩)⟩
          case measure => decide
    · generalize la.getD (k + 2) 0 = y at *
      by_cases hl : k + 1 < la.length
      · obtain ⟨b, off, rfl, hc⟩ := HC.out 1 d hl
        obtain ⟨x, ex⟩ : ∃ x, x = la.getD (k + 1) 0 := ⟨_, rfl⟩
        rw [← ex] at hc hw1
        have EX := Lib.hid ex
        rw [← ex] at a2 a3 ⊢
        clear ex
        go_wp2_with fail
        go_roundw
        case rel => exact ⟨_, rfl, .inr (.inr (.inl ⟨rfl, by rw [wrap_mod, Nat.mod_eq_of_lt a2, bits_or_u64n _ _ a1 a2]; rfl⟩))⟩
        case measure => decide
      · have hz := G0.out 1 hl
        rw [hz] at a2 a3 ⊢
        go_wp2_with fail
        go_roundw
        case rel => exact ⟨_, rfl, .inr (.inr (.inl ⟨rfl, by unfold tb1; rw [Nat.zero_mul, Nat.or_zero]; first | rfl | (rw [show IntKind.u64.wrap ((0 : Int) * 2 ^ (32 - s)) = ((0 : Nat) : Int) from by rw [Int.zero_mul]; rfl, bits_or_u64n _ _ a1 (by decide), Nat.or_zero]) | (rw [show IntKind.u64.wrap (0 : Int) = ((0 : Nat) : Int) from rfl, bits_or_u64n _ _ a1 (by decide), Nat.or_zero]) | (rw [show (0 : Int) = ((0 : Nat) : Int) from rfl, bits_or_u64n _ _ a1 (by decide), Nat.or_zero])⟩))⟩
        case measure => decide
    · generalize la.getD (k + 2) 0 = y2 at *
      generalize la.getD (k + 1) 0 = y at *
      by_cases hl : k + 0 < la.length
      · obtain ⟨b, off, rfl, hc⟩ := HC.out 0 d hl
        simp only [Nat.add_zero] at hc hl
        have hl0 : (k : Int) < (la.length : Int) := by omega
        obtain ⟨x, ex⟩ : ∃ x, x = la.getD k 0 := ⟨_, rfl⟩
        rw [← ex] at hc hw0
        have EX := Lib.hid ex
        rw [← ex] at a4 ⊢
        clear ex
        have HQ := Lib.hid (show (x : Int) / 2 ^ s = ((x / 2 ^ s : Nat) : Int) from by rw [Int.natCast_ediv, Int.natCast_pow]; rfl)
        go_wp2_with fail
        go_roundw
        case rel => exact ⟨_, rfl, .inr (.inr (.inr ⟨rfl, by rw [HQ.out, bits_or_u64n _ _ a3 a4]; rfl⟩))⟩
        case measure => decide
      · have hz := G0.out 0 hl
        simp only [Nat.add_zero] at hz hl
        rw [hz] at a4 ⊢
        have hl0 : ¬ (k : Int) < (la.length : Int) := by omega
        go_wp2_with fail
        go_roundw
        case rel => exact ⟨_, rfl, .inr (.inr (.inr ⟨rfl, by unfold tb0; rw [Nat.zero_div, Nat.or_zero]; first | rfl | (rw [show (0 : Int) / 2 ^ s = ((0 : Nat) : Int) from by rw [Int.zero_ediv]; rfl, bits_or_u64n _ _ a3 (by decide), Nat.or_zero]) | (rw [show (0 : Int) = ((0 : Nat) : Int) from rfl, bits_or_u64n _ _ a3 (by decide), Nat.or_zero])⟩))⟩
        case measure => decide
    · go_wp2_with fail
      go_ret
      exact ⟨_, by rw [HV.out]; rfl, rfl⟩
end Go.Proofs.Ytcfkhhnkboealaa
