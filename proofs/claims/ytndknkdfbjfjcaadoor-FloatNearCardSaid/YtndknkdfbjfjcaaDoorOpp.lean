/- Sums of opposite floats are opposite, noughts' signs aside. No condition. -/
import Derived.Test.YtndknkdfbjfjcaaDoorTurn
import Derived.Test.YtndknkdfbjfjcaaDoorLawFin
namespace Go.Proofs.YtndknkdfbjfjcaaDoor
set_option linter.unusedVariables false

/-- infinite? -/
theorem inf_of {f : Nat} (hn : isN f = false) (h : fin f = false) : rung f = 9218868437227405312 := by
  have := (notN_iff f).1 hn
  unfold fin at h; simp at h; omega
theorem not_fin_of {f : Nat} (h : rung f = 9218868437227405312) : fin f = false := by unfold fin; rw [h]; rfl
theorem notN_of {f : Nat} (h : rung f = 9218868437227405312) : isN f = false := by rw [notN_iff]; omega
theorem fadd_infl {f g : Nat} (hf : rung f = 9218868437227405312) (hg : fin g = true) : fadd f g = wd (sgn f) 9218868437227405312 := by
  obtain ⟨n, j, hs, hn, _⟩ := read_number (fin_rung hg)
  rw [add_def, read_inf hf, hs]
  show Ieee.double.word _ _ = _
  rw [word_eq, show Ieee.double.infRung = 9218868437227405312 by decide +kernel]
theorem fadd_infr {f g : Nat} (hf : fin f = true) (hg : rung g = 9218868437227405312) : fadd f g = wd (sgn g) 9218868437227405312 := by
  obtain ⟨n, j, hs, hn, _⟩ := read_number (fin_rung hf)
  rw [add_def, read_inf hg, hs]
  show Ieee.double.word _ _ = _
  rw [word_eq, show Ieee.double.infRung = 9218868437227405312 by decide +kernel]
theorem fadd_infinf {f g : Nat} (hf : rung f = 9218868437227405312) (hg : rung g = 9218868437227405312) : fadd f g = if sgn f = sgn g then wd (sgn f) 9218868437227405312 else nanB := by
  rw [add_def, read_inf hf, read_inf hg]
  simp only [Ieee.Datum.sum]
  split
  · show Ieee.double.word _ _ = _
    rw [word_eq, show Ieee.double.infRung = 9218868437227405312 by decide +kernel]
  · rfl
theorem fadd_nan {f g : Nat} (h : isN f = true ∨ isN g = true) : fadd f g = nanB := by rw [add_def, sum_none _ _ h]; rfl

def Opp (s t : Nat) : Prop := (isN s = true ∧ isN t = true) ∨ (isN s = false ∧ isN t = false ∧ rung s = rung t ∧ (rung s = 0 ∨ sgn t = !sgn s))
theorem Opp.neg {f : Nat} (hl : f < 18446744073709551616) : Opp f (fneg f) := by
  cases hn : isN f
  · exact .inr ⟨hn, by rw [isN_neg, hn], (rung_neg' hn).symm, .inr (sgn_neg hl hn)⟩
  · exact .inl ⟨hn, by rw [isN_neg, hn]⟩
theorem Opp.sval {s t : Nat} (h : Opp s t) (hn : isN s = false) : sval t = -sval s := by
  rcases h with ⟨h, _⟩ | ⟨_, _, hr, h⟩
  · rw [hn] at h; cases h
  · unfold Proofs.YtndknkdfbjfjcaaDoor.sval
    rw [← hr]
    rcases h with h | h
    · rw [h, mval_zero]; cases Proofs.YtndknkdfbjfjcaaDoor.sgn s <;> cases Proofs.YtndknkdfbjfjcaaDoor.sgn t <;> rfl
    · rw [h]; cases Proofs.YtndknkdfbjfjcaaDoor.sgn s <;> simp
theorem Opp.fin {s t : Nat} (h : Opp s t) : fin t = fin s := by
  rcases h with ⟨h1, h2⟩ | ⟨_, _, hr, _⟩
  · cases h3 : Proofs.YtndknkdfbjfjcaaDoor.fin s
    · cases h4 : Proofs.YtndknkdfbjfjcaaDoor.fin t
      · rfl
      · rw [fin_notN h4] at h2; cases h2
    · rw [fin_notN h3] at h1; cases h1
  · unfold Proofs.YtndknkdfbjfjcaaDoor.fin; rw [hr]
theorem Opp.nan {s t : Nat} (h : Opp s t) : isN t = isN s := by
  rcases h with ⟨h1, h2⟩ | ⟨h1, h2, _⟩ <;> rw [h1, h2]
theorem Opp.inf {s t : Nat} (h : Opp s t) (hi : rung s = 9218868437227405312) : rung t = 9218868437227405312 ∧ sgn t = !sgn s := by
  rcases h with ⟨h1, _⟩ | ⟨_, _, hr, h⟩
  · rw [notN_of hi] at h1; cases h1
  · rw [← hr]
    rcases h with h | h
    · omega
    · exact ⟨hi, h⟩
theorem Opp.wd (s : Bool) (r : Nat) (h : r ≤ 9218868437227405312) : Opp (wd s r) (wd (!s) r) :=
  .inr ⟨wd_notN h, wd_notN h, by rw [wd_rung h, wd_rung h], .inr (by rw [wd_sgn h, wd_sgn h])⟩
theorem Opp.add {a a' b b' : Nat} (h : Opp a a') (k : Opp b b') : Opp (fadd a b) (fadd a' b') := by
  cases ha : isN a
  · cases hb : isN b
    · cases fa : Proofs.YtndknkdfbjfjcaaDoor.fin a
      · have ia := inf_of ha fa
        obtain ⟨ia', sa⟩ := h.inf ia
        cases fb : Proofs.YtndknkdfbjfjcaaDoor.fin b
        · have ib := inf_of hb fb
          obtain ⟨ib', sb⟩ := k.inf ib
          rw [fadd_infinf ia ib, fadd_infinf ia' ib', sa, sb]
          by_cases e : Proofs.YtndknkdfbjfjcaaDoor.sgn a = Proofs.YtndknkdfbjfjcaaDoor.sgn b
          · rw [if_pos e, if_pos (by rw [e])]; exact Opp.wd _ _ (by omega)
          · rw [if_neg e, if_neg (by intro h2; apply e; revert h2; cases Proofs.YtndknkdfbjfjcaaDoor.sgn a <;> cases Proofs.YtndknkdfbjfjcaaDoor.sgn b <;> simp)]
            exact .inl ⟨isN_nanB, isN_nanB⟩
        · rw [fadd_infl ia fb, fadd_infl ia' (by rw [k.fin, fb]), sa]; exact Opp.wd _ _ (by omega)
      · cases fb : Proofs.YtndknkdfbjfjcaaDoor.fin b
        · have ib := inf_of hb fb
          obtain ⟨ib', sb⟩ := k.inf ib
          rw [fadd_infr fa ib, fadd_infr (by rw [h.fin, fa]) ib', sb]; exact Opp.wd _ _ (by omega)
        · rw [fadd_fin fa fb, fadd_fin (by rw [h.fin, fa]) (by rw [k.fin, fb]), h.sval ha, k.sval hb]
          have e1 : -Proofs.YtndknkdfbjfjcaaDoor.sval a + -Proofs.YtndknkdfbjfjcaaDoor.sval b = -(Proofs.YtndknkdfbjfjcaaDoor.sval a + Proofs.YtndknkdfbjfjcaaDoor.sval b) := by omega
          rw [e1, Int.natAbs_neg]
          by_cases h0 : Proofs.YtndknkdfbjfjcaaDoor.sval a + Proofs.YtndknkdfbjfjcaaDoor.sval b = 0
          · rw [h0]
            simp only [Int.neg_zero, if_true, Int.natAbs_zero]
            have e : rndN 0 = 0 := rfl
            rw [e]
            exact .inr ⟨wd_notN (by omega), wd_notN (by omega), by rw [wd_rung (by omega), wd_rung (by omega)], .inl (wd_rung (by omega))⟩
          · rw [if_neg h0, if_neg (by omega)]
            have e3 : decide (-(Proofs.YtndknkdfbjfjcaaDoor.sval a + Proofs.YtndknkdfbjfjcaaDoor.sval b) < 0) = !decide (Proofs.YtndknkdfbjfjcaaDoor.sval a + Proofs.YtndknkdfbjfjcaaDoor.sval b < 0) := by
              by_cases h1 : Proofs.YtndknkdfbjfjcaaDoor.sval a + Proofs.YtndknkdfbjfjcaaDoor.sval b < 0
              · rw [decide_eq_true h1, decide_eq_false (by omega)]; rfl
              · rw [decide_eq_false h1, decide_eq_true (by omega)]; rfl
            rw [e3]; exact Opp.wd _ _ (rndN_le _)
    · rw [fadd_nan (.inr hb), fadd_nan (.inr (k.nan.trans hb))]; exact .inl ⟨isN_nanB, isN_nanB⟩
  · rw [fadd_nan (.inl ha), fadd_nan (.inl (h.nan.trans ha))]; exact .inl ⟨isN_nanB, isN_nanB⟩
theorem Opp.flip {s t : Nat} (hs : s < 18446744073709551616) (ht : t < 18446744073709551616) (h : Opp s t) : Opp (fneg s) (fneg t) := by
  rcases h with ⟨h1, h2⟩ | ⟨h1, h2, hr, h⟩
  · exact .inl ⟨by rw [isN_neg, h1], by rw [isN_neg, h2]⟩
  · refine .inr ⟨by rw [isN_neg, h1], by rw [isN_neg, h2], by rw [rung_neg' h1, rung_neg' h2, hr], ?_⟩
    rw [rung_neg' h1, sgn_neg hs h1, sgn_neg ht h2]
    rcases h with h | h
    · exact .inl h
    · exact .inr (by rw [h])
theorem Opp.sub {a a' b b' : Nat} (hb : b < 18446744073709551616) (hb' : b' < 18446744073709551616) (h : Opp a a') (k : Opp b b') : Opp (fsub a b) (fsub a' b') := by
  rw [fsub_eq hb, fsub_eq hb']
  exact h.add (k.flip hb hb')
theorem Opp.zero : Opp 0 0 := .inr (by decide +kernel)
theorem fadd_lt (a b : Nat) : fadd a b < 18446744073709551616 := canon_map_lt _
theorem fsub_lt (a b : Nat) : fsub a b < 18446744073709551616 := canon_map_lt _
theorem lost_turn {f g : Nat} (hf : f < 18446744073709551616) (hg : g < 18446744073709551616) : Opp (lostF f g) (lostF (fneg f) (fneg g)) := by
  unfold lostF
  have h := (Opp.neg hf).add (Opp.neg hg)
  rw [h.fin, fabs_neg, fabs_neg]
  split
  · exact Opp.zero
  · split
    · exact ((Opp.neg hf).sub (fsub_lt _ _) (fsub_lt _ _) (h.sub hg (fneg_lt hg) (Opp.neg hg))).add Opp.zero
    · exact ((Opp.neg hg).sub (fsub_lt _ _) (fsub_lt _ _) (h.sub hf (fneg_lt hf) (Opp.neg hf))).add Opp.zero
theorem lost_lt (f g : Nat) : lostF f g < 18446744073709551616 := by
  unfold lostF
  split
  · decide
  · split <;> exact canon_map_lt _
theorem Opp.feq {s t : Nat} (hs : s < 18446744073709551616) (ht : t < 18446744073709551616) (h : Opp s t) (hn : isN s = false) : feq s (fneg t) = true := by
  have hn2 : isN t = false := h.nan.trans hn
  rw [feq_eq, isN_neg, hn, hn2, sval_neg ht hn2, h.sval hn]
  simp
theorem fadd_notN_finite {f g : Nat} (h : fin (fadd f g) = true) : fin f = true ∧ fin g = true := by
  cases ha : isN f
  · cases hb : isN g
    · cases fa : fin f
      · exfalso
        have ia := inf_of ha fa
        cases fb : fin g
        · have ib := inf_of hb fb
          rw [fadd_infinf ia ib] at h
          split at h
          · rw [not_fin_of (wd_rung (by omega))] at h; cases h
          · rw [show fin nanB = false by decide +kernel] at h; cases h
        · rw [fadd_infl ia fb, not_fin_of (wd_rung (by omega))] at h; cases h
      · cases fb : fin g
        · exfalso
          have ib := inf_of hb fb
          rw [fadd_infr fa ib, not_fin_of (wd_rung (by omega))] at h; cases h
        · exact ⟨rfl, rfl⟩
    · exfalso; rw [fadd_nan (.inr hb), show fin nanB = false by decide +kernel] at h; cases h
  · exfalso; rw [fadd_nan (.inl ha), show fin nanB = false by decide +kernel] at h; cases h
theorem fadd_notN {f g : Nat} (hf : fin f = true) (hg : isN g = false) : isN (fadd f g) = false := by
  cases fb : fin g
  · rw [fadd_infr hf (inf_of hg fb)]; exact wd_notN (by omega)
  · rw [fadd_fin hf fb]; exact wd_notN (rndN_le _)
theorem fadd_notN2 {f g : Nat} (hf : isN f = false) (hg : fin g = true) : isN (fadd f g) = false := by
  cases fb : fin f
  · rw [fadd_infl (inf_of hf fb) hg]; exact wd_notN (by omega)
  · rw [fadd_fin fb hg]; exact wd_notN (rndN_le _)
theorem lost_notN {f g : Nat} (hf : f < 18446744073709551616) (hg : g < 18446744073709551616) : isN (lostF f g) = false := by
  unfold lostF
  cases hs : fin (fadd f g)
  · simp only [Bool.not_false, if_true]; decide +kernel
  · obtain ⟨ff, fg⟩ := fadd_notN_finite hs
    have key : ∀ a b, a < 18446744073709551616 → fin a = true → fin b = true → isN (fadd (fsub b (fsub (fadd f g) a)) 0) = false := by
      intro a b ha fa fb
      refine fadd_notN2 ?_ (by decide +kernel)
      rw [fsub_eq (fsub_lt _ _)]
      refine fadd_notN fb ?_
      rw [isN_neg, fsub_eq ha]
      exact fadd_notN hs (by rw [isN_neg]; exact fin_notN fa)
    simp only [Bool.not_true, Bool.false_eq_true, if_false]
    split
    · exact key g f hg fg ff
    · exact key f g hf ff fg
end Go.Proofs.YtndknkdfbjfjcaaDoor
