/- Half planes bent to polygons: what the map goes on by. -/
import Derived.Test.YtcfkhhnkboealaaZe
namespace Go.Proofs.Ytcfkhhnkboealaa
open Go.RowKit
set_option linter.unusedVariables false
set_option linter.unusedSimpArgs false
set_option maxRecDepth 100000
set_option maxHeartbeats 4000000
@[go_sem] theorem idxN_0 (W : World) (a b c d e f g h : Nat) : (Instr.index 161 (.agg #[.float .f64 a, .float .f64 b, .float .f64 c, .float .f64 d, .float .f64 e, .float .f64 f, .float .f64 g, .float .f64 h]) (.int .i64 0)).run Try.prog W = .ok (.agg #[.float .f64 a, .float .f64 b]) W := by kernel_rfl
@[go_sem] theorem idxN_1 (W : World) (a b c d e f g h : Nat) : (Instr.index 161 (.agg #[.float .f64 a, .float .f64 b, .float .f64 c, .float .f64 d, .float .f64 e, .float .f64 f, .float .f64 g, .float .f64 h]) (.int .i64 1)).run Try.prog W = .ok (.agg #[.float .f64 c, .float .f64 d]) W := by kernel_rfl
@[go_sem] theorem idxN_2 (W : World) (a b c d e f g h : Nat) : (Instr.index 161 (.agg #[.float .f64 a, .float .f64 b, .float .f64 c, .float .f64 d, .float .f64 e, .float .f64 f, .float .f64 g, .float .f64 h]) (.int .i64 2)).run Try.prog W = .ok (.agg #[.float .f64 e, .float .f64 f]) W := by kernel_rfl
@[go_sem] theorem idxN_3 (W : World) (a b c d e f g h : Nat) : (Instr.index 161 (.agg #[.float .f64 a, .float .f64 b, .float .f64 c, .float .f64 d, .float .f64 e, .float .f64 f, .float .f64 g, .float .f64 h]) (.int .i64 3)).run Try.prog W = .ok (.agg #[.float .f64 g, .float .f64 h]) W := by kernel_rfl
theorem fzn_alloc (w : World) (c : Array Value) (t : TypeId) (i : Nat) : (w.alloc (.cells c t)).frozen? ⟨w.heap.size, i, none⟩ = false := by
  rw [frozen?_alloc_cells]
  unfold World.frozen?
  rw [Array.getElem?_eq_none (Nat.le_refl _)]
/-- a row of numbers of the call's own: the first k are known. -/
structure RowC (W : World) (b n k : Nat) (F G : Nat → Nat) : Prop where
  lt : b < W.heap.size
  done : ∀ j, j < k → ∃ r s, W.cell? ⟨b, j, none⟩ = some (.complex .f64 r s) ∧ Rep r (F j) ∧ Rep s (G j)
  has : ∀ j, j < n → HasCell W ⟨b, j, none⟩
  fz : ∀ j, W.frozen? ⟨b, j, none⟩ = false
theorem RowC.up {W W' : World} {b n k : Nat} {F G : Nat → Nat} (h : RowC W b n k F G) (g : GrW W W') : RowC W' b n k F G :=
  ⟨Nat.lt_of_lt_of_le h.lt g.size, fun j hj => by obtain ⟨r, s, c, q⟩ := h.done j hj; exact ⟨r, s, (g.cell (a := ⟨b, j, none⟩) h.lt).trans c, q⟩,
   fun j hj => by obtain ⟨u, c⟩ := h.has j hj; exact ⟨u, (g.cell (a := ⟨b, j, none⟩) h.lt).trans c⟩, fun j => (g.frozen (a := ⟨b, j, none⟩) h.lt).trans (h.fz j)⟩
theorem RowC.other {W : World} {b n k c i : Nat} {F G : Nat → Nat} (h : RowC W b n k F G) (ne : c ≠ b) (v : Value) : RowC (W.setCell ⟨c, i, none⟩ v) b n k F G :=
  ⟨by simpa [World.setCell] using h.lt, fun j hj => by obtain ⟨r, s, c, q⟩ := h.done j hj; exact ⟨r, s, cu_setb ne c, q⟩,
   fun j hj => hc_set (h.has j hj), fun j => (World.frozen?_setCell _ _ _ _).trans (h.fz j)⟩
theorem RowC.put {W : World} {b n k r s : Nat} {F G : Nat → Nat} (h : RowC W b n k F G) (hk : k < n) (p : Rep r (F k)) (q : Rep s (G k)) : RowC (W.setCell ⟨b, k, none⟩ (.complex .f64 r s)) b n (k + 1) F G :=
  ⟨by simpa [World.setCell] using h.lt, fun j hj => by
    rcases Nat.lt_or_ge j k with c | c
    · obtain ⟨r', s', c', q'⟩ := h.done j c
      exact ⟨r', s', cu_set (by omega) c', q'⟩
    · obtain rfl : j = k := by omega
      exact ⟨r, s, cu_same (h.has j hk), p, q⟩, fun j hj => hc_set (h.has j hj), fun j => (World.frozen?_setCell _ _ _ _).trans (h.fz j)⟩
theorem RowC.made (W : World) (n : Nat) (F G : Nat → Nat) (T : TypeId) : RowC (W.alloc (.cells (madeCells #[.complex .f64 0 0] n) T)) W.heap.size n 0 F G :=
  ⟨by simp, fun j hj => by omega, fun j hj => hc_new (by simp [madeCells]; exact hj), fun j => fzn_alloc _ _ _ _⟩
/-- cells that stay, in blocks before N. -/
structure Kp (N : Nat) (W : World) (L : List (Addr × Value)) : Prop where
  sz : N ≤ W.heap.size
  all : ∀ (i : Nat) (a : Addr) (v : Value), L[i]? = some (a, v) → a.block < N ∧ W.cell? a = some v
theorem Kp.cell {N : Nat} {W : World} {L : List (Addr × Value)} (h : Kp N W L) (i : Nat) {a : Addr} {v : Value} (e : L[i]? = some (a, v)) : W.cell? a = some v := (h.all i a v e).2
theorem Kp.lt {N : Nat} {W : World} {L : List (Addr × Value)} (h : Kp N W L) (i : Nat) {a : Addr} {v : Value} (e : L[i]? = some (a, v)) : a.block < N := (h.all i a v e).1
theorem Kp.up {N : Nat} {W W' : World} {L : List (Addr × Value)} (h : Kp N W L) (g : GrW W W') : Kp N W' L :=
  ⟨Nat.le_trans h.sz g.size, fun i a v e => ⟨h.lt i e, (g.cell (Nat.lt_of_lt_of_le (h.lt i e) h.sz)).trans (h.cell i e)⟩⟩
theorem Kp.set {N : Nat} {W : World} {L : List (Addr × Value)} (h : Kp N W L) {c i : Nat} (hc : N ≤ c) (u : Value) : Kp N (W.setCell ⟨c, i, none⟩ u) L :=
  ⟨by simpa [World.setCell] using h.sz, fun j a v e => ⟨h.lt j e, Eq.trans (World.cell?_setCell_other _ _ _ _ (by intro e2; have := h.lt j e; rw [← e2] at this; simp at this; omega)) (h.cell j e)⟩⟩
theorem Kp.more {N M : Nat} {W : World} {L : List (Addr × Value)} (h : Kp N W L) (h1 : N ≤ M) (h2 : M ≤ W.heap.size) : Kp M W L := ⟨h2, fun i a v e => ⟨Nat.lt_of_lt_of_le (h.lt i e) h1, h.cell i e⟩⟩
theorem Kp.add {N : Nat} {W : World} {L : List (Addr × Value)} (h : Kp N W L) {a : Addr} {v : Value} (lt : a.block < N) (e : W.cell? a = some v) : Kp N W (L ++ [(a, v)]) :=
  ⟨h.sz, fun i b u q => by
    rcases Nat.lt_or_ge i L.length with k | k
    · rw [List.getElem?_append_left k] at q; exact h.all i b u q
    · rw [List.getElem?_append_right k] at q
      cases hj : i - L.length with
      | zero => rw [hj] at q; simp at q; obtain ⟨rfl, rfl⟩ := q; exact ⟨lt, e⟩
      | succ n => rw [hj] at q; simp at q⟩
theorem Kp.take {N : Nat} {W : World} {L M : List (Addr × Value)} (h : Kp N W (L ++ M)) (k : ∀ (i : Nat) (a : Addr) (v : Value), L[i]? = some (a, v) → a.block < N) : Kp N W L :=
  ⟨h.sz, fun i a v e => h.all i a v (by rw [List.getElem?_append_left (List.getElem?_eq_some_iff.1 e).1]; exact e)⟩
theorem Kp.start (w : World) : Kp w.heap.size w [] := ⟨Nat.le_refl _, fun i a v e => by simp at e⟩
theorem Kp.box {N : Nat} {W : World} {L : List (Addr × Value)} (h : Kp N W L) (e : W.heap.size = N) (v : Value) (T : TypeId) : Kp (N + 1) (W.alloc (.cells #[v] T)) (L ++ [(⟨N, 0, none⟩, v)]) := by
  subst e
  exact ((h.up ((GrW.refl _).alloc _)).more (Nat.le_succ _) (by simp)).add (by simp) (cu_new rfl)
theorem Kp.box8 {W : World} {L : List (Addr × Value)} {N : Nat} (h : Kp N W L) (v0 v1 v2 v3 v4 v5 v6 v7 : Value) (T : TypeId) : Kp (W.heap.size + 1) (W.alloc (.cells #[v0, v1, v2, v3, v4, v5, v6, v7] T))
    (L ++ [(⟨W.heap.size, 0, none⟩, v0)] ++ [(⟨W.heap.size, 1, none⟩, v1)] ++ [(⟨W.heap.size, 2, none⟩, v2)] ++ [(⟨W.heap.size, 3, none⟩, v3)] ++ [(⟨W.heap.size, 4, none⟩, v4)] ++ [(⟨W.heap.size, 5, none⟩, v5)] ++ [(⟨W.heap.size, 6, none⟩, v6)] ++ [(⟨W.heap.size, 7, none⟩, v7)]) :=
  ((((((((((h.more h.sz (Nat.le_refl _)).up ((GrW.refl _).alloc _)).more (Nat.le_succ _) (by simp)).add (by simp) (cu_new rfl)).add (by simp) (cu_new rfl)).add (by simp) (cu_new rfl)).add (by simp) (cu_new rfl)).add (by simp) (cu_new rfl)).add (by simp) (cu_new rfl)).add (by simp) (cu_new rfl)).add (by simp) (cu_new rfl)
theorem Kp.boxN {W : World} {L : List (Addr × Value)} {N : Nat} (h : Kp N W L) (v : Value) (T : TypeId) : Kp (W.heap.size + 1) (W.alloc (.cells #[v] T)) (L ++ [(⟨W.heap.size, 0, none⟩, v)]) := (h.more h.sz (Nat.le_refl _)).box rfl v T
theorem Kp.size {W : World} {L : List (Addr × Value)} {N : Nat} (h : Kp N W L) : Kp W.heap.size W L := h.more h.sz (Nat.le_refl _)
/-- the world of the outer round, of the inner one. -/
structure OutW (w W : World) (bo : Nat) (L : List (Addr × Value)) (m k : Nat) (F G : Nat → Nat) : Prop where
  gr : GrW w W
  kp : Kp bo W L
  row : RowC W bo m k F G
structure InW (w W : World) (bo bs : Nat) (L : List (Addr × Value)) (m k j : Nat) (F G X Y : Nat → Nat) : Prop where
  gr : GrW w W
  kp : Kp bs W L
  row : RowC W bo m k F G
  own : RowC W bs 4 j X Y
theorem OutW.up {w W W' : World} {bo m k : Nat} {L : List (Addr × Value)} {F G : Nat → Nat} (h : OutW w W bo L m k F G) (g : GrW W W') : OutW w W' bo L m k F G := ⟨h.gr.trans g, h.kp.up g, h.row.up g⟩
theorem InW.up {w W W' : World} {bo bs m k j : Nat} {L : List (Addr × Value)} {F G X Y : Nat → Nat} (h : InW w W bo bs L m k j F G X Y) (g : GrW W W') : InW w W' bo bs L m k j F G X Y := ⟨h.gr.trans g, h.kp.up g, h.row.up g, h.own.up g⟩
theorem InW.put {w W : World} {bo bs m k j r s : Nat} {L : List (Addr × Value)} {F G X Y : Nat → Nat} (h : InW w W bo bs L m k j F G X Y) (hb : w.heap.size ≤ bs) (ne : bs ≠ bo) (hj : j < 4) (p : Rep r (X j)) (q : Rep s (Y j)) : InW w (W.setCell ⟨bs, j, none⟩ (.complex .f64 r s)) bo bs L m k (j + 1) F G X Y :=
  ⟨h.gr.setCell hb _, h.kp.set (Nat.le_refl _) _, h.row.other ne _, h.own.put hj p q⟩
theorem InW.out {w W : World} {bo bs m k j r s : Nat} {L M : List (Addr × Value)} {F G X Y : Nat → Nat} (h : InW w W bo bs (L ++ M) m k j F G X Y) (hb : w.heap.size ≤ bo) (hk : k < m) (hL : ∀ (i : Nat) (a : Addr) (v : Value), L[i]? = some (a, v) → a.block < bo) (p : Rep r (F k)) (q : Rep s (G k)) :
    OutW w (W.setCell ⟨bo, k, none⟩ (.complex .f64 r s)) bo L m (k + 1) F G :=
  ⟨h.gr.setCell hb _, ((⟨Nat.le_of_lt h.row.lt, fun i a v e => ⟨hL i a v e, h.kp.cell i (by rw [List.getElem?_append_left (List.getElem?_eq_some_iff.1 e).1]; exact e)⟩⟩ : Kp bo W L)).set (Nat.le_refl _) _, h.row.put hk p q⟩
theorem Kp.ap {L M : List (Addr × Value)} {i : Nat} {p : Addr × Value} (h : L[i]? = some p) : (L ++ M)[i]? = some p := by rw [List.getElem?_append_left (List.getElem?_eq_some_iff.1 h).1]; exact h
theorem Kp.apl {L : List (Addr × Value)} {n : Nat} {p : Addr × Value} (h : L.length = n) : (L ++ [p])[n]? = some p := by subst h; simp
def ndT : Nat → Nat
  | 0 => 13824800083116702085
  | 1 => 13818664611150118396
  | 2 => 4595292574295342588
  | _ => 4601428046261926277
def ndU : Nat → Nat
  | 0 => 4599938015721666155
  | 1 => 4604049220898137290
  | 2 => 4604049220898137290
  | _ => 4599938015721666155
def ndX (fs gs : List Nat) (mx my hx hy k j : Nat) : Nat := (nodeP fs gs mx my hx hy (ndT j) (ndU j) k).1
def ndY (fs gs : List Nat) (mx my hx hy k j : Nat) : Nat := (nodeP fs gs mx my hx hy (ndT j) (ndU j) k).2
theorem nd0_c {w : World} {b cap n b2 c2 ba bg bm bh mx my hx hy fmx fmy fhx fhy : Nat} {xs fs ys gs : List Nat} (h : FW w b cap xs fs) (hn : xs.length = n) (k : FW w b2 c2 ys gs) (kn : ys.length = n) (h1 : 3 ≤ n)
    (ca : w.cell? ⟨ba, 0, none⟩ = some (.slice (some ⟨b, 0, none⟩) n cap)) (cg : w.cell? ⟨bg, 0, none⟩ = some (.slice (some ⟨b2, 0, none⟩) n c2)) (cm : w.cell? ⟨bm, 0, none⟩ = some (.complex .f64 mx my)) (ch : w.cell? ⟨bh, 0, none⟩ = some (.complex .f64 hx hy))
    (rmx : Rep mx fmx) (rmy : Rep my fmy) (rhx : Rep hx fhx) (rhy : Rep hy fhy) (num : numP fs gs (fadd fmx (fmul (ndT 0) fhx)) = true) :
    Calls Try.prog 166 #[.agg #[.float .f64 13824800083116702085, .float .f64 4599938015721666155], .pointer (some ⟨ba, 0, none⟩), .pointer (some ⟨bg, 0, none⟩), .pointer (some ⟨bm, 0, none⟩), .pointer (some ⟨bh, 0, none⟩)] w (RetCG (ndX fs gs fmx fmy fhx fhy (n - 1) 0) (ndY fs gs fmx fmy fhx fhy (n - 1) 0) w) :=
  node_c h hn k kn h1 ca cg cm ch rmx rmy rhx rhy (Rep.self (by decide) (by decide +kernel)) (Rep.self (by decide) (by decide +kernel)) num
theorem nd1_c {w : World} {b cap n b2 c2 ba bg bm bh mx my hx hy fmx fmy fhx fhy : Nat} {xs fs ys gs : List Nat} (h : FW w b cap xs fs) (hn : xs.length = n) (k : FW w b2 c2 ys gs) (kn : ys.length = n) (h1 : 3 ≤ n)
    (ca : w.cell? ⟨ba, 0, none⟩ = some (.slice (some ⟨b, 0, none⟩) n cap)) (cg : w.cell? ⟨bg, 0, none⟩ = some (.slice (some ⟨b2, 0, none⟩) n c2)) (cm : w.cell? ⟨bm, 0, none⟩ = some (.complex .f64 mx my)) (ch : w.cell? ⟨bh, 0, none⟩ = some (.complex .f64 hx hy))
    (rmx : Rep mx fmx) (rmy : Rep my fmy) (rhx : Rep hx fhx) (rhy : Rep hy fhy) (num : numP fs gs (fadd fmx (fmul (ndT 1) fhx)) = true) :
    Calls Try.prog 166 #[.agg #[.float .f64 13818664611150118396, .float .f64 4604049220898137290], .pointer (some ⟨ba, 0, none⟩), .pointer (some ⟨bg, 0, none⟩), .pointer (some ⟨bm, 0, none⟩), .pointer (some ⟨bh, 0, none⟩)] w (RetCG (ndX fs gs fmx fmy fhx fhy (n - 1) 1) (ndY fs gs fmx fmy fhx fhy (n - 1) 1) w) :=
  node_c h hn k kn h1 ca cg cm ch rmx rmy rhx rhy (Rep.self (by decide) (by decide +kernel)) (Rep.self (by decide) (by decide +kernel)) num
theorem nd2_c {w : World} {b cap n b2 c2 ba bg bm bh mx my hx hy fmx fmy fhx fhy : Nat} {xs fs ys gs : List Nat} (h : FW w b cap xs fs) (hn : xs.length = n) (k : FW w b2 c2 ys gs) (kn : ys.length = n) (h1 : 3 ≤ n)
    (ca : w.cell? ⟨ba, 0, none⟩ = some (.slice (some ⟨b, 0, none⟩) n cap)) (cg : w.cell? ⟨bg, 0, none⟩ = some (.slice (some ⟨b2, 0, none⟩) n c2)) (cm : w.cell? ⟨bm, 0, none⟩ = some (.complex .f64 mx my)) (ch : w.cell? ⟨bh, 0, none⟩ = some (.complex .f64 hx hy))
    (rmx : Rep mx fmx) (rmy : Rep my fmy) (rhx : Rep hx fhx) (rhy : Rep hy fhy) (num : numP fs gs (fadd fmx (fmul (ndT 2) fhx)) = true) :
    Calls Try.prog 166 #[.agg #[.float .f64 4595292574295342588, .float .f64 4604049220898137290], .pointer (some ⟨ba, 0, none⟩), .pointer (some ⟨bg, 0, none⟩), .pointer (some ⟨bm, 0, none⟩), .pointer (some ⟨bh, 0, none⟩)] w (RetCG (ndX fs gs fmx fmy fhx fhy (n - 1) 2) (ndY fs gs fmx fmy fhx fhy (n - 1) 2) w) :=
  node_c h hn k kn h1 ca cg cm ch rmx rmy rhx rhy (Rep.self (by decide) (by decide +kernel)) (Rep.self (by decide) (by decide +kernel)) num
theorem nd3_c {w : World} {b cap n b2 c2 ba bg bm bh mx my hx hy fmx fmy fhx fhy : Nat} {xs fs ys gs : List Nat} (h : FW w b cap xs fs) (hn : xs.length = n) (k : FW w b2 c2 ys gs) (kn : ys.length = n) (h1 : 3 ≤ n)
    (ca : w.cell? ⟨ba, 0, none⟩ = some (.slice (some ⟨b, 0, none⟩) n cap)) (cg : w.cell? ⟨bg, 0, none⟩ = some (.slice (some ⟨b2, 0, none⟩) n c2)) (cm : w.cell? ⟨bm, 0, none⟩ = some (.complex .f64 mx my)) (ch : w.cell? ⟨bh, 0, none⟩ = some (.complex .f64 hx hy))
    (rmx : Rep mx fmx) (rmy : Rep my fmy) (rhx : Rep hx fhx) (rhy : Rep hy fhy) (num : numP fs gs (fadd fmx (fmul (ndT 3) fhx)) = true) :
    Calls Try.prog 166 #[.agg #[.float .f64 4601428046261926277, .float .f64 4599938015721666155], .pointer (some ⟨ba, 0, none⟩), .pointer (some ⟨bg, 0, none⟩), .pointer (some ⟨bm, 0, none⟩), .pointer (some ⟨bh, 0, none⟩)] w (RetCG (ndX fs gs fmx fmy fhx fhy (n - 1) 3) (ndY fs gs fmx fmy fhx fhy (n - 1) 3) w) :=
  node_c h hn k kn h1 ca cg cm ch rmx rmy rhx rhy (Rep.self (by decide) (by decide +kernel)) (Rep.self (by decide) (by decide +kernel)) num
end Go.Proofs.Ytcfkhhnkboealaa
