/- Numbers by words of 32 bits, the least one first: plain arithmetic. What stays in a world that has only grown. Lengths and last noughts of words: the library's functions. No condition but the table's. Words in memory: what a slice of words reads as, and rows of the call's own. Words: without the noughts at the end; copied; of a number; their bits. Words copied, of a number, as a number. Words of a number, a number of words, how many bits words have, and how they compare. Words' last noughts, their last 64 bits, and how they compare. How words compare. -/
import Derived.Test.YtcfkhhnkboealaaRows
import Derived.WalkKit
import Derived.WalkLawsBesides
import Derived.Lib.BitFns
import Derived.Lib.TrailingZeros
import Derived.Lib.Hide
import Derived.Laws.MakeOwn
import Derived.Laws.CopyOwn
import Derived.Deep.QuietTactic
import Derived.BigQuiet
namespace Go.Proofs.Ytcfkhhnkboealaa
set_option linter.unusedVariables false
set_option linter.unusedSimpArgs false

/-- what words are worth. -/
def wv : List Nat → Nat
  | [] => 0
  | x :: l => x + 4294967296 * wv l
/-- all below 2^32. -/
def Sm (l : List Nat) : Prop := ∀ x ∈ l, x < 4294967296
def digsF : Nat → Nat → List Nat
  | 0, _ => []
  | k + 1, n => if n = 0 then [] else n % 4294967296 :: digsF k (n / 4294967296)
/-- a number's words, without noughts at the end. -/
def digs (n : Nat) : List Nat := digsF n n
/-- no nought at the end. -/
def Trim (l : List Nat) : Prop := l = [] ∨ l.getD (l.length - 1) 0 ≠ 0
theorem gd_lt {l : List Nat} {i : Nat} (h : i < l.length) : l.getD i 0 = l[i] := by simp [List.getD_eq_getElem?_getD, h]
theorem gd_ge {l : List Nat} {i : Nat} (h : l.length ≤ i) : l.getD i 0 = 0 := by simp [List.getD_eq_getElem?_getD, h]

theorem sm_nil : Sm [] := fun _ h => by cases h
theorem sm_cons {x : Nat} {l : List Nat} : Sm (x :: l) ↔ x < 4294967296 ∧ Sm l := by
  constructor
  · intro h; exact ⟨h x (List.mem_cons_self ..), fun y hy => h y (List.mem_cons_of_mem _ hy)⟩
  · rintro ⟨h, k⟩ y hy
    rcases List.mem_cons.1 hy with rfl | hy
    · exact h
    · exact k y hy
theorem sm_append {a b : List Nat} : Sm (a ++ b) ↔ Sm a ∧ Sm b := by
  constructor
  · intro h; exact ⟨fun y hy => h y (List.mem_append_left _ hy), fun y hy => h y (List.mem_append_right _ hy)⟩
  · rintro ⟨h, k⟩ y hy
    rcases List.mem_append.1 hy with hy | hy
    · exact h y hy
    · exact k y hy
theorem sm_get {l : List Nat} (h : Sm l) {i : Nat} (hi : i < l.length) : l[i] < 4294967296 := h _ (List.getElem_mem hi)
theorem sm_getD {l : List Nat} (h : Sm l) (i : Nat) : l.getD i 0 < 4294967296 := by
  by_cases hi : i < l.length
  · rw [gd_lt hi]; exact sm_get h hi
  · rw [gd_ge (by omega)]; decide
theorem sm_take {l : List Nat} (h : Sm l) (k : Nat) : Sm (l.take k) := fun x hx => h x (List.mem_of_mem_take hx)
theorem sm_drop {l : List Nat} (h : Sm l) (k : Nat) : Sm (l.drop k) := fun x hx => h x (List.mem_of_mem_drop hx)
theorem sm_set {l : List Nat} (h : Sm l) (i : Nat) {v : Nat} (hv : v < 4294967296) : Sm (l.set i v) := fun x hx => by
  rcases List.mem_or_eq_of_mem_set hx with hx | rfl
  · exact h x hx
  · exact hv
theorem sm_replicate (n : Nat) : Sm (List.replicate n 0) := fun x hx => by rw [List.mem_replicate] at hx; omega

theorem wv_append (a b : List Nat) : wv (a ++ b) = wv a + 4294967296 ^ a.length * wv b := by
  induction a with
  | nil => simp [wv]
  | cons x a ih =>
    show x + 4294967296 * wv (a ++ b) = x + 4294967296 * wv a + 4294967296 ^ (a.length + 1) * wv b
    rw [ih, Nat.pow_succ, Nat.mul_add, Nat.mul_comm (4294967296 ^ a.length) 4294967296, Nat.mul_assoc]
    omega
theorem wv_lt {l : List Nat} (h : Sm l) : wv l < 4294967296 ^ l.length := by
  induction l with
  | nil => simp [wv]
  | cons x l ih =>
    have ⟨h1, h2⟩ := sm_cons.1 h
    have := ih h2
    show x + 4294967296 * wv l < 4294967296 ^ (l.length + 1)
    rw [Nat.pow_succ]
    generalize 4294967296 ^ l.length = P at *
    omega
theorem wv_replicate (n : Nat) : wv (List.replicate n 0) = 0 := by
  induction n with
  | zero => rfl
  | succ n ih => show 0 + 4294967296 * wv (List.replicate n 0) = 0; rw [ih]
theorem wv_take_drop (l : List Nat) (k : Nat) (hk : k ≤ l.length) : wv l = wv (l.take k) + 4294967296 ^ k * wv (l.drop k) := by
  have h := wv_append (l.take k) (l.drop k)
  rw [List.take_append_drop, List.length_take, Nat.min_eq_left hk] at h
  exact h
theorem wv_take_succ (l : List Nat) (k : Nat) (hk : k < l.length) : wv (l.take (k + 1)) = wv (l.take k) + 4294967296 ^ k * l[k] := by
  rw [List.take_succ_eq_append_getElem hk, wv_append, List.length_take, Nat.min_eq_left (by omega)]
  simp [wv]
/-- a word exchanged. -/
theorem wv_set (l : List Nat) (i v : Nat) (hi : i < l.length) : wv (l.set i v) + 4294967296 ^ i * l[i] = wv l + 4294967296 ^ i * v := by
  induction l generalizing i with
  | nil => simp at hi
  | cons x l ih =>
    cases i with
    | zero => simp [wv]; omega
    | succ i =>
      have := ih i (by simpa using hi)
      have hi' : i < l.length := by simpa using hi
      show x + 4294967296 * wv (l.set i v) + 4294967296 ^ (i + 1) * l[i] = x + 4294967296 * wv l + 4294967296 ^ (i + 1) * v
      rw [Nat.pow_succ, Nat.mul_comm (4294967296 ^ i) 4294967296, Nat.mul_assoc, Nat.mul_assoc]
      generalize 4294967296 ^ i * l[i] = P at *
      generalize 4294967296 ^ i * v = Q at *
      omega

theorem digsF_eq : ∀ (k n : Nat), n ≤ k → ∀ j, n ≤ j → digsF k n = digsF j n
  | 0, n, h, j, _ => by
    have : n = 0 := by omega
    subst this
    cases j with
    | zero => rfl
    | succ j => rfl
  | k + 1, n, h, j, hj => by
    by_cases h0 : n = 0
    · subst h0
      cases j with
      | zero => rfl
      | succ j => rfl
    · cases j with
      | zero => omega
      | succ j =>
        show (if n = 0 then [] else _) = (if n = 0 then [] else _)
        rw [if_neg h0, if_neg h0, digsF_eq k (n / 4294967296) (by omega) j (by omega)]
theorem digs_zero : digs 0 = [] := rfl
theorem digs_pos {n : Nat} (h : n ≠ 0) : digs n = n % 4294967296 :: digs (n / 4294967296) := by
  obtain ⟨k, rfl⟩ : ∃ k, n = k + 1 := ⟨n - 1, by omega⟩
  show (if k + 1 = 0 then [] else _ :: digsF k ((k + 1) / 4294967296)) = _
  rw [if_neg h]
  congr 1
  exact digsF_eq _ _ (by omega) _ (Nat.le_refl _)
theorem wv_digs (n : Nat) : wv (digs n) = n := by
  induction n using Nat.strongRecOn with
  | _ n ih =>
    by_cases h : n = 0
    · subst h; rfl
    · rw [digs_pos h]
      show n % 4294967296 + 4294967296 * wv (digs (n / 4294967296)) = n
      rw [ih _ (by omega)]; omega
theorem digs_sm (n : Nat) : Sm (digs n) := by
  induction n using Nat.strongRecOn with
  | _ n ih =>
    by_cases h : n = 0
    · subst h; exact sm_nil
    · rw [digs_pos h]
      exact sm_cons.2 ⟨Nat.mod_lt _ (by decide), ih _ (by omega)⟩
theorem digs_nil {n : Nat} : digs n = [] ↔ n = 0 := by
  constructor
  · intro h; have := wv_digs n; rw [h] at this; exact this.symm
  · rintro rfl; rfl
theorem wv_pos_of_trim {l : List Nat} (h : l ≠ []) (ht : l.getD (l.length - 1) 0 ≠ 0) : 4294967296 ^ (l.length - 1) ≤ wv l := by
  have hl : 0 < l.length := List.length_pos_iff.2 h
  have h1 := wv_take_succ l (l.length - 1) (by omega)
  rw [show l.length - 1 + 1 = l.length by omega, List.take_length] at h1
  rw [gd_lt (by omega)] at ht
  rw [h1]
  have : 4294967296 ^ (l.length - 1) * 1 ≤ 4294967296 ^ (l.length - 1) * l[l.length - 1] := Nat.mul_le_mul_left _ (by omega)
  omega
theorem trim_cons {x : Nat} {l : List Nat} (h : Trim (x :: l)) : Trim l ∧ wv (x :: l) ≠ 0 := by
  rcases h with h | h
  · cases h
  · refine ⟨?_, ?_⟩
    · cases l with
      | nil => exact .inl rfl
      | cons y l => right; simpa using h
    · have := wv_pos_of_trim (l := x :: l) (by simp) h
      have := Nat.pow_pos (n := (x :: l).length - 1) (show 0 < 4294967296 by decide)
      omega
theorem digs_trim (n : Nat) : Trim (digs n) := by
  induction n using Nat.strongRecOn with
  | _ n ih =>
    by_cases h : n = 0
    · subst h; exact .inl rfl
    · right
      rw [digs_pos h]
      rcases ih (n / 4294967296) (by omega) with e | e
      · rw [e]
        rw [digs_nil] at e
        simp
        omega
      · cases hd : digs (n / 4294967296) with
        | nil => rw [digs_nil] at hd; simp; omega
        | cons y l => rw [hd] at e; simpa using e
/-- words without noughts at the end are their number's. -/
theorem digs_wv {l : List Nat} (h : Sm l) (ht : Trim l) : digs (wv l) = l := by
  induction l with
  | nil => rfl
  | cons x l ih =>
    obtain ⟨h1, h2⟩ := sm_cons.1 h
    obtain ⟨htl, hne⟩ := trim_cons ht
    have e := ih h2 htl
    rw [digs_pos hne]
    have ev : wv (x :: l) = x + 4294967296 * wv l := rfl
    rw [ev, show (x + 4294967296 * wv l) % 4294967296 = x by omega, show (x + 4294967296 * wv l) / 4294967296 = wv l by omega, e]
/-- how many words a number has. -/
theorem digs_len_le {n k : Nat} (h : n < 4294967296 ^ k) : (digs n).length ≤ k := by
  rcases digs_trim n with e | e
  · rw [e]; simp
  · by_cases hz : digs n = []
    · rw [hz]; simp
    · have h1 := wv_pos_of_trim hz e
      rw [wv_digs] at h1
      have h2 : 4294967296 ^ ((digs n).length - 1) < 4294967296 ^ k := Nat.lt_of_le_of_lt h1 h
      have h3 := (Nat.pow_lt_pow_iff_right (show 1 < 4294967296 by decide)).1 h2
      omega
theorem digs_lt (n : Nat) : n < 4294967296 ^ (digs n).length := by
  have := wv_lt (digs_sm n); rwa [wv_digs] at this
theorem digs_ge {n : Nat} (h : n ≠ 0) : 4294967296 ^ ((digs n).length - 1) ≤ n := by
  rcases digs_trim n with e | e
  · rw [digs_nil] at e; omega
  · have := wv_pos_of_trim (mt digs_nil.1 h) e; rwa [wv_digs] at this
theorem digs_len_pos {n : Nat} (h : n ≠ 0) : 0 < (digs n).length := by
  rcases Nat.eq_zero_or_pos (digs n).length with e | e
  · have := digs_nil.1 (List.eq_nil_of_length_eq_zero e); omega
  · exact e
theorem digs_mono {m n : Nat} (h : m ≤ n) : (digs m).length ≤ (digs n).length := digs_len_le (Nat.lt_of_le_of_lt h (digs_lt n))
theorem digs_last {n : Nat} (h : n ≠ 0) : (digs n).getD ((digs n).length - 1) 0 ≠ 0 := by
  rcases digs_trim n with e | e
  · rw [digs_nil] at e; omega
  · exact e
/-- the words up to the last that is not nought. -/
theorem take_digs {l : List Nat} (h : Sm l) (k : Nat) (hk : k ≤ l.length) (hz : ∀ j, k ≤ j → j < l.length → l.getD j 0 = 0) (hk0 : k = 0 ∨ l.getD (k - 1) 0 ≠ 0) : l.take k = digs (wv l) := by
  have e1 : wv (l.drop k) = 0 := by
    have : l.drop k = List.replicate (l.length - k) 0 := by
      apply List.eq_replicate_iff.2
      refine ⟨by simp, fun x hx => ?_⟩
      obtain ⟨i, hi, rfl⟩ := List.mem_iff_getElem.1 hx
      have h2 := hz (k + i) (by omega) (by simp at hi; omega)
      rw [gd_lt (by simp at hi; omega)] at h2
      rw [List.getElem_drop]; exact h2
    rw [this, wv_replicate]
  have e2 := wv_take_drop l k hk
  rw [e1, Nat.mul_zero, Nat.add_zero] at e2
  rw [e2]
  refine (digs_wv (sm_take h k) ?_).symm
  by_cases hk1 : k = 0
  · subst hk1; exact .inl rfl
  · right
    have e := hk0.resolve_left hk1
    rw [List.length_take, Nat.min_eq_left hk]
    rw [gd_lt (by omega)] at e
    rw [gd_lt (by rw [List.length_take]; omega), List.getElem_take]
    exact e
end Go.Proofs.Ytcfkhhnkboealaa
namespace Go.Proofs.Ytcfkhhnkboealaa
open Go.RowKit
set_option linter.unusedVariables false
theorem grown_cell {W w' : World} (h : Grown W w') {b i : Nat} (hb : b < W.heap.size) : w'.cell? ⟨b, i, none⟩ = W.cell? ⟨b, i, none⟩ := by
  have k := h.1.2.2 b hb
  unfold World.cell?
  cases h1 : W.heap[b]? with
  | none =>
    have : W.heap[b]? = some W.heap[b] := by simp [hb]
    rw [h1] at this; cases this
  | some o =>
    cases h2 : w'.heap[b]? with
    | none => rw [h1, h2] at k; cases o <;> simp at k
    | some o' =>
      rw [h1, h2] at k
      cases o <;> cases o' <;> simp at k ⊢
      all_goals first
        | (obtain ⟨_, _, _, k4⟩ := k; exact k4 i)
        | (try simp_all)
theorem grown_box2 {w w' : World} {a b : Value} {t : TypeId} (h : Grown (w.alloc (.cells #[a, b] t)) w') : w'.cell? ⟨w.heap.size, 0, none⟩ = some a ∧ w'.cell? ⟨w.heap.size, 1, none⟩ = some b ∧ w.heap.size < w'.heap.size := by
  have hs : w.heap.size < (w.alloc (.cells #[a, b] t)).heap.size := by show _ < (w.heap.push _).size; simp
  refine ⟨?_, ?_, Nat.lt_of_lt_of_le hs h.2.2⟩
  · rw [grown_cell h hs]; exact World.cell?_alloc_new ..
  · rw [grown_cell h hs]; exact World.cell?_alloc_new ..
end Go.Proofs.Ytcfkhhnkboealaa
namespace Go.Proofs.Ytcfkhhnkboealaa
open Go.RowKit
set_option linter.unusedVariables false
set_option linter.unusedSimpArgs false
set_option maxRecDepth 100000
set_option maxHeartbeats 4000000
theorem wrap_u32b (n : Int) : IntKind.u32.wrap n = n % 4294967296 := by
  simp [IntKind.wrap, IntKind.bits, IntKind.signed]
theorem bits_and_u32n (a b : Nat) (ha : a < 4294967296) (hb : b < 4294967296) : bits .and .u32 (a : Int) (b : Int) = ((a &&& b : Nat) : Int) := by
  have hx : a &&& b < 2 ^ 32 := Nat.and_lt_two_pow _ (by omega)
  have h1 : (BitVec.ofInt 32 (a : Int)).toNat = a := by
    rw [BitVec.ofInt_natCast, BitVec.toNat_ofNat]; exact Nat.mod_eq_of_lt (by omega)
  have h2 : (BitVec.ofInt 32 (b : Int)).toNat = b := by
    rw [BitVec.ofInt_natCast, BitVec.toNat_ofNat]; exact Nat.mod_eq_of_lt (by omega)
  show IntKind.u32.wrap ((BitVec.ofInt 32 (a : Int) &&& BitVec.ofInt 32 (b : Int)).toNat : Int) = _
  rw [BitVec.toNat_and, h1, h2, wrap_u32b]
  omega
theorem len32_c (x : Int) (w : World) (h0 : 0 ≤ x) (h1 : x ≤ 4294967295) : Calls Try.prog 181 #[.int .u32 x] w fun e w' => e = .returned (.int .i64 (Lib.bitLen x.toNat)) ∧ w' = w := by
  rcases (show x ≤ 255 ∨ (256 ≤ x ∧ x ≤ 65535) ∨ (65536 ≤ x ∧ x ≤ 16777215) ∨ 16777216 ≤ x by omega) with h | ⟨h, k⟩ | ⟨h, k⟩ | h
  · go_enter Try.func181, Try.ntmps181
    go_wp2
    go_ret
    refine ⟨congrArg Ending.returned (congrArg (Value.int IntKind.i64) ?_), rfl⟩
    rw [Lib.len8_of x (by omega) (by omega)]
    have l := Lib.bitLen_le8' x (by omega) (by omega)
    unfold RowKit.wrap64
    omega
  · have b0 : 0 ≤ x / 256 := by omega
    have b1 : x / 256 ≤ 255 := by omega
    go_enter Try.func181, Try.ntmps181
    go_wp2
    go_ret
    refine ⟨congrArg Ending.returned (congrArg (Value.int IntKind.i64) ?_), rfl⟩
    rw [Lib.len8_of (x / 256) (by omega) (by omega)]
    have e : (x / 256).toNat = x.toNat / 256 := by omega
    have l := Lib.bitLen_le8' (x / 256) (by omega) (by omega)
    have s := Lib.bitLen_shift8 x.toNat (by omega) (by omega)
    rw [e] at l ⊢
    unfold RowKit.wrap64
    omega
  · have b0 : 0 ≤ x / 65536 := by omega
    have b1 : x / 65536 ≤ 255 := by omega
    go_enter Try.func181, Try.ntmps181
    go_wp2
    go_ret
    refine ⟨congrArg Ending.returned (congrArg (Value.int IntKind.i64) ?_), rfl⟩
    rw [Lib.len8_of (x / 65536) (by omega) (by omega)]
    have e : (x / 65536).toNat = x.toNat / 65536 := by omega
    have l := Lib.bitLen_le8' (x / 65536) (by omega) (by omega)
    have s := Lib.bitLen_shift16 x.toNat (by omega) (by omega)
    rw [e] at l ⊢
    unfold RowKit.wrap64
    omega
  · have b0 : 0 ≤ x / 65536 / 256 := by omega
    have b1 : x / 65536 / 256 ≤ 255 := by omega
    go_enter Try.func181, Try.ntmps181
    go_wp2
    go_ret
    refine ⟨congrArg Ending.returned (congrArg (Value.int IntKind.i64) ?_), rfl⟩
    rw [Lib.len8_of (x / 65536 / 256) (by omega) (by omega)]
    have e : (x / 65536 / 256).toNat = x.toNat / 16777216 := by omega
    have l := Lib.bitLen_le8' (x / 65536 / 256) (by omega) (by omega)
    have s := Lib.bitLen_shift24 x.toNat (by omega) (by omega)
    rw [e] at l ⊢
    unfold RowKit.wrap64
    omega
theorem lead32_c (x : Int) (w : World) (h0 : 0 ≤ x) (h1 : x ≤ 4294967295) : Calls Try.prog 173 #[.int .u32 x] w fun e w' => e = .returned (.int .i64 (32 - (Lib.bitLen x.toNat : Int))) ∧ w' = w := by
  have l := Lib.bitLen_le x.toNat 32 (by omega) (by omega)
  go_enter Try.func173, Try.ntmps173
  go_wp2_with (go_at_call 181; refine (len32_c x _ h0 h1).mono ?_; rintro e w' ⟨rfl, rfl⟩)
  go_ret
  refine ⟨?_, rfl⟩
  first | rfl | (congr 2; omega)
theorem tz32_key (x a : Nat) (hx : x < 4294967296) (hx0 : x ≠ 0) (hlow : x &&& (4294967296 - x) = a) :
    bits BinOp.and IntKind.u32 (x : Int) (-(x : Int) % 4294967296) * 125613361 % 4294967296 / 134217728 = ((a * 125613361 % 4294967296 / 134217728 : Nat) : Int) := by
  have e1 : -(x : Int) % 4294967296 = ((4294967296 - x : Nat) : Int) := by omega
  rw [e1, bits_and_u32n x _ hx (by omega), hlow]
  omega
end Go.Proofs.Ytcfkhhnkboealaa
namespace Go.Proofs.Ytcfkhhnkboealaa
open Go.RowKit
set_option linter.unusedVariables false
set_option linter.unusedSimpArgs false

theorem gr_trans {a b c : World} (h : Grown a b) (k : Grown b c) : Grown a c := by
  exact ⟨World.keptBut_trans h.1 k.1, fun x => (k.2.1 x).trans (h.2.1 x), Nat.le_trans h.2.2 k.2.2⟩
theorem gr_drewN {w w' : World} (n : Nat) (h : Grown w w') : Grown w (w'.drewN n) := h
/-- a slice that reads as words. -/
def IsW (w : World) (v : Value) (l : List Nat) : Prop :=
  ∃ s cap, v = .slice s l.length cap ∧ l.length ≤ cap ∧ cap ≤ 1000000000 ∧ (l ≠ [] → ∃ b off, s = some ⟨b, off, none⟩ ∧ b < w.heap.size ∧ ∀ j, j < l.length → w.cell? ⟨b, off + j, none⟩ = some (.int .u32 ((l.getD j 0 : Nat) : Int)))
theorem IsW.nil (w : World) : IsW w (.slice none 0 0) [] := ⟨none, 0, rfl, Nat.le_refl _, by decide, fun h => absurd rfl h⟩
theorem IsW.grown {w w' : World} {v : Value} {l : List Nat} (h : IsW w v l) (g : Grown w w') : IsW w' v l := by
  obtain ⟨s, cap, h1, h2, h3, h4⟩ := h
  refine ⟨s, cap, h1, h2, h3, fun hl => ?_⟩
  obtain ⟨b, off, e, hb, hc⟩ := h4 hl
  exact ⟨b, off, e, Nat.lt_of_lt_of_le hb g.2.2, fun j hj => by rw [grown_cell g hb]; exact hc j hj⟩
/-- a block of the call's own that holds words. -/
structure Row (w : World) (b : Nat) (xs : List Nat) : Prop where
  cell : ∀ j, j < xs.length → w.cell? ⟨b, j, none⟩ = some (.int .u32 ((xs.getD j 0 : Nat) : Int))
  lt : b < w.heap.size
theorem Row.grown {w w' : World} {b : Nat} {xs : List Nat} (h : Row w b xs) (g : Grown w w') : Row w' b xs :=
  ⟨fun j hj => by rw [grown_cell g h.lt]; exact h.cell j hj, Nat.lt_of_lt_of_le h.lt g.2.2⟩
theorem size_setCell (w : World) (a : Addr) (v : Value) : (w.setCell a v).heap.size = w.heap.size := by simp [World.setCell]
theorem size_alloc (w : World) (o : Obj) : (w.alloc o).heap.size = w.heap.size + 1 := by show (w.heap.push _).size = _; simp
theorem Row.set {w : World} {b : Nat} {xs : List Nat} (h : Row w b xs) {j : Nat} (hj : j < xs.length) (v : Nat) : Row (w.setCell ⟨b, j, none⟩ (.int .u32 (v : Int))) b (xs.set j v) := by
  refine ⟨fun i hi => ?_, by rw [size_setCell]; exact h.lt⟩
  rw [List.length_set] at hi
  by_cases e : i = j
  · subst e
    rw [World.cell?_setCell_same _ _ _ (h.cell i hi), gd_lt (by rw [List.length_set]; exact hi), List.getElem_set_self]
  · rw [World.cell?_setCell_other _ _ _ _ (by intro h; injection h with _ h2; exact e h2.symm), h.cell i hi, gd_lt hi, gd_lt (by rw [List.length_set]; exact hi), List.getElem_set_ne (fun h => e h.symm)]
theorem Row.free {w0 w : World} {b j : Nat} (g : Grown w0 w) (hb : w0.heap.size ≤ b) : w.frozen? ⟨b, j, none⟩ = false := by
  rw [g.2.1]
  have : w0.heap[b]? = none := by simp; omega
  simp [World.frozen?, this]
theorem getD_replicate (n j : Nat) : (List.replicate n 0).getD j 0 = 0 := by
  by_cases h : j < n
  · rw [gd_lt (by simpa using h)]; simp
  · rw [gd_ge (by simp; omega)]
theorem Row.made (w : World) (n : Nat) (t : TypeId) : Row (w.alloc (.cells (madeCells #[.int .u32 0] (n * 1)) t)) w.heap.size (List.replicate n 0) := by
  refine ⟨fun j hj => ?_, by rw [size_alloc]; omega⟩
  rw [World.cell?_alloc_new, getD_replicate]
  simp at hj
  have hs : (madeCells #[.int .u32 0] (n * 1)).size = n * 1 := size_madeCells _ _
  simp [madeCells, hj, Nat.mod_one]
/-- a row's beginning as a slice. -/
theorem Row.isW {w : World} {b : Nat} {xs : List Nat} (h : Row w b xs) (k cap : Nat) (hk : k ≤ xs.length) (hc : xs.length ≤ cap) (hcap : cap ≤ 1000000000) : IsW w (.slice (some ⟨b, 0, none⟩) k cap) (xs.take k) := by
  have e : (xs.take k).length = k := by rw [List.length_take]; omega
  refine ⟨_, cap, by rw [e], by omega, hcap, fun _ => ⟨b, 0, rfl, h.lt, fun j hj => ?_⟩⟩
  rw [Nat.zero_add, h.cell j (by omega), gd_lt (by omega), gd_lt (by omega), List.getElem_take]
/-- hands back a number's words. -/
def RetW (A : Nat) (w : World) (e : Ending) (w' : World) : Prop := ∃ v, e = .returned v ∧ IsW w' v (digs A) ∧ Grown w w'
end Go.Proofs.Ytcfkhhnkboealaa
namespace Go.Proofs.Ytcfkhhnkboealaa
open Go.RowKit
set_option linter.unusedVariables false
set_option linter.unusedSimpArgs false
set_option maxRecDepth 100000
set_option maxHeartbeats 4000000
theorem trim_c {v : Value} {l : List Nat} {w : World} (h : IsW w v l) (hs : Sm l) : Calls Try.prog 145 #[v] w (fun e w' => ∃ v' n, e = .returned v' ∧ IsW w' v' (digs (wv l)) ∧ w' = w.drewN n) := by
  have HI := Lib.hid h
  obtain ⟨s, cap, rfl, hc1, hc2, hcell⟩ := h
  have HC := Lib.hid hcell
  have HS := Lib.hid hs
  have HE : RowKit.Hid (∀ k, k ≤ l.length → (∀ j, k ≤ j → j < l.length → l.getD j 0 = 0) → (k = 0 ∨ l.getD (k - 1) 0 ≠ 0) → ∀ d, IsW (w.drewN d) (.slice s k cap) (digs (wv l))) := Lib.hid (by
    intro k hk hz h0 d
    rw [← take_digs hs k hk hz h0]
    have e : (l.take k).length = k := by rw [List.length_take]; omega
    refine ⟨s, cap, by rw [e], by omega, hc2, fun hl => ?_⟩
    have hl' : l ≠ [] := by intro e2; subst e2; simp at hl
    obtain ⟨b, off, e1, hb, hc⟩ := hcell hl'
    refine ⟨b, off, e1, hb, fun j hj => ?_⟩
    have := hc j (by omega)
    rw [gd_lt (by omega)] at this
    rw [gd_lt hj, List.getElem_take]
    exact this)
  clear hcell hs
  have hbig : (cap : Int) ≤ 9223372036854775807 := by omega
  have hlc : (l.length : Int) ≤ cap := by omega
  go_enter Try.func145, Try.ntmps145
  go_wp2
  go_loopw [3] (fun n wr => ∃ k d : Nat, k ≤ l.length ∧ n = .int .i64 k ∧ (∀ j, k ≤ j → j < l.length → l.getD j 0 = 0) ∧ wr = w.drewN d) (fun n _ => (intOf n).toNat)
  case atStart => exact ⟨l.length, 0, Nat.le_refl _, rfl, fun j h1 h2 => absurd h2 (by omega), rfl⟩
  case round =>
    obtain ⟨k, d, hk, rfl, hz, rfl⟩ := hrel
    have HZ := Lib.hid hz
    clear hz
    by_cases h0 : k = 0
    · subst h0
      go_wp2
      go_ret
      exact ⟨_, _, rfl, HE.out 0 (Nat.zero_le _) HZ.out (.inl rfl) _, rfl⟩
    · have hne : l ≠ [] := by intro e; subst e; simp at hk; exact h0 hk
      obtain ⟨b, off, e1, hb, hc⟩ := HC.out hne
      subst e1
      have hcell := hc (k - 1) (by omega)
      have hk1 : ((k : Int) - 1).toNat = k - 1 := by omega
      clear hc
      by_cases hl : l.getD (k - 1) 0 = 0
      · rw [hl] at hcell
        go_wp2
        go_roundw
        case rel => exact ⟨k - 1, _, by omega, by go_num, fun j h1 h2 => by
          by_cases e : j = k - 1
          · rw [e]; exact hl
          · exact HZ.out j (by omega) h2, rfl⟩
        case measure => simp [intOf]; omega
      · obtain ⟨x, hx⟩ : ∃ x, x = l.getD (k - 1) 0 := ⟨_, rfl⟩
        rw [← hx] at hcell hl
        have HX := Lib.hid hx
        clear hx
        have hx0 : ((x : Int) == 0) = false := by simp; omega
        go_wp2
        go_ret
        exact ⟨_, _, rfl, HE.out k hk HZ.out (.inr (by rw [← HX.out]; exact hl)) _, rfl⟩
end Go.Proofs.Ytcfkhhnkboealaa
namespace Go.Proofs.Ytcfkhhnkboealaa
open Go.RowKit
set_option linter.unusedVariables false
set_option linter.unusedSimpArgs false
set_option maxRecDepth 100000
set_option maxHeartbeats 4000000
theorem infoU32 : (Try.prog.info? 153).map (fun i => (i.zero, i.size, i.bytes)) = some (some (.int .u32 0), 1, 4) := by kernel_rfl
theorem mk_words (c : Int) (n : Nat) (hc : c = (n : Int)) (h : n ≤ 1000000000) (w : World) : (Instr.makeSlice 36 (.int .i64 c) (.int .i64 c)).run Try.prog w = .ok (.slice (some ⟨w.heap.size, 0, none⟩) n n) (w.alloc (.cells (madeCells #[.int .u32 0] (n * 1)) 153)) := by
  subst hc
  have e := infoU32
  cases hi : Try.prog.info? 153 with
  | none => rw [hi] at e; cases e
  | some i =>
    rw [hi] at e
    simp only [Option.map_some, Option.some.injEq, Prod.mk.injEq] at e
    obtain ⟨e1, e2, e3⟩ := e
    have := run_make (P := Try.prog) w 36 153 i (.int .u32 0) Try.underlying36 hi e1 .i64 .i64 (n : Int) (n : Int) (by omega) (Int.le_refl _) (by rw [e3]; omega) (by omega)
    rw [e2] at this
    simpa [Value.cells] using this
theorem gr_alloc {w w' : World} (h : Grown w w') (c : Array Value) (t : TypeId) : Grown w (w'.alloc (.cells c t)) := h.alloc c t
theorem gr_setRow {w w' : World} (h : Grown w w') {g : Nat} (hg : w.heap.size ≤ g) (cs : Array Value) : Grown w (w'.setRow g cs) := by
  obtain ⟨⟨h1, h2, h3⟩, hf, hs⟩ := h
  refine ⟨⟨h1, h2, fun i hi => ?_⟩, fun x => ?_, by simpa [World.setRow] using hs⟩
  · have e : (w'.setRow g cs).heap[i]? = w'.heap[i]? := by
      simp only [World.setRow, Array.getElem?_modify]
      rw [if_neg (by omega)]
    rw [e]
    exact h3 i hi
  · rw [← hf x]
    by_cases e : g = x.block
    · simp only [World.frozen?, World.setRow, Array.getElem?_modify, if_pos e]
      cases w'.heap[x.block]? with
      | none => rfl
      | some o => cases o <;> rfl
    · simp only [World.frozen?, World.setRow, Array.getElem?_modify, if_neg e]
theorem size_setRow (w : World) (g : Nat) (cs : Array Value) : (w.setRow g cs).heap.size = w.heap.size := by simp [World.setRow]
theorem heap_last (w : World) (o : Obj) : (w.alloc o).heap[w.heap.size]? = some o := by
  show (w.heap.push o)[w.heap.size]? = some o
  simp
def RetL (l : List Nat) (w : World) (e : Ending) (w' : World) : Prop := ∃ v, e = .returned v ∧ IsW w' v l ∧ Grown w w'
/-- hands back words in a block of the call's own. -/
def RetLN (l : List Nat) (w : World) (e : Ending) (w' : World) : Prop := e = .returned (.slice (some ⟨w.heap.size, 0, none⟩) l.length l.length) ∧ IsW w' (.slice (some ⟨w.heap.size, 0, none⟩) l.length l.length) l ∧ Grown w w' ∧ w.heap.size < w'.heap.size
theorem copied_new {v : Value} {l : List Nat} {w : World} (h : IsW w v l) : Calls Try.prog 148 #[v] w (RetLN l w) := by
  obtain ⟨s, cap, rfl, hc1, hc2, hcell⟩ := h
  have HC := Lib.hid hcell
  clear hcell
  have hmk := mk_words (l.length : Int) l.length rfl (by omega)
  have HP : RowKit.Hid (∀ W : World, W.heap[w.heap.size]? = some (.cells (l.map fun x : Nat => (Value.int .u32 (x : Int))).toArray 153 (0, 0)) → Grown w W → IsW W (.slice (some ⟨w.heap.size, 0, none⟩) l.length l.length) l) := Lib.hid (by
    intro W hW hg
    have hlt : w.heap.size < W.heap.size := (Array.getElem?_eq_some_iff.1 hW).1
    refine ⟨_, l.length, rfl, Nat.le_refl _, by omega, fun _ => ⟨w.heap.size, 0, rfl, hlt, fun j hj => ?_⟩⟩
    unfold World.cell?
    simp only [hW, Nat.zero_add]
    rw [gd_lt hj]
    simp [hj])
  by_cases hl : l = []
  · have HL := Lib.hid hl
    have h0 := Lib.hid (show l.length = 0 by rw [hl]; rfl)
    clear hl
    go_enter Try.func148, Try.ntmps148
    go_wp2_with (refine wpList_copy_nothing rfl (.tmp 7) (.tmp 8) 36 36 rfl 153 Try.underlying36 (by kernel_rfl) _ _ _ _ _ _ rfl rfl ?c1 ?_)
    case c1 => rw [h0.out]; rfl
    go_wp2
    go_ret
    refine ⟨by rw [HL.out]; rfl, by rw [HL.out]; exact ⟨_, 0, rfl, Nat.le_refl _, by decide, fun h => absurd rfl h⟩, (Grown.refl _).alloc _ _, ?_⟩
    rw [size_alloc]; exact Nat.lt_succ_self _
  · obtain ⟨b, off, e1, hb, hc⟩ := HC.out hl
    subst e1
    have HB := Lib.hid hc
    clear hc hl
    go_enter Try.func148, Try.ntmps148
    go_wp2_with (refine wpList_copy_own rfl (.tmp 7) (.tmp 8) 36 36 rfl 153 Try.underlying36 (by kernel_rfl) w.heap.size 0 _ _ ⟨b, off, none⟩ _ _ rfl rfl _ _ (heap_last _ _) (l.map fun x : Nat => (Value.int .u32 (x : Int))) ?c1 ?c2 ?c3 ?c4 ?_)
    case c1 => simp
    case c2 =>
      intro j v hj
      rw [List.getElem?_map] at hj
      cases hq : l[j]? with
      | none => rw [hq] at hj; cases hj
      | some x =>
        rw [hq] at hj
        simp at hj
        obtain ⟨hlt, hx⟩ := List.getElem?_eq_some_iff.1 hq
        have := HB.out j hlt
        rw [gd_lt hlt, hx] at this
        have e : (⟨b, off, none⟩ : Addr).add j = ⟨b, off + j, none⟩ := by cases j <;> simp [Addr.add]
        rw [e, World.cell?_alloc_lt _ _ _ hb, this, ← hj]
    case c3 => rw [size_madeCells]; simp
    case c4 => intro v hv; simp at hv; obtain ⟨x, _, rfl⟩ := hv; rfl
    go_wp2
    go_ret
    refine ⟨rfl, HP.out _ ((setRow_heap _ _ _ _ _ _ (heap_last _ _)).trans ?_) ?_, ?_, by rw [size_setRow, size_alloc]; exact Nat.lt_succ_self _⟩
    · have e : (madeCells #[Value.int .u32 0] l.length).size = l.length := size_madeCells _ _
      have e2 : (madeCells #[Value.int .u32 0] l.length).toList.length = l.length := by rw [Array.length_toList, e]
      congr 2
      simp [List.drop_of_length_le, e2, e]
    · exact gr_setRow ((Grown.refl _).alloc _ _) (Nat.le_refl _) _
    · exact gr_setRow ((Grown.refl _).alloc _ _) (Nat.le_refl _) _
theorem copied_c {v : Value} {l : List Nat} {w : World} (h : IsW w v l) : Calls Try.prog 148 #[v] w (RetL l w) := by
  refine (copied_new h).mono ?_
  rintro e w' ⟨rfl, h1, h2, _⟩
  exact ⟨_, rfl, h1, h2⟩
end Go.Proofs.Ytcfkhhnkboealaa
namespace Go.Proofs.Ytcfkhhnkboealaa
open Go.RowKit
set_option linter.unusedVariables false
set_option linter.unusedSimpArgs false
set_option maxRecDepth 100000
set_option maxHeartbeats 4000000
theorem isW_new2 (w : World) (x y : Nat) (t : TypeId) : IsW (w.alloc (.cells #[.int .u32 (x : Int), .int .u32 (y : Int)] t)) (.slice (some ⟨w.heap.size, 0, none⟩) 2 2) [x, y] := by
  refine ⟨_, 2, rfl, by simp, by decide, fun _ => ⟨w.heap.size, 0, rfl, by rw [size_alloc]; omega, fun j hj => ?_⟩⟩
  rw [Nat.zero_add, World.cell?_alloc_new]
  have : j = 0 ∨ j = 1 := by simp at hj; omega
  rcases this with rfl | rfl <;> rfl
theorem fromUint_c (x : Nat) (hx : x < 18446744073709551616) (w : World) : Calls Try.prog 142 #[.int .u64 (x : Int)] w (RetW x w) := by
  have hd : wv [x % 4294967296, x / 4294967296] = x := by simp [wv]; omega
  have HD := Lib.hid hd
  have hs : Sm [x % 4294967296, x / 4294967296] := sm_cons.2 ⟨by omega, sm_cons.2 ⟨by omega, sm_nil⟩⟩
  have HS := Lib.hid hs
  have e1 : (x : Int) / 4294967296 % 4294967296 = (x : Int) / 4294967296 := by omega
  clear hd hs
  go_enter Try.func142, Try.ntmps142
  go_wp2_with (go_at_call 145; refine (trim_c (isW_new2 w (x % 4294967296) (x / 4294967296) _) HS.out).mono ?_; rw [HD.out]; rintro e w' ⟨v', n, rfl, hv, rfl⟩)
  go_ret
  exact ⟨_, rfl, hv, gr_drewN _ ((Grown.refl _).alloc _ _)⟩
/-- the number of bits. -/
def bl (A : Nat) : Nat := if A = 0 then 0 else A.log2 + 1
theorem bl_zero : bl 0 = 0 := rfl
theorem bl_lt (A : Nat) : A < 2 ^ bl A := by
  unfold bl
  split
  · rename_i h; subst h; decide
  · exact Nat.lt_log2_self
theorem bl_ge {A : Nat} (h : A ≠ 0) : 2 ^ (bl A - 1) ≤ A := by
  unfold bl; rw [if_neg h]; simpa using Nat.log2_self_le h
theorem bl_uniq {A n : Nat} (h1 : A < 2 ^ n) (h2 : A = 0 ∧ n = 0 ∨ 0 < n ∧ 2 ^ (n - 1) ≤ A) : bl A = n := by
  rcases h2 with ⟨rfl, rfl⟩ | ⟨h0, h2⟩
  · rfl
  · have hA : A ≠ 0 := by have := Nat.two_pow_pos (n - 1); omega
    have a := bl_lt A
    have b := bl_ge hA
    have hb : 0 < bl A := by unfold bl; rw [if_neg hA]; omega
    have c := (Nat.pow_lt_pow_iff_right (show 1 < 2 by decide)).1 (Nat.lt_of_le_of_lt b h1)
    have d := (Nat.pow_lt_pow_iff_right (show 1 < 2 by decide)).1 (Nat.lt_of_le_of_lt h2 a)
    omega
theorem aux_len : ∀ (k x : Nat), x < 2 ^ k → x < 2 ^ Lib.bitLenAux k x ∧ (x ≠ 0 → 0 < Lib.bitLenAux k x ∧ 2 ^ (Lib.bitLenAux k x - 1) ≤ x)
  | 0, x, h => by simp at h; subst h; simp [Lib.bitLenAux]
  | k + 1, x, h => by
    unfold Lib.bitLenAux
    by_cases h0 : x = 0
    · subst h0; simp
    · rw [if_neg h0]
      obtain ⟨a, b⟩ := aux_len k (x / 2) (by rw [Nat.pow_succ] at h; omega)
      refine ⟨?_, fun _ => ⟨by omega, ?_⟩⟩
      · rw [Nat.add_comm, Nat.pow_succ]; omega
      · by_cases h2 : x / 2 = 0
        · rw [h2]
          have : Lib.bitLenAux k 0 = 0 := by cases k <;> simp [Lib.bitLenAux]
          rw [this]; simp; omega
        · obtain ⟨c, d⟩ := b h2
          rw [show 1 + Lib.bitLenAux k (x / 2) - 1 = (Lib.bitLenAux k (x / 2) - 1) + 1 by omega, Nat.pow_succ]
          omega
theorem libLen {x : Nat} (h : x < 4294967296) : Lib.bitLen x = bl x := by
  obtain ⟨a, b⟩ := aux_len 64 x (by have : (2 : Nat) ^ 64 = 18446744073709551616 := by decide
                                    omega)
  refine (bl_uniq a ?_).symm
  by_cases h0 : x = 0
  · subst h0; left; exact ⟨rfl, by decide⟩
  · right; exact b h0
theorem pow32 (k : Nat) : 4294967296 ^ k = 2 ^ (32 * k) := by rw [Nat.pow_mul]
theorem bl_top {A : Nat} (h : A ≠ 0) : bl A = 32 * ((digs A).length - 1) + bl ((digs A).getD ((digs A).length - 1) 0) := by
  have hl := digs_len_pos h
  have h1 := wv_take_succ (digs A) ((digs A).length - 1) (by omega)
  rw [show (digs A).length - 1 + 1 = (digs A).length by omega, List.take_length, wv_digs] at h1
  have h2 := wv_lt (sm_take (digs_sm A) ((digs A).length - 1))
  rw [List.length_take, Nat.min_eq_left (by omega)] at h2
  have h3 := digs_last h
  rw [gd_lt (by omega)] at h3 ⊢
  generalize (digs A)[(digs A).length - 1] = t at *
  generalize wv ((digs A).take ((digs A).length - 1)) = r at *
  generalize (digs A).length - 1 = n at *
  rw [pow32] at h1 h2
  have a := bl_lt t
  have b := bl_ge h3
  have hb : 0 < bl t := by unfold bl; rw [if_neg h3]; omega
  refine bl_uniq ?_ (.inr ⟨by omega, ?_⟩)
  · rw [h1, Nat.pow_add]
    have : 2 ^ (32 * n) * (t + 1) ≤ 2 ^ (32 * n) * 2 ^ bl t := Nat.mul_le_mul_left _ a
    rw [Nat.mul_add] at this
    omega
  · rw [h1, show 32 * n + bl t - 1 = 32 * n + (bl t - 1) by omega, Nat.pow_add]
    have := Nat.mul_le_mul_left (2 ^ (32 * n)) b
    omega
theorem bl_32 {t : Nat} (h : t < 4294967296) : bl t ≤ 32 := by
  rcases Nat.lt_or_ge 32 (bl t) with g | g
  · by_cases h0 : t = 0
    · subst h0; exact absurd g (by decide)
    · have := bl_ge h0
      have h2 := Nat.pow_le_pow_right (show 0 < 2 by decide) (show 32 ≤ bl t - 1 by omega)
      have : (2 : Nat) ^ 32 = 4294967296 := by decide
      omega
  · exact g
theorem bitLen_core {b off L cap t : Nat} {w : World} (hL : 0 < L) (hc1 : L ≤ cap) (hc2 : cap ≤ 1000000000) (ht : t < 4294967296) (hcl : w.cell? ⟨b, off + (L - 1), none⟩ = some (.int .u32 (t : Int))) :
    Calls Try.prog 167 #[.slice (some ⟨b, off, none⟩) L cap] w (fun e w' => ∃ n, e = .returned (.int .i64 (32 * ((L : Int) - 1) + (bl t : Int))) ∧ w' = w.drewN n) := by
  have h32 := Lib.hid (libLen ht)
  have hbl := bl_32 ht
  have hL1 : ((L : Int) - 1).toNat = L - 1 := by omega
  have hne : ((L : Int) == 0) = false := by simp; omega
  go_enter Try.func167, Try.ntmps167
  go_wp2_with (go_at_call 181; refine (len32_c (t : Int) _ (by omega) (by omega)).mono ?_; rw [Int.toNat_natCast, h32.out]; rintro e w' ⟨rfl, rfl⟩)
  go_ret
  exact ⟨0, rfl, rfl⟩
theorem bitLen_c {v : Value} {A : Nat} {w : World} (h : IsW w v (digs A)) : Calls Try.prog 167 #[v] w (fun e w' => ∃ n, e = .returned (.int .i64 (bl A : Int)) ∧ w' = w.drewN n) := by
  obtain ⟨s, cap, rfl, hc1, hc2, hcell⟩ := h
  by_cases hA : A = 0
  · subst hA
    clear hcell
    go_enter Try.func167, Try.ntmps167
    go_wp2
    go_ret
    exact ⟨0, rfl, rfl⟩
  · have hl := digs_len_pos hA
    obtain ⟨b, off, e1, hb, hc⟩ := hcell (mt digs_nil.1 hA)
    subst e1
    refine (bitLen_core hl hc1 hc2 (sm_getD (digs_sm A) _) (hc ((digs A).length - 1) (by omega))).mono ?_
    rintro e w' ⟨n, rfl, rfl⟩
    exact ⟨n, by rw [bl_top hA]; congr 2; omega, rfl⟩
end Go.Proofs.Ytcfkhhnkboealaa
namespace Go.Proofs.Ytcfkhhnkboealaa
open Go.RowKit
set_option linter.unusedVariables false
set_option linter.unusedSimpArgs false
set_option maxRecDepth 100000
set_option maxHeartbeats 4000000
theorem bits_or_u64n (a b : Nat) (ha : a < 18446744073709551616) (hb : b < 18446744073709551616) : bits .or .u64 (a : Int) (b : Int) = ((a ||| b : Nat) : Int) := by
  have hx : a ||| b < 2 ^ 64 := Nat.or_lt_two_pow (by omega) (by omega)
  have h1 : (BitVec.ofInt 64 (a : Int)).toNat = a := by
    rw [BitVec.ofInt_natCast, BitVec.toNat_ofNat]; exact Nat.mod_eq_of_lt (by omega)
  have h2 : (BitVec.ofInt 64 (b : Int)).toNat = b := by
    rw [BitVec.ofInt_natCast, BitVec.toNat_ofNat]; exact Nat.mod_eq_of_lt (by omega)
  show IntKind.u64.wrap ((BitVec.ofInt 64 (a : Int) ||| BitVec.ofInt 64 (b : Int)).toNat : Int) = _
  rw [BitVec.toNat_or, h1, h2, IntKind.wrap_u64]
  omega
theorem or_two (k a b : Nat) (h : b < 2 ^ k) : (a * 2 ^ k) ||| b = a * 2 ^ k + b := by
  rw [Nat.mul_comm]; exact (Nat.two_pow_add_eq_or_of_lt h a).symm
theorem or_words (x1 x0 : Nat) (h1 : x1 < 4294967296) (h0 : x0 < 4294967296) : bits .or .u64 ((x1 : Int) * 4294967296) (x0 : Int) = ((x1 * 4294967296 + x0 : Nat) : Int) := by
  have e : (x1 : Int) * 4294967296 = ((x1 * 4294967296 : Nat) : Int) := by omega
  rw [e, bits_or_u64n _ _ (by omega) (by omega)]
  have := or_two 32 x1 x0 (by omega)
  rw [show (2 : Nat) ^ 32 = 4294967296 by decide] at this
  rw [this]
theorem toUint1 {b off cap x0 : Nat} {w : World} (hc1 : 1 ≤ cap) (hc2 : cap ≤ 1000000000) (h0 : x0 < 4294967296) (c0 : w.cell? ⟨b, off, none⟩ = some (.int .u32 (x0 : Int))) :
    Calls Try.prog 168 #[.slice (some ⟨b, off, none⟩) 1 cap] w (fun e w' => ∃ n, e = .returned (.int .u64 (x0 : Int)) ∧ w' = w.drewN n) := by
  have ho : bits .or .u64 0 (x0 : Int) = (x0 : Int) := by
    have := or_words 0 x0 (by decide) h0
    simpa using this
  go_enter Try.func168, Try.ntmps168
  go_wp2
  go_ret
  exact ⟨0, rfl, rfl⟩
theorem toUint2 {b off cap x0 x1 : Nat} {w : World} (hc1 : 2 ≤ cap) (hc2 : cap ≤ 1000000000) (h0 : x0 < 4294967296) (h1 : x1 < 4294967296) (c0 : w.cell? ⟨b, off, none⟩ = some (.int .u32 (x0 : Int))) (c1 : w.cell? ⟨b, off + 1, none⟩ = some (.int .u32 (x1 : Int))) :
    Calls Try.prog 168 #[.slice (some ⟨b, off, none⟩) 2 cap] w (fun e w' => ∃ n, e = .returned (.int .u64 ((x1 * 4294967296 + x0 : Nat) : Int)) ∧ w' = w.drewN n) := by
  have HO := Lib.hid (or_words x1 x0 h1 h0)
  go_enter Try.func168, Try.ntmps168
  go_wp2
  go_ret
  exact ⟨0, by rw [HO.out]; rfl, rfl⟩
theorem toUint_c {v : Value} {A : Nat} {w : World} (h : IsW w v (digs A)) (hA : A < 18446744073709551616) : Calls Try.prog 168 #[v] w (fun e w' => ∃ n, e = .returned (.int .u64 (A : Int)) ∧ w' = w.drewN n) := by
  obtain ⟨s, cap, rfl, hc1, hc2, hcell⟩ := h
  by_cases h0 : A = 0
  · subst h0
    clear hcell
    go_enter Try.func168, Try.ntmps168
    go_wp2
    go_ret
    exact ⟨0, rfl, rfl⟩
  · obtain ⟨b, off, e1, hb, hc⟩ := hcell (mt digs_nil.1 h0)
    subst e1
    have ha := wv_digs A
    have hs := digs_sm A
    have hl : (digs A).length ≤ 2 := digs_len_le (by omega)
    have hl0 := digs_len_pos h0
    clear hcell
    generalize digs A = l at *
    cases l with
    | nil => simp at hl0
    | cons x0 l =>
      cases l with
      | nil =>
        have e : A = x0 := by simp [wv] at ha; omega
        rw [e]
        exact toUint1 hc1 hc2 (sm_cons.1 hs).1 (by simpa using hc 0 (by simp))
      | cons x1 l =>
        have hn : l = [] := by cases l with
                               | nil => rfl
                               | cons => simp at hl
        subst hn
        have e : A = x1 * 4294967296 + x0 := by simp [wv] at ha; omega
        rw [e]
        exact toUint2 hc1 hc2 (sm_cons.1 hs).1 (sm_cons.1 (sm_cons.1 hs).2).1 (by simpa using hc 0 (by simp)) (by simpa using hc 1 (by simp))
theorem ctz_dvd {x : Nat} (h : x < 4294967296) (h0 : x ≠ 0) : 2 ^ Lib.ctz 32 x ∣ x ∧ Lib.ctz 32 x < 32 := by
  obtain ⟨m, h1, h2⟩ := Lib.ctzFrom_spec 32 x (by omega) (by omega)
  unfold Lib.ctz
  rw [if_neg h0]
  exact ⟨⟨2 * m + 1, h1⟩, h2⟩
theorem zeros_dvd {l : List Nat} {k c : Nat} (hk : k < l.length) (hz : ∀ j, j < k → l.getD j 0 = 0) (hd : 2 ^ c ∣ l.getD k 0) (hc : c < 32) : 2 ^ (32 * k + c) ∣ wv l := by
  have h1 := wv_take_drop l k (by omega)
  have e1 : l.take k = List.replicate k 0 := by
    apply List.eq_replicate_iff.2
    refine ⟨by rw [List.length_take]; omega, fun x hx => ?_⟩
    obtain ⟨i, hi, rfl⟩ := List.mem_iff_getElem.1 hx
    rw [List.length_take] at hi
    have := hz i (by omega)
    rw [gd_lt (by omega)] at this
    rw [List.getElem_take]; exact this
  rw [e1, wv_replicate, Nat.zero_add, List.drop_eq_getElem_cons hk] at h1
  rw [gd_lt hk] at hd
  rw [h1, pow32, Nat.pow_add]
  apply Nat.mul_dvd_mul_left
  show 2 ^ c ∣ l[k] + 4294967296 * _
  refine Nat.dvd_add hd (Nat.dvd_mul_right_of_dvd ?_ _)
  rw [show (4294967296 : Nat) = 2 ^ 32 by decide]
  exact Nat.pow_dvd_pow 2 (by omega)
end Go.Proofs.Ytcfkhhnkboealaa
namespace Go.Proofs.Ytcfkhhnkboealaa
open Go.RowKit
set_option linter.unusedVariables false
set_option linter.unusedSimpArgs false
set_option maxRecDepth 100000
set_option maxHeartbeats 4000000
def RetZ (i : Int) (w : World) (e : Ending) (w' : World) : Prop := ∃ n, e = .returned (.int .i64 i) ∧ w' = w.drewN n
theorem RetZ.mk {b c : Int} {w : World} (n : Nat) (h : b = c) : RetZ c w (.returned (.int .i64 b)) (w.drewN n) := ⟨n, by rw [h], rfl⟩
theorem RetZ.mk0 {b c : Int} {w : World} (h : b = c) : RetZ c w (.returned (.int .i64 b)) w := ⟨0, by rw [h], rfl⟩
theorem RetZ.mk2 {b c : Int} {w : World} (n m : Nat) (h : b = c) : RetZ c w (.returned (.int .i64 b)) ((w.drewN n).drewN m) := ⟨n + m, by rw [h], by rw [World.drewN_drewN]⟩
theorem RetZ.mk3 {b c : Int} {w : World} (n m k : Nat) (h : b = c) : RetZ c w (.returned (.int .i64 b)) (((w.drewN n).drewN m).drewN k) := ⟨n + m + k, by rw [h], by rw [World.drewN_drewN, World.drewN_drewN, Nat.add_assoc]⟩
def cmpI (A B : Nat) : Int := if A < B then -1 else if B < A then 1 else 0
theorem len_lt {A B : Nat} (h : (digs A).length < (digs B).length) : A < B := by
  have hB : B ≠ 0 := by intro e; subst e; simp [digs_zero] at h
  have a := digs_lt A
  have b := digs_ge hB
  have c := Nat.pow_le_pow_right (show 0 < 4294967296 by decide) (show (digs A).length ≤ (digs B).length - 1 by omega)
  omega
theorem top_lt {l m : List Nat} {i : Nat} (hl : Sm l) (hm : Sm m) (hi : i < l.length) (hlen : l.length = m.length) (heq : ∀ j, i < j → j < l.length → l.getD j 0 = m.getD j 0) (h : l.getD i 0 < m.getD i 0) : wv l < wv m := by
  have e1 := wv_take_drop l (i + 1) (by omega)
  have e2 := wv_take_drop m (i + 1) (by omega)
  have e3 : l.drop (i + 1) = m.drop (i + 1) := by
    apply List.ext_getElem (by simp; omega)
    intro n h1 h2
    rw [List.length_drop] at h1 h2
    have := heq (i + 1 + n) (by omega) (by omega)
    rw [gd_lt (by omega), gd_lt (by omega)] at this
    rw [List.getElem_drop, List.getElem_drop]; exact this
  rw [e3] at e1
  rw [wv_take_succ l i hi] at e1
  rw [wv_take_succ m i (by omega)] at e2
  rw [gd_lt hi, gd_lt (by omega)] at h
  have s := wv_lt (sm_take hl i)
  rw [List.length_take, Nat.min_eq_left (by omega)] at s
  have t : 4294967296 ^ i * (l[i] + 1) ≤ 4294967296 ^ i * m[i] := Nat.mul_le_mul_left _ h
  rw [Nat.mul_add] at t
  omega
theorem all_eq {l m : List Nat} (hlen : l.length = m.length) (heq : ∀ j, j < l.length → l.getD j 0 = m.getD j 0) : l = m := by
  apply List.ext_getElem hlen
  intro n h1 h2
  have := heq n h1
  rwa [gd_lt h1, gd_lt h2] at this
theorem cmp_of {A B : Nat} {c : Int} (h : (A < B ∧ c = -1) ∨ (B < A ∧ c = 1) ∨ (A = B ∧ c = 0)) : c = cmpI A B := by
  unfold cmpI
  rcases h with ⟨h, rfl⟩ | ⟨h, rfl⟩ | ⟨h, rfl⟩
  · rw [if_pos h]
  · rw [if_neg (by omega), if_pos h]
  · rw [if_neg (by omega), if_neg (by omega)]
theorem cmp_ne {s1 s2 : Option Addr} {L M c1 c2 : Nat} (w : World) (h1 : L ≤ c1) (h2 : c1 ≤ 1000000000) (h3 : M ≤ c2) (h4 : c2 ≤ 1000000000) (h : L ≠ M) :
    Calls Try.prog 95 #[.slice s1 L c1, .slice s2 M c2] w (RetZ (if L < M then -1 else 1) w) := by
  have hne : ((L : Int) != (M : Int)) = true := by simp; omega
  by_cases hlt : L < M
  · rw [if_pos hlt]
    have : (L : Int) < M := by omega
    go_enter Try.func95, Try.ntmps95
    go_wp2
    go_ret
    exact RetZ.mk0 rfl
  · rw [if_neg hlt]
    have : ¬ (L : Int) < M := by omega
    go_enter Try.func95, Try.ntmps95
    go_wp2
    go_ret
    exact RetZ.mk0 rfl
theorem cmp_zero {s1 s2 : Option Addr} {c1 c2 : Nat} (w : World) : Calls Try.prog 95 #[.slice s1 0 c1, .slice s2 0 c2] w (RetZ 0 w) := by
  go_enter Try.func95, Try.ntmps95
  go_wp2
  go_loopw [5] (fun n wr => ∃ d : Nat, n = .int .i64 (-1) ∧ wr = w.drewN d) (fun _ _ => 0)
  case atStart => exact ⟨0, rfl, rfl⟩
  case round =>
    obtain ⟨d, rfl, rfl⟩ := hrel
    go_wp2
    go_ret
    exact RetZ.mk _ rfl
theorem cmp_eq' {b1 o1 b2 o2 c1 c2 : Nat} {l m : List Nat} {w : World} (hl : Sm l) (hm : Sm m) (hlen : l.length = m.length) (h1 : l.length ≤ c1) (h2 : c1 ≤ 1000000000) (h3 : l.length ≤ c2) (h4 : c2 ≤ 1000000000)
    (hc1 : ∀ j, j < l.length → w.cell? ⟨b1, o1 + j, none⟩ = some (.int .u32 ((l.getD j 0 : Nat) : Int))) (hc2 : ∀ j, j < l.length → w.cell? ⟨b2, o2 + j, none⟩ = some (.int .u32 ((m.getD j 0 : Nat) : Int))) :
    Calls Try.prog 95 #[.slice (some ⟨b1, o1, none⟩) l.length c1, .slice (some ⟨b2, o2, none⟩) l.length c2] w (RetZ (cmpI (wv l) (wv m)) w) := by
  have HL := Lib.hid hl
  have HM := Lib.hid hm
  have HN := Lib.hid hlen
  have H1 := Lib.hid hc1
  have H2 := Lib.hid hc2
  clear hl hm hlen hc1 hc2
  go_enter Try.func95, Try.ntmps95
  go_wp2
  go_loopw [5] (fun n wr => ∃ k d : Nat, k ≤ l.length ∧ n = .int .i64 ((k : Int) - 1) ∧ (∀ j, k ≤ j → j < l.length → l.getD j 0 = m.getD j 0) ∧ wr = w.drewN d) (fun n _ => (intOf n + 1).toNat)
  case atStart => exact ⟨l.length, 0, Nat.le_refl _, rfl, fun j h1 h2 => absurd h2 (by omega), rfl⟩
  case round =>
    obtain ⟨k, d, hk, rfl, hz, rfl⟩ := hrel
    have HZ := Lib.hid hz
    clear hz
    by_cases h0 : k = 0
    · subst h0
      go_wp2
      go_ret
      exact RetZ.mk _ (cmp_of (.inr (.inr ⟨congrArg wv (all_eq HN.out fun j h => HZ.out j (Nat.zero_le _) h), rfl⟩)))
    · have a1 := H1.out (k - 1) (by omega)
      have a2 := H2.out (k - 1) (by omega)
      have x1 := sm_getD HL.out (k - 1)
      have x2 := sm_getD HM.out (k - 1)
      obtain ⟨x, ex⟩ : ∃ x, x = l.getD (k - 1) 0 := ⟨_, rfl⟩
      obtain ⟨y, ey⟩ : ∃ y, y = m.getD (k - 1) 0 := ⟨_, rfl⟩
      have EX := Lib.hid ex
      have EY := Lib.hid ey
      rw [← ex] at a1 x1
      rw [← ey] at a2 x2
      clear ex ey
      have hk1 : ((k : Int) - 1).toNat = k - 1 := by omega
      have hge : (0 : Int) ≤ (k : Int) - 1 := by omega
      rcases Nat.lt_trichotomy x y with g | g | g
      · have g' : (x : Int) < y := by omega
        go_wp2_with fail
        go_quiet (fail)
        go_wp2
        go_ret
        exact RetZ.mk2 _ _ (cmp_of (.inl ⟨top_lt HL.out HM.out (i := k - 1) (by omega) HN.out (fun j h1 h2 => HZ.out j (by omega) h2) (by rw [← EX.out, ← EY.out]; exact g), rfl⟩))
      · have g' : ¬ (x : Int) < y := by omega
        have g2 : ¬ (y : Int) < x := by omega
        go_wp2_with fail
        go_quiet (fail)
        go_wp2_with fail
        go_quiet (fail)
        go_wp2
        go_roundw
        case rel => exact ⟨k - 1, _, by omega, by congr 1; omega, fun j h1 h2 => by
          by_cases e : j = k - 1
          · rw [e, ← EX.out, ← EY.out]; exact g
          · exact HZ.out j (by omega) h2, rfl⟩
        case measure => simp [intOf]; omega
      · have g' : ¬ (x : Int) < y := by omega
        have g2 : (y : Int) < x := by omega
        go_wp2_with fail
        go_quiet (fail)
        go_wp2_with fail
        go_quiet (fail)
        go_wp2
        go_ret
        exact RetZ.mk3 _ _ _ (cmp_of (.inr (.inl ⟨top_lt HM.out HL.out (i := k - 1) (by rw [← HN.out]; omega) HN.out.symm (fun j h1 h2 => (HZ.out j (by omega) (by rw [HN.out]; exact h2)).symm) (by rw [← EX.out, ← EY.out]; exact g), rfl⟩)))
theorem cmp_c {v1 v2 : Value} {A B : Nat} {w : World} (h1 : IsW w v1 (digs A)) (h2 : IsW w v2 (digs B)) : Calls Try.prog 95 #[v1, v2] w (RetZ (cmpI A B) w) := by
  obtain ⟨s1, cap1, rfl, a1, a2, a3⟩ := h1
  obtain ⟨s2, cap2, rfl, b1, b2, b3⟩ := h2
  by_cases hl : (digs A).length = (digs B).length
  · by_cases h0 : A = 0
    · subst h0
      have hB : B = 0 := by
        apply digs_nil.1
        exact List.eq_nil_of_length_eq_zero hl.symm
      subst hB
      exact cmp_zero w
    · have hB : B ≠ 0 := by
        intro e; subst e
        have := digs_len_pos h0
        rw [hl, digs_zero] at this; simp at this
      obtain ⟨p1, q1, rfl, _, c1⟩ := a3 (mt digs_nil.1 h0)
      obtain ⟨p2, q2, rfl, _, c2⟩ := b3 (mt digs_nil.1 hB)
      rw [← hl] at c2 b1 ⊢
      have := cmp_eq' (digs_sm A) (digs_sm B) hl a1 a2 b1 b2 c1 c2
      rw [wv_digs, wv_digs] at this
      exact this
  · refine (cmp_ne w a1 a2 b1 b2 hl).mono ?_
    rintro e w' ⟨n, rfl, rfl⟩
    refine RetZ.mk n (cmp_of ?_)
    split
    · rename_i g; exact .inl ⟨len_lt g, rfl⟩
    · exact .inr (.inl ⟨len_lt (by omega), rfl⟩)
end Go.Proofs.Ytcfkhhnkboealaa
