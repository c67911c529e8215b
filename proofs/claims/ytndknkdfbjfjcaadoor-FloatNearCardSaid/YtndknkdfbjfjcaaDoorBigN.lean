/- Numbers by words of 32 bits, the least one first: plain arithmetic. -/
namespace Go.Proofs.YtndknkdfbjfjcaaDoor
set_option linter.unusedVariables false
set_option linter.unusedSimpArgs false

/-- what words are worth. -/
def wv : List Nat → Nat
  | [] => 0
  | x :: l => x + 4294967296 * wv l
/-- all below 2^32. -/
def Sm (l : List Nat) : Prop := ∀ x ∈ l, x < 4294967296
def digsF : Nat → Nat → List Nat
  | 0, _ => []
  | k + 1, n => if n = 0 then [] else n % 4294967296 :: digsF k (n / 4294967296)
/-- a number's words, without noughts at the end. -/
def digs (n : Nat) : List Nat := digsF n n
/-- no nought at the end. -/
def Trim (l : List Nat) : Prop := l = [] ∨ l.getD (l.length - 1) 0 ≠ 0
theorem gd_lt {l : List Nat} {i : Nat} (h : i < l.length) : l.getD i 0 = l[i] := by simp [List.getD_eq_getElem?_getD, h]
theorem gd_ge {l : List Nat} {i : Nat} (h : l.length ≤ i) : l.getD i 0 = 0 := by simp [List.getD_eq_getElem?_getD, h]

theorem sm_nil : Sm [] := fun _ h => by cases h
theorem sm_cons {x : Nat} {l : List Nat} : Sm (x :: l) ↔ x < 4294967296 ∧ Sm l := by
  constructor
  · intro h; exact ⟨h x (List.mem_cons_self ..), fun y hy => h y (List.mem_cons_of_mem _ hy)⟩
  · rintro ⟨h, k⟩ y hy
    rcases List.mem_cons.1 hy with rfl | hy
    · exact h
    · exact k y hy
theorem sm_append {a b : List Nat} : Sm (a ++ b) ↔ Sm a ∧ Sm b := by
  constructor
  · intro h; exact ⟨fun y hy => h y (List.mem_append_left _ hy), fun y hy => h y (List.mem_append_right _ hy)⟩
  · rintro ⟨h, k⟩ y hy
    rcases List.mem_append.1 hy with hy | hy
    · exact h y hy
    · exact k y hy
theorem sm_get {l : List Nat} (h : Sm l) {i : Nat} (hi : i < l.length) : l[i] < 4294967296 := h _ (List.getElem_mem hi)
theorem sm_getD {l : List Nat} (h : Sm l) (i : Nat) : l.getD i 0 < 4294967296 := by
  by_cases hi : i < l.length
  · rw [gd_lt hi]; exact sm_get h hi
  · rw [gd_ge (by omega)]; decide
theorem sm_take {l : List Nat} (h : Sm l) (k : Nat) : Sm (l.take k) := fun x hx => h x (List.mem_of_mem_take hx)
theorem sm_drop {l : List Nat} (h : Sm l) (k : Nat) : Sm (l.drop k) := fun x hx => h x (List.mem_of_mem_drop hx)
theorem sm_set {l : List Nat} (h : Sm l) (i : Nat) {v : Nat} (hv : v < 4294967296) : Sm (l.set i v) := fun x hx => by
  rcases List.mem_or_eq_of_mem_set hx with hx | rfl
  · exact h x hx
  · exact hv
theorem sm_replicate (n : Nat) : Sm (List.replicate n 0) := fun x hx => by rw [List.mem_replicate] at hx; omega

theorem wv_append (a b : List Nat) : wv (a ++ b) = wv a + 4294967296 ^ a.length * wv b := by
  induction a with
  | nil => simp [wv]
  | cons x a ih =>
    show x + 4294967296 * wv (a ++ b) = x + 4294967296 * wv a + 4294967296 ^ (a.length + 1) * wv b
    rw [ih, Nat.pow_succ, Nat.mul_add, Nat.mul_comm (4294967296 ^ a.length) 4294967296, Nat.mul_assoc]
    omega
theorem wv_lt {l : List Nat} (h : Sm l) : wv l < 4294967296 ^ l.length := by
  induction l with
  | nil => simp [wv]
  | cons x l ih =>
    have ⟨h1, h2⟩ := sm_cons.1 h
    have := ih h2
    show x + 4294967296 * wv l < 4294967296 ^ (l.length + 1)
    rw [Nat.pow_succ]
    generalize 4294967296 ^ l.length = P at *
    omega
theorem wv_replicate (n : Nat) : wv (List.replicate n 0) = 0 := by
  induction n with
  | zero => rfl
  | succ n ih => show 0 + 4294967296 * wv (List.replicate n 0) = 0; rw [ih]
theorem wv_take_drop (l : List Nat) (k : Nat) (hk : k ≤ l.length) : wv l = wv (l.take k) + 4294967296 ^ k * wv (l.drop k) := by
  have h := wv_append (l.take k) (l.drop k)
  rw [List.take_append_drop, List.length_take, Nat.min_eq_left hk] at h
  exact h
theorem wv_take_succ (l : List Nat) (k : Nat) (hk : k < l.length) : wv (l.take (k + 1)) = wv (l.take k) + 4294967296 ^ k * l[k] := by
  rw [List.take_succ_eq_append_getElem hk, wv_append, List.length_take, Nat.min_eq_left (by omega)]
  simp [wv]
/-- a word exchanged. -/
theorem wv_set (l : List Nat) (i v : Nat) (hi : i < l.length) : wv (l.set i v) + 4294967296 ^ i * l[i] = wv l + 4294967296 ^ i * v := by
  induction l generalizing i with
  | nil => simp at hi
  | cons x l ih =>
    cases i with
    | zero => simp [wv]; omega
    | succ i =>
      have := ih i (by simpa using hi)
      have hi' : i < l.length := by simpa using hi
      show x + 4294967296 * wv (l.set i v) + 4294967296 ^ (i + 1) * l[i] = x + 4294967296 * wv l + 4294967296 ^ (i + 1) * v
      rw [Nat.pow_succ, Nat.mul_comm (4294967296 ^ i) 4294967296, Nat.mul_assoc, Nat.mul_assoc]
      generalize 4294967296 ^ i * l[i] = P at *
      generalize 4294967296 ^ i * v = Q at *
      omega

theorem digsF_eq : ∀ (k n : Nat), n ≤ k → ∀ j, n ≤ j → digsF k n = digsF j n
  | 0, n, h, j, _ => by
    have : n = 0 := by omega
    subst this
    cases j with
    | zero => rfl
    | succ j => rfl
  | k + 1, n, h, j, hj => by
    by_cases h0 : n = 0
    · subst h0
      cases j with
      | zero => rfl
      | succ j => rfl
    · cases j with
      | zero => omega
      | succ j =>
        show (if n = 0 then [] else _) = (if n = 0 then [] else _)
        rw [if_neg h0, if_neg h0, digsF_eq k (n / 4294967296) (by omega) j (by omega)]
theorem digs_zero : digs 0 = [] := rfl
theorem digs_pos {n : Nat} (h : n ≠ 0) : digs n = n % 4294967296 :: digs (n / 4294967296) := by
  obtain ⟨k, rfl⟩ : ∃ k, n = k + 1 := ⟨n - 1, by omega⟩
  show (if k + 1 = 0 then [] else _ :: digsF k ((k + 1) / 4294967296)) = _
  rw [if_neg h]
  congr 1
  exact digsF_eq _ _ (by omega) _ (Nat.le_refl _)
theorem wv_digs (n : Nat) : wv (digs n) = n := by
  induction n using Nat.strongRecOn with
  | _ n ih =>
    by_cases h : n = 0
    · subst h; rfl
    · rw [digs_pos h]
      show n % 4294967296 + 4294967296 * wv (digs (n / 4294967296)) = n
      rw [ih _ (by omega)]; omega
theorem digs_sm (n : Nat) : Sm (digs n) := by
  induction n using Nat.strongRecOn with
  | _ n ih =>
    by_cases h : n = 0
    · subst h; exact sm_nil
    · rw [digs_pos h]
      exact sm_cons.2 ⟨Nat.mod_lt _ (by decide), ih _ (by omega)⟩
theorem digs_nil {n : Nat} : digs n = [] ↔ n = 0 := by
  constructor
  · intro h; have := wv_digs n; rw [h] at this; exact this.symm
  · rintro rfl; rfl
theorem wv_pos_of_trim {l : List Nat} (h : l ≠ []) (ht : l.getD (l.length - 1) 0 ≠ 0) : 4294967296 ^ (l.length - 1) ≤ wv l := by
  have hl : 0 < l.length := List.length_pos_iff.2 h
  have h1 := wv_take_succ l (l.length - 1) (by omega)
  rw [show l.length - 1 + 1 = l.length by omega, List.take_length] at h1
  rw [gd_lt (by omega)] at ht
  rw [h1]
  have : 4294967296 ^ (l.length - 1) * 1 ≤ 4294967296 ^ (l.length - 1) * l[l.length - 1] := Nat.mul_le_mul_left _ (by omega)
  omega
theorem trim_cons {x : Nat} {l : List Nat} (h : Trim (x :: l)) : Trim l ∧ wv (x :: l) ≠ 0 := by
  rcases h with h | h
  · cases h
  · refine ⟨?_, ?_⟩
    · cases l with
      | nil => exact .inl rfl
      | cons y l => right; simpa using h
    · have := wv_pos_of_trim (l := x :: l) (by simp) h
      have := Nat.pow_pos (n := (x :: l).length - 1) (show 0 < 4294967296 by decide)
      omega
theorem digs_trim (n : Nat) : Trim (digs n) := by
  induction n using Nat.strongRecOn with
  | _ n ih =>
    by_cases h : n = 0
    · subst h; exact .inl rfl
    · right
      rw [digs_pos h]
      rcases ih (n / 4294967296) (by omega) with e | e
      · rw [e]
        rw [digs_nil] at e
        simp
        omega
      · cases hd : digs (n / 4294967296) with
        | nil => rw [digs_nil] at hd; simp; omega
        | cons y l => rw [hd] at e; simpa using e
/-- words without noughts at the end are their number's. -/
theorem digs_wv {l : List Nat} (h : Sm l) (ht : Trim l) : digs (wv l) = l := by
  induction l with
  | nil => rfl
  | cons x l ih =>
    obtain ⟨h1, h2⟩ := sm_cons.1 h
    obtain ⟨htl, hne⟩ := trim_cons ht
    have e := ih h2 htl
    rw [digs_pos hne]
    have ev : wv (x :: l) = x + 4294967296 * wv l := rfl
    rw [ev, show (x + 4294967296 * wv l) % 4294967296 = x by omega, show (x + 4294967296 * wv l) / 4294967296 = wv l by omega, e]
/-- how many words a number has. -/
theorem digs_len_le {n k : Nat} (h : n < 4294967296 ^ k) : (digs n).length ≤ k := by
  rcases digs_trim n with e | e
  · rw [e]; simp
  · by_cases hz : digs n = []
    · rw [hz]; simp
    · have h1 := wv_pos_of_trim hz e
      rw [wv_digs] at h1
      have h2 : 4294967296 ^ ((digs n).length - 1) < 4294967296 ^ k := Nat.lt_of_le_of_lt h1 h
      have h3 := (Nat.pow_lt_pow_iff_right (show 1 < 4294967296 by decide)).1 h2
      omega
theorem digs_lt (n : Nat) : n < 4294967296 ^ (digs n).length := by
  have := wv_lt (digs_sm n); rwa [wv_digs] at this
theorem digs_ge {n : Nat} (h : n ≠ 0) : 4294967296 ^ ((digs n).length - 1) ≤ n := by
  rcases digs_trim n with e | e
  · rw [digs_nil] at e; omega
  · have := wv_pos_of_trim (mt digs_nil.1 h) e; rwa [wv_digs] at this
theorem digs_len_pos {n : Nat} (h : n ≠ 0) : 0 < (digs n).length := by
  rcases Nat.eq_zero_or_pos (digs n).length with e | e
  · have := digs_nil.1 (List.eq_nil_of_length_eq_zero e); omega
  · exact e
theorem digs_mono {m n : Nat} (h : m ≤ n) : (digs m).length ≤ (digs n).length := digs_len_le (Nat.lt_of_le_of_lt h (digs_lt n))
theorem digs_last {n : Nat} (h : n ≠ 0) : (digs n).getD ((digs n).length - 1) 0 ≠ 0 := by
  rcases digs_trim n with e | e
  · rw [digs_nil] at e; omega
  · exact e
/-- the words up to the last that is not nought. -/
theorem take_digs {l : List Nat} (h : Sm l) (k : Nat) (hk : k ≤ l.length) (hz : ∀ j, k ≤ j → j < l.length → l.getD j 0 = 0) (hk0 : k = 0 ∨ l.getD (k - 1) 0 ≠ 0) : l.take k = digs (wv l) := by
  have e1 : wv (l.drop k) = 0 := by
    have : l.drop k = List.replicate (l.length - k) 0 := by
      apply List.eq_replicate_iff.2
      refine ⟨by simp, fun x hx => ?_⟩
      obtain ⟨i, hi, rfl⟩ := List.mem_iff_getElem.1 hx
      have h2 := hz (k + i) (by omega) (by simp at hi; omega)
      rw [gd_lt (by simp at hi; omega)] at h2
      rw [List.getElem_drop]; exact h2
    rw [this, wv_replicate]
  have e2 := wv_take_drop l k hk
  rw [e1, Nat.mul_zero, Nat.add_zero] at e2
  rw [e2]
  refine (digs_wv (sm_take h k) ?_).symm
  by_cases hk1 : k = 0
  · subst hk1; exact .inl rfl
  · right
    have e := hk0.resolve_left hk1
    rw [List.length_take, Nat.min_eq_left hk]
    rw [gd_lt (by omega)] at e
    rw [gd_lt (by rw [List.length_take]; omega), List.getElem_take]
    exact e
end Go.Proofs.YtndknkdfbjfjcaaDoor
