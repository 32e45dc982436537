/- The document's numbers, digit by digit: what a row of digits says, and the plain law of each round of the functions on sizes. -/
import Derived.Test.YtkohpeonnoegpaaWords
namespace Go.Proofs.Ytkohpeonnoegpaa
set_option linter.unusedVariables false
set_option linter.unusedSimpArgs false

def dval : List Int → Int
  | [] => 0
  | d :: l => d + 65536 * dval l
def Dg (l : List Int) : Prop := ∀ d ∈ l, 0 ≤ d ∧ d < 65536
/-- Digits without zeros ahead. -/
def Cn (l : List Int) : Prop := Dg l ∧ ∀ m d, l = m ++ [d] → d ≠ 0
def p65 (n : Nat) : Int := ((65536 ^ n : Nat) : Int)
theorem p65_zero : p65 0 = 1 := rfl
theorem p65_succ (n : Nat) : p65 (n + 1) = 65536 * p65 n := by unfold p65; rw [Nat.pow_succ]; omega
theorem p65_pos (n : Nat) : 0 < p65 n := by unfold p65; have := Nat.pow_pos (n := n) (show 0 < 65536 by decide); omega
theorem p65_mono {n m : Nat} (h : n ≤ m) : p65 n ≤ p65 m := by
  unfold p65
  have := Nat.pow_le_pow_right (show 0 < 65536 by decide) h
  omega

theorem Dg.nil : Dg [] := by intro d h; cases h
theorem Dg.tail {d : Int} {l : List Int} (h : Dg (d :: l)) : Dg l := fun x hx => h x (List.mem_cons_of_mem _ hx)
theorem Dg.head {d : Int} {l : List Int} (h : Dg (d :: l)) : 0 ≤ d ∧ d < 65536 := h d (List.mem_cons_self ..)
theorem Dg.cons {d : Int} {l : List Int} (h0 : 0 ≤ d) (h1 : d < 65536) (h : Dg l) : Dg (d :: l) := fun x hx => by
  rcases List.mem_cons.1 hx with rfl | hx
  · exact ⟨h0, h1⟩
  · exact h x hx
theorem Dg.append {a b : List Int} (ha : Dg a) (hb : Dg b) : Dg (a ++ b) := fun x hx => by
  rcases List.mem_append.1 hx with h | h
  · exact ha x h
  · exact hb x h
theorem Dg.left {a b : List Int} (h : Dg (a ++ b)) : Dg a := fun x hx => h x (List.mem_append_left _ hx)
theorem Dg.right {a b : List Int} (h : Dg (a ++ b)) : Dg b := fun x hx => h x (List.mem_append_right _ hx)
theorem Dg.drop {a : List Int} (h : Dg a) (i : Nat) : Dg (a.drop i) := fun x hx => h x (List.mem_of_mem_drop hx)
theorem Dg.zeros (n : Nat) : Dg (List.replicate n 0) := fun x hx => by rw [List.eq_of_mem_replicate hx]; decide
theorem Dg.getD {a : List Int} (h : Dg a) (i : Nat) : 0 ≤ a.getD i 0 ∧ a.getD i 0 < 65536 := by
  by_cases hi : i < a.length
  · rw [List.getD_eq_getElem?_getD, List.getElem?_eq_getElem hi]; exact h _ (List.getElem_mem _)
  · rw [List.getD_eq_getElem?_getD, List.getElem?_eq_none (by omega)]; exact ⟨by simp, by simp⟩
theorem dval_nonneg : ∀ {l : List Int}, Dg l → 0 ≤ dval l
  | [], _ => Int.le_refl _
  | d :: l, h => by
    have h1 := dval_nonneg h.tail
    have h2 := h.head
    unfold dval
    omega
theorem dval_append : ∀ (a b : List Int), dval (a ++ b) = dval a + p65 a.length * dval b
  | [], b => by simp [dval, p65_zero]
  | d :: a, b => by
    have ih := dval_append a b
    show d + 65536 * dval (a ++ b) = d + 65536 * dval a + p65 (a.length + 1) * dval b
    rw [ih, p65_succ, Int.mul_add, Int.mul_assoc]
    omega
theorem dval_zeros : ∀ n : Nat, dval (List.replicate n 0) = 0
  | 0 => rfl
  | n + 1 => by
    rw [List.replicate_succ]
    unfold dval
    rw [dval_zeros n]
    rfl
theorem dval_lt : ∀ {l : List Int}, Dg l → dval l < p65 l.length
  | [], _ => by decide
  | d :: l, h => by
    have h1 := dval_lt h.tail
    have h2 := h.head
    show d + 65536 * dval l < p65 (l.length + 1)
    rw [p65_succ]
    omega
theorem dval_one (d : Int) : dval [d] = d := by simp [dval]
theorem dval_drop (l : List Int) (i : Nat) : dval (l.drop i) = l.getD i 0 + 65536 * dval (l.drop (i + 1)) := by
  by_cases hi : i < l.length
  · rw [List.drop_eq_getElem_cons hi, List.getD_eq_getElem?_getD, List.getElem?_eq_getElem hi]
    rfl
  · rw [List.drop_of_length_le (by omega), List.drop_of_length_le (by omega), List.getD_eq_getElem?_getD, List.getElem?_eq_none (by omega)]
    rfl
theorem dval_end {l : List Int} {i : Nat} (h : l.length ≤ i) : dval (l.drop i) = 0 := by
  rw [List.drop_of_length_le h]
  rfl

theorem Cn.nil : Cn [] := ⟨Dg.nil, fun m d h => by simp at h⟩
theorem Cn.low {l : List Int} (h : Cn l) (hl : l ≠ []) : p65 (l.length - 1) ≤ dval l := by
  obtain ⟨m, d, rfl⟩ : ∃ m d, l = m ++ [d] := ⟨l.dropLast, l.getLast hl, (List.dropLast_concat_getLast hl).symm⟩
  have h1 := h.2 m d rfl
  have h2 := h.1.right.head
  have h3 := dval_nonneg h.1.left
  have hp := p65_pos m.length
  rw [dval_append, dval_one]
  simp only [List.length_append, List.length_cons, List.length_nil, Nat.zero_add, Nat.add_sub_cancel]
  have h4 := Int.mul_le_mul_of_nonneg_left (show 1 ≤ d by omega) (show 0 ≤ p65 m.length by omega)
  omega
theorem Cn.zero {l : List Int} (h : Cn l) : l = [] ↔ dval l = 0 := by
  constructor
  · rintro rfl; rfl
  · intro h0
    rcases List.eq_nil_or_concat l with rfl | ⟨m, d, hd⟩
    · rfl
    · have hl : l ≠ [] := by rw [hd]; simp
      have := h.low hl
      have := p65_pos (l.length - 1)
      omega
theorem Cn.pos {l : List Int} (h : Cn l) (hl : l ≠ []) : 0 < dval l := by
  have := h.low hl
  have := p65_pos (l.length - 1)
  omega
/-- A greater row of digits is a greater number. -/
theorem Cn.longer {a b : List Int} (ha : Dg a) (hb : Cn b) (h : a.length < b.length) : dval a < dval b := by
  have hb0 : b ≠ [] := by intro e; subst e; simp at h
  have h1 := dval_lt ha
  have h2 := hb.low hb0
  have h3 := p65_mono (show a.length ≤ b.length - 1 by omega)
  omega
theorem Cn.len_le {l : List Int} (h : Cn l) {n : Nat} (hv : dval l < p65 n) : l.length ≤ n := by
  rcases Nat.lt_or_ge n l.length with h1 | h1
  · have hl : l ≠ [] := by intro e; subst e; simp at h1
    have := h.low hl
    have := p65_mono (show n ≤ l.length - 1 by omega)
    omega
  · exact h1

theorem dval_snoc (r : List Int) (d : Int) : dval (r ++ [d]) = dval r + p65 r.length * d := by rw [dval_append, dval_one]
theorem Dg.snoc {r : List Int} {d : Int} (h : Dg r) (h0 : 0 ≤ d) (h1 : d < 65536) : Dg (r ++ [d]) := h.append (Dg.cons h0 h1 Dg.nil)
theorem Dg.take {a : List Int} (h : Dg a) (i : Nat) : Dg (a.take i) := fun x hx => h x (List.mem_of_mem_take hx)
theorem Dg.one {d : Int} (h0 : 0 ≤ d) (h1 : d < 65536) : Dg [d] := Dg.cons h0 h1 Dg.nil
theorem getD_in {l : List Int} {k : Nat} (h : k < l.length) : l.getD k 0 = l[k] := by rw [List.getD_eq_getElem?_getD, List.getElem?_eq_getElem h]; rfl
theorem getD_out {l : List Int} {k : Nat} (h : l.length ≤ k) : l.getD k 0 = 0 := by rw [List.getD_eq_getElem?_getD, List.getElem?_eq_none h]; rfl
theorem plus_round {a b r : List Int} {k : Nat} {c n : Int} (hr : r.length = k) (hn : n = a.getD k 0 + b.getD k 0 + c) :
    dval (r ++ [n % 65536]) + p65 (k + 1) * (dval (a.drop (k + 1)) + dval (b.drop (k + 1)) + n / 65536) = dval r + p65 k * (dval (a.drop k) + dval (b.drop k) + c) := by
  rw [dval_snoc, hr, p65_succ, dval_drop a k, dval_drop b k]
  have h : n = 65536 * (n / 65536) + n % 65536 := by omega
  generalize n / 65536 = q at *
  generalize n % 65536 = m at *
  generalize p65 k = P at *
  generalize a.getD k 0 = x at *
  generalize b.getD k 0 = y at *
  generalize dval (a.drop (k + 1)) = X at *
  generalize dval (b.drop (k + 1)) = Y at *
  grind
theorem less_round {a b r : List Int} {k : Nat} {c n : Int} (hr : r.length = k) (hn : n = 65536 + a.getD k 0 - b.getD k 0 - c) :
    dval (r ++ [n % 65536]) + p65 (k + 1) * (dval (a.drop (k + 1)) - dval (b.drop (k + 1)) - (1 - n / 65536)) = dval r + p65 k * (dval (a.drop k) - dval (b.drop k) - c) := by
  rw [dval_snoc, hr, p65_succ, dval_drop a k, dval_drop b k]
  have h : n = 65536 * (n / 65536) + n % 65536 := by omega
  generalize n / 65536 = q at *
  generalize n % 65536 = m at *
  generalize p65 k = P at *
  generalize a.getD k 0 = x at *
  generalize b.getD k 0 = y at *
  generalize dval (a.drop (k + 1)) = X at *
  generalize dval (b.drop (k + 1)) = Y at *
  grind
theorem less_end {a b r : List Int} {k : Nat} {c : Int} (hr : r.length = k) (da : Dg a) (db : Dg b) (dr : Dg r) (hk : a.length = k) (hc : 0 ≤ c) (hle : dval b ≤ dval a)
    (h : dval r + p65 k * (dval (a.drop k) - dval (b.drop k) - c) = dval a - dval b) : dval r = dval a - dval b := by
  rw [dval_end (by omega)] at h
  have h1 := dval_lt dr
  have h2 := dval_nonneg dr
  have h3 := dval_lt da
  have h4 := dval_nonneg db
  have h5 := dval_nonneg (db.drop k)
  rw [hr] at h1
  rw [hk] at h3
  have hp := p65_pos k
  generalize dval (b.drop k) = Y at *
  generalize p65 k = P at *
  generalize dval r = R at *
  obtain ⟨z, hz⟩ : ∃ z, Y + c = z := ⟨_, rfl⟩
  have hz0 : 0 ≤ z := by omega
  have e : P * (0 - Y - c) = -(P * z) := by rw [← hz]; grind
  rw [e] at h
  rcases (show 0 < z ∨ z ≤ 0 by omega) with h6 | h6
  · have : P * 1 ≤ P * z := Int.mul_le_mul_of_nonneg_left (by omega) (by omega)
    omega
  · have : z = 0 := by omega
    subst this
    omega
theorem times_round {b r : List Int} {k : Nat} {x c n : Int} (hr : r.length = k) (hn : n = x * b.getD k 0 + c) :
    dval (r ++ [n % 65536]) + p65 (k + 1) * (x * dval (b.drop (k + 1)) + n / 65536) = dval r + p65 k * (x * dval (b.drop k) + c) := by
  rw [dval_snoc, hr, p65_succ, dval_drop b k]
  have h : n = 65536 * (n / 65536) + n % 65536 := by omega
  generalize n / 65536 = q at *
  generalize n % 65536 = m at *
  generalize p65 k = P at *
  generalize b.getD k 0 = y at *
  generalize dval (b.drop (k + 1)) = Y at *
  grind
theorem times_row {a b r : List Int} {i : Nat} (hi : i < a.length) (h : dval r = a[i] * dval b) :
    dval (a.take i) * dval b + dval (List.replicate i 0 ++ r) = dval (a.take (i + 1)) * dval b := by
  rw [dval_append, dval_zeros, List.length_replicate, h, List.take_succ_eq_append_getElem hi, dval_snoc, List.length_take, Nat.min_eq_left (by omega)]
  generalize dval (a.take i) = T at *
  grind
theorem top_digit {l : List Int} {k : Nat} (h : k < l.length) : dval (l.take (k + 1)) = dval (l.take k) + p65 k * l[k] := by
  rw [List.take_succ_eq_append_getElem h, dval_snoc, List.length_take, Nat.min_eq_left (by omega)]
theorem dval_split (l : List Int) {k : Nat} (h : k ≤ l.length) : dval l = dval (l.take k) + p65 k * dval (l.drop k) := by
  have e := dval_append (l.take k) (l.drop k)
  rw [List.take_append_drop, List.length_take, Nat.min_eq_left h] at e
  exact e
/-- Of two rows whose higher digits are the same, the first digit that differs tells. -/
theorem less_digit {a b : List Int} {k : Nat} (da : Dg a) (db : Dg b) (ha : k < a.length) (hb : k < b.length) (hd : a.drop (k + 1) = b.drop (k + 1)) (hne : a[k] ≠ b[k]) : decide (a[k] < b[k]) = decide (dval a < dval b) := by
  have e1 := dval_split a (k := k) (by omega)
  have e2 := dval_split b (k := k) (by omega)
  rw [dval_drop a k, getD_in ha] at e1
  rw [dval_drop b k, getD_in hb, ← hd] at e2
  have h1 := dval_lt (da.take k)
  have h2 := dval_lt (db.take k)
  have h3 := dval_nonneg (da.take k)
  have h4 := dval_nonneg (db.take k)
  rw [List.length_take, Nat.min_eq_left (by omega)] at h1 h2
  rw [e1, e2, decide_eq_decide]
  generalize dval (a.drop (k + 1)) = V at *
  generalize dval (a.take k) = S at *
  generalize dval (b.take k) = T at *
  generalize p65 k = P at *
  generalize a[k] = x at *
  generalize b[k] = y at *
  rw [Int.mul_add, Int.mul_add]
  rcases Int.lt_or_gt_of_ne hne with h | h
  · have h5 := Int.mul_le_mul_of_nonneg_left (show x + 1 ≤ y by omega) (show 0 ≤ P by omega)
    rw [Int.mul_add, Int.mul_one] at h5
    omega
  · have h5 := Int.mul_le_mul_of_nonneg_left (show y + 1 ≤ x by omega) (show 0 ≤ P by omega)
    rw [Int.mul_add, Int.mul_one] at h5
    omega
/-- One bit of a division. -/
theorem over_bit {V M E Q d B R D bit : Int} (h : V * M + E = (Q * M + d) * B + R) (hE : D = 2 * E + bit) : V * (2 * M) + D = (Q * (2 * M) + 2 * d) * B + (2 * R + bit) := by grind
theorem over_one {V M Q d B R D : Int} (h : V * M + D = (Q * M + d) * B + R) : V * M + D = (Q * M + (d + 1)) * B + (R - B) := by grind
theorem bit_split (D k : Nat) : D / 2 ^ k = 2 * (D / 2 ^ (k + 1)) + D / 2 ^ k % 2 := by
  rw [Nat.pow_succ, ← Nat.div_div_eq_div_mul]
  omega
theorem trim_step {l : List Int} {k : Nat} (hk : k < l.length) (h : dval (l.take (k + 1)) = dval l) (h0 : l[k] = 0) : dval (l.take k) = dval l := by
  rw [← h, top_digit hk, h0, Int.mul_zero, Int.add_zero]
theorem trim_end {l : List Int} {k : Nat} (hk : k < l.length) (dl : Dg l) (h0 : l[k] ≠ 0) : Cn (l.take (k + 1)) := by
  refine ⟨dl.take _, fun m d he => ?_⟩
  rw [List.take_succ_eq_append_getElem hk] at he
  have := List.append_inj_right' he (by simp)
  simp at this
  rw [← this]
  exact h0
theorem Cn.ext {a b : List Int} (ha : Cn a) (hb : Cn b) (hl : a.length < b.length) : dval a < dval b := Cn.longer ha.1 hb hl
theorem Cn.one_ : Cn [1] := ⟨Dg.one (by decide) (by decide), fun m d h => by
  have := List.append_inj_right' (s₁ := []) (t₁ := [1]) (s₂ := m) (t₂ := [d]) h (by simp)
  simp at this
  omega⟩
end Go.Proofs.Ytkohpeonnoegpaa
