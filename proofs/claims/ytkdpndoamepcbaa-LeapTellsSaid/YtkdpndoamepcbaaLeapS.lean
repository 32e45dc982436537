/- leap: the plain law of labels: which offset there is, and that no two instants have one label. -/
import Derived.Test.YtkdpndoamepcbaaSmearS
namespace Go.Proofs.Ytkdpndoamepcbaa
set_option linter.unusedVariables false
set_option linter.unusedSimpArgs false

/-- How many leaps are not behind an instant, what they inserted, whether the instant is inserted. -/
def cntS (t : Int) : List (Int × Int) → Nat
  | [] => 0
  | x :: l => if x.1 ≤ t then cntS t l + 1 else 0
def kindS (L : List (Int × Int)) : Int := (L.map (·.2)).sum
def kS (t : Int) (L : List (Int × Int)) : Int := kindS (L.take (cntS t L))
def insS (t : Int) (L : List (Int × Int)) : Bool := L.any fun x => decide (x.2 = 1 ∧ x.1 ≤ t ∧ t < x.1 + 1000000000)

theorem kindS_cons (x : Int × Int) (L : List (Int × Int)) : kindS (x :: L) = x.2 + kindS L := by simp [kindS]
theorem kindS_append (L M : List (Int × Int)) : kindS (L ++ M) = kindS L + kindS M := by simp [kindS, List.sum_append]
theorem cntS_le (t : Int) : ∀ L, cntS t L ≤ L.length
  | [] => Nat.le_refl _
  | x :: l => by
    have := cntS_le t l
    unfold cntS
    simp only [List.length_cons]
    split <;> omega
theorem kS_nil (t : Int) : kS t [] = 0 := rfl
theorem kS_cons (t : Int) (x : Int × Int) (l : List (Int × Int)) : kS t (x :: l) = if x.1 ≤ t then x.2 + kS t l else 0 := by
  have e : cntS t (x :: l) = if x.1 ≤ t then cntS t l + 1 else 0 := rfl
  unfold kS
  rw [e]
  split
  · rw [List.take_succ_cons, kindS_cons]
  · rfl
theorem kind_bd : ∀ {L : List (Int × Int)}, (∀ x ∈ L, x.2 = 1 ∨ x.2 = -1) → -(L.length : Int) ≤ kindS L ∧ kindS L ≤ L.length
  | [], _ => by simp [kindS]
  | x :: L, h => by
    have h1 := kind_bd (L := L) (fun y hy => h y (List.mem_cons_of_mem _ hy))
    have h2 := h x (List.mem_cons_self ..)
    rw [kindS_cons, List.length_cons]
    omega
theorem take_kind_bd {L : List (Int × Int)} (ok : LOk L) (k : Nat) : -32 ≤ kindS (L.take k) ∧ kindS (L.take k) ≤ 32 := by
  have := kind_bd (L := L.take k) (fun x hx => (ok.each x (List.mem_of_mem_take hx)).2.2)
  have h2 := ok.len
  have h3 : (L.take k).length ≤ L.length := by simp; omega
  omega
theorem kS_bd {L : List (Int × Int)} (ok : LOk L) (t : Int) : -32 ≤ kS t L ∧ kS t L ≤ 32 := take_kind_bd ok _

/-- Where the first leap behind an instant stands. -/
theorem idx_cnt (t : Int) : ∀ L : List (Int × Int), idxS (fun y => decide (t < y.1)) L = if cntS t L = L.length then -1 else (cntS t L : Int)
  | [] => by simp [idxS, cntS]
  | x :: l => by
    have ih := idx_cnt t l
    have hl := cntS_le t l
    unfold idxS cntS
    rw [ih]
    simp only [List.length_cons]
    by_cases h : x.1 ≤ t
    · rw [if_pos h, if_neg (by simp; omega)]
      by_cases h2 : cntS t l = l.length
      · simp [h2]
      · rw [if_neg h2, if_neg (by omega), if_neg (by omega)]
        omega
    · rw [if_neg h, if_pos (by simp; omega), if_neg (by omega)]
      rfl
theorem cnt_zero {t : Int} : ∀ {L : List (Int × Int)}, (∀ x ∈ L, t < x.1) → cntS t L = 0
  | [], _ => rfl
  | x :: l, h => by
    have := h x (List.mem_cons_self ..)
    unfold cntS
    rw [if_neg (by omega)]
theorem ks_zero {t : Int} {L : List (Int × Int)} (h : ∀ x ∈ L, t < x.1) : kS t L = 0 := by
  unfold kS
  rw [cnt_zero h]
  rfl
theorem ins_zero {t : Int} {L : List (Int × Int)} (h : ∀ x ∈ L, t < x.1) : insS t L = false := by
  unfold insS
  rw [List.any_eq_false]
  intro x hx
  have := h x hx
  simp
  omega
abbrev Rise (L : List (Int × Int)) : Prop := L.Pairwise fun x y => x.1 + 172800000000000 ≤ y.1
theorem rise_lt {x : Int × Int} {l : List (Int × Int)} (h : Rise (x :: l)) {t : Int} (ht : t < x.1 + 172800000000000) : ∀ y ∈ l, t < y.1 := by
  intro y hy
  have := (List.pairwise_cons.1 h).1 y hy
  omega
/-- m leaps that are not behind b, none of them ahead of lo. -/
theorem cnt_far {b lo : Int} : ∀ {L : List (Int × Int)}, Rise L → (∀ x ∈ L, lo ≤ x.1) → 0 < cntS b L → lo + (cntS b L - 1) * 172800000000000 ≤ b
  | [], _, _, h => by simp [cntS] at h
  | x :: l, hr, hlo, h => by
    have hx := hlo x (List.mem_cons_self ..)
    unfold cntS at h ⊢
    by_cases h1 : x.1 ≤ b
    · rw [if_pos h1] at h ⊢
      by_cases h2 : 0 < cntS b l
      · have := cnt_far (lo := x.1 + 172800000000000) (List.pairwise_cons.1 hr).2 (fun y hy => (List.pairwise_cons.1 hr).1 y hy) h2
        omega
      · have : cntS b l = 0 := by omega
        rw [this]
        omega
    · rw [if_neg h1] at h
      omega
/-- From one instant to a later one: no leap between, one, or many that lie far apart. -/
theorem ks_two {a b : Int} (hab : a ≤ b) : ∀ {L : List (Int × Int)}, Rise L → (∀ x ∈ L, x.2 = 1 ∨ x.2 = -1) →
    kS b L = kS a L ∨ (∃ x ∈ L, a < x.1 ∧ x.1 ≤ b ∧ kS b L = kS a L + x.2) ∨ ∃ m : Int, 1 ≤ m ∧ m * 172800000000000 ≤ b - a ∧ -(m + 1) ≤ kS b L - kS a L ∧ kS b L - kS a L ≤ m + 1
  | [], _, _ => .inl rfl
  | x :: l, hr, hk => by
    have hx := hk x (List.mem_cons_self ..)
    have hl := List.pairwise_cons.1 hr
    have hkl : ∀ y ∈ l, y.2 = 1 ∨ y.2 = -1 := fun y hy => hk y (List.mem_cons_of_mem _ hy)
    rw [kS_cons, kS_cons]
    by_cases h1 : x.1 ≤ a
    · rw [if_pos h1, if_pos (by omega)]
      rcases ks_two hab hl.2 hkl with h | ⟨y, hy, h2, h3, h4⟩ | ⟨m, h2, h3, h4, h5⟩
      · exact .inl (by omega)
      · exact .inr (.inl ⟨y, List.mem_cons_of_mem _ hy, h2, h3, by omega⟩)
      · exact .inr (.inr ⟨m, h2, h3, by omega, by omega⟩)
    · rw [if_neg h1]
      by_cases h2 : x.1 ≤ b
      · rw [if_pos h2]
        by_cases h3 : 0 < cntS b l
        · right; right
          have hf := cnt_far (b := b) (lo := x.1 + 172800000000000) hl.2 hl.1 h3
          have hb := kind_bd (L := l.take (cntS b l)) (fun y hy => hkl y (List.mem_of_mem_take hy))
          have hle := cntS_le b l
          have hlen : (l.take (cntS b l)).length = cntS b l := by simp; omega
          rw [hlen] at hb
          refine ⟨cntS b l, by omega, by omega, ?_, ?_⟩ <;> unfold kS <;> omega
        · right; left
          refine ⟨x, List.mem_cons_self .., by omega, h2, ?_⟩
          have : cntS b l = 0 := by omega
          unfold kS
          rw [this]
          simp [kindS]
      · rw [if_neg h2]
        exact .inl rfl
theorem ins_iff {t : Int} {L : List (Int × Int)} : insS t L = true ↔ ∃ x ∈ L, x.2 = 1 ∧ x.1 ≤ t ∧ t < x.1 + 1000000000 := by
  simp [insS]
theorem rise_ne {L : List (Int × Int)} (hr : Rise L) {x y : Int × Int} (hx : x ∈ L) (hy : y ∈ L) : x = y ∨ x.1 + 172800000000000 ≤ y.1 ∨ y.1 + 172800000000000 ≤ x.1 := by
  induction L with
  | nil => simp at hx
  | cons z l ih =>
    have hl := List.pairwise_cons.1 hr
    rcases List.mem_cons.1 hx with h1 | h1
    · rcases List.mem_cons.1 hy with h2 | h2
      · exact .inl (h1.trans h2.symm)
      · rw [h1]; exact .inr (.inl (hl.1 y h2))
    · rcases List.mem_cons.1 hy with h2 | h2
      · rw [h2]; exact .inr (.inr (hl.1 x h1))
      · exact ih hl.2 h1 h2
def labelS (base : Int) (L : List (Int × Int)) (t : Int) : Int := t - (base + kS t L) * 1000000000
/-- Two instants of one label differ in being inserted. -/
theorem label_uniq {L : List (Int × Int)} (ok : LOk L) {base a b : Int} (hab : a < b) (he : labelS base L a = labelS base L b) : insS a L = false ∧ insS b L = true := by
  unfold labelS at he
  rcases ks_two (Int.le_of_lt hab) ok.rise (fun x hx => (ok.each x hx).2.2) with h | ⟨x, hx, h1, h2, h3⟩ | ⟨m, h2, h3, h4, h5⟩
  · rw [h] at he; omega
  · have hk := (ok.each x hx).2.2
    have hb : b = a + 1000000000 ∧ x.2 = 1 := by omega
    refine ⟨?_, ins_iff.2 ⟨x, hx, hb.2, h2, by omega⟩⟩
    rw [Bool.eq_false_iff]
    intro hi
    obtain ⟨y, hy, hy1, hy2, hy3⟩ := ins_iff.1 hi
    rcases rise_ne ok.rise hx hy with rfl | h | h <;> omega
  · omega
/-- Of instants that are not inserted the later one has the greater label. -/
theorem label_mono {L : List (Int × Int)} (ok : LOk L) {base a b : Int} (hab : a < b) (hb : insS b L = false) : labelS base L a < labelS base L b := by
  unfold labelS
  rcases ks_two (Int.le_of_lt hab) ok.rise (fun x hx => (ok.each x hx).2.2) with h | ⟨x, hx, h1, h2, h3⟩ | ⟨m, h2, h3, h4, h5⟩
  · rw [h]; omega
  · rcases (ok.each x hx).2.2 with hk | hk
    · have : ¬ b < x.1 + 1000000000 := fun h => by
        rw [ins_iff.2 ⟨x, hx, hk, h2, h⟩] at hb
        cases hb
      omega
    · omega
  · omega
/-- The last leap that is not behind tells whether an instant is inserted. -/
theorem ins_last (t : Int) : ∀ {L : List (Int × Int)}, Rise L → ∀ (hk : ∀ x ∈ L, x.2 = 1 ∨ x.2 = -1),
    insS t L = decide (0 < cntS t L ∧ ∃ x, L[cntS t L - 1]? = some x ∧ 0 < x.2 ∧ t - x.1 < 1000000000)
  | [], _, _ => by simp [insS, cntS]
  | x :: l, hr, hk => by
    have hl := List.pairwise_cons.1 hr
    have ih := ins_last t hl.2 (fun y hy => hk y (List.mem_cons_of_mem _ hy))
    have hx := hk x (List.mem_cons_self ..)
    have e : insS t (x :: l) = (decide (x.2 = 1 ∧ x.1 ≤ t ∧ t < x.1 + 1000000000) || insS t l) := by simp [insS]
    rw [e]
    unfold cntS
    by_cases h1 : x.1 ≤ t
    · rw [if_pos h1]
      by_cases h2 : 0 < cntS t l
      · obtain ⟨k, hk2⟩ : ∃ k, cntS t l = k + 1 := ⟨cntS t l - 1, by omega⟩
        rw [hk2] at ih ⊢
        have hf := cnt_far (b := t) (lo := x.1 + 172800000000000) hl.2 hl.1 h2
        rw [ih]
        have : ¬ (x.2 = 1 ∧ x.1 ≤ t ∧ t < x.1 + 1000000000) := by omega
        simp [this]
      · have h3 : cntS t l = 0 := by omega
        rw [h3] at ih ⊢
        rw [ih]
        simp
        rw [Bool.eq_iff_iff]
        simp
        omega
    · rw [if_neg h1]
      have : insS t l = false := ins_zero fun y hy => by have := hl.1 y hy; omega
      rw [this]
      simp
      omega

end Go.Proofs.Ytkdpndoamepcbaa
