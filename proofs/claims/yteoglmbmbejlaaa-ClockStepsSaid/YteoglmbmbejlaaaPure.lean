/- Plain facts on a clock's Update, and on what fair hands out. -/
import Derived.Test.YteoglmbmbejlaaaAwake
namespace Go.Proofs.Yteoglmbmbejlaaa
open Go.RowKit
set_option linter.unusedVariables false
set_option linter.unusedSimpArgs false

/-- c is c0 but for its state, whose instant is not behind T. -/
structure CS.Of (c0 c : CS) (T : Int) : Prop where
  st : c.st = c0.st
  pa : c.pa = c0.pa
  so : c.so = c0.so
  s0 : 0 ≤ c.s
  s4 : c.s ≤ 4
  si0 : 0 ≤ c.si
  si1 : c.si ≤ T

/-- The bounds that fair makes. -/
structure CS.Bd (c0 : CS) : Prop where
  st0 : 0 ≤ c0.st
  st1 : c0.st < 1073741824
  so0 : 0 ≤ c0.so
  so1 : c0.so < 1099511627776
  pa : c0.pa = 0 ∨ c0.st < c0.pa
  pa1 : c0.pa < 2199023255552
  s01 : c0.s = 0 ∨ c0.s = 1
  si : c0.si = 0

theorem fair_bd (st pa so : Int) (kn : Bool) : (CS.mk (st % 1073741824) (fpa st pa) (so % 1099511627776) (if kn then 1 else 0) 0).Bd := by
  refine ⟨?_, ?_, ?_, ?_, ?_, ?_, ?_, rfl⟩
  · show 0 ≤ st % 1073741824; omega
  · show st % 1073741824 < _; omega
  · show 0 ≤ so % 1099511627776; omega
  · show so % 1099511627776 < _; omega
  · show fpa st pa = 0 ∨ st % 1073741824 < fpa st pa; simp only [fpa]; split <;> omega
  · show fpa st pa < _; simp only [fpa]; split <;> omega
  · cases kn <;> simp

theorem CS.Of.good {c0 c : CS} {T : Int} (h : c0.Of c T) (hb : c0.Bd) (hT : T ≤ 4611686018427387904) : c.good := by
  obtain ⟨a1, a2, a3, a4, a5, a6, a7⟩ := h
  obtain ⟨b1, b2, b3, b4, b5, b6, b7, b8⟩ := hb
  constructor <;> omega
theorem CS.Of.mono {c0 c : CS} {T T' : Int} (h : c0.Of c T) (hT : T ≤ T') : c0.Of c T' := ⟨h.st, h.pa, h.so, h.s0, h.s4, h.si0, by have := h.si1; omega⟩
theorem CS.Bd.of {c0 : CS} (h : c0.Bd) : c0.Of c0 0 := by
  obtain ⟨b1, b2, b3, b4, b5, b6, b7, b8⟩ := h
  constructor <;> first | rfl | omega
theorem CS.Of.comes {c0 c : CS} {T now s : Int} (h : c0.Of c T) (hn : T ≤ now) (h0 : 0 ≤ T) (hs0 : 0 ≤ s) (hs4 : s ≤ 4) : c0.Of (c.comes s now) now := by
  unfold CS.comes
  split
  · exact h.mono hn
  · exact ⟨h.st, h.pa, h.so, hs0, hs4, by show 0 ≤ now; omega, Int.le_refl _⟩

theorem upd_of {c0 c : CS} {T off now : Int} (h : c0.Of c T) (hn : T ≤ now) (h0 : 0 ≤ T) : c0.Of (c.upd off now).2.2 now := by
  unfold CS.upd
  simp only
  split
  · exact h.mono hn
  · split
    · exact h.mono hn
    · split
      · exact h.comes hn h0 (by decide) (by decide)
      · split
        · exact h.comes hn h0 (by decide) (by decide)
        · split
          · exact h.comes hn h0 (by decide) (by decide)
          · split
            · exact h.comes hn h0 (by decide) (by decide)
            · split
              · exact h.mono hn
              · split
                · exact h.mono hn
                · exact h.comes hn h0 (by decide) (by decide)

/-- Offsets at instants that rise. -/
structure Rise (L : List (Int × Int)) : Prop where
  up : ∀ i j (hj : j < L.length) (hi : i ≤ j), (L[i]'(by omega)).2 ≤ (L[j]'hj).2
  lo : ∀ i (hi : i < L.length), 0 ≤ (L[i]'hi).2
  hi : ∀ i (hi : i < L.length), (L[i]'hi).2 ≤ 87960930222080
  off : ∀ i (hi : i < L.length), -9223372036854775808 ≤ (L[i]'hi).1 ∧ (L[i]'hi).1 ≤ 9223372036854775807

theorem acc_get (s : Int) (l : List (Int × Int)) : ∀ i (h : i < (acc s l).length), ((acc s l)[i]'h).1 = (l[i]'(by rw [acc_length] at h; exact h)).1 ∧ ((acc s l)[i]'h).2 = accEnd s (l.take (i + 1)) := by
  induction l generalizing s with
  | nil => intro i h; simp [acc] at h
  | cons x l ih =>
    intro i h
    cases i with
    | zero => simp [acc, accEnd]
    | succ i =>
      have := ih (s + x.2 % 1099511627776) i (by simpa [acc] using h)
      simp only [acc, List.getElem_cons_succ, List.take_succ_cons, accEnd]
      exact this
theorem accEnd_take (s : Int) (l : List (Int × Int)) : ∀ i j, i ≤ j → accEnd s (l.take i) ≤ accEnd s (l.take j) := by
  induction l generalizing s with
  | nil => intro i j h; simp [accEnd]
  | cons x l ih =>
    intro i j h
    cases i with
    | zero => simp only [List.take_zero, accEnd]; exact (accEnd_bd s _).1
    | succ i =>
      cases j with
      | zero => omega
      | succ j =>
        simp only [List.take_succ_cons, accEnd]
        exact ih _ i j (by omega)
theorem rise_acc (l : List (Int × Int)) (hw : ∀ t ∈ l, -9223372036854775808 ≤ t.1 ∧ t.1 ≤ 9223372036854775807) : Rise (acc 0 (l.take 80)) := by
  have hlen : ∀ i, (l.take 80 |>.take i).length ≤ 80 := by intro i; simp only [List.length_take]; omega
  refine ⟨fun i j hj hi => ?_, fun i hi => ?_, fun i hi => ?_, fun i hi => ?_⟩
  · rw [(acc_get 0 _ i _).2, (acc_get 0 _ j _).2]
    exact accEnd_take _ _ _ _ (by omega)
  · rw [(acc_get 0 _ i _).2]
    exact (accEnd_bd 0 _).1
  · rw [(acc_get 0 _ i _).2]
    have := (accEnd_bd 0 ((l.take 80).take (i + 1))).2
    have := hlen (i + 1)
    omega
  · rw [(acc_get 0 _ i _).1]
    exact hw _ (List.mem_of_mem_take (List.getElem_mem _))

/-- The instant of the last offset ahead of number j. -/
def lastT (L : List (Int × Int)) : Nat → Int
  | 0 => 0
  | j + 1 => (L.getD j (0, 0)).2
theorem lastT_succ (L : List (Int × Int)) (j : Nat) (h : j < L.length) : lastT L (j + 1) = (L[j]'h).2 := by simp [lastT, h]
theorem Rise.last {L : List (Int × Int)} (h : Rise L) (j : Nat) (hj : j < L.length) : 0 ≤ lastT L j ∧ lastT L j ≤ (L[j]'hj).2 := by
  cases j with
  | zero => exact ⟨Int.le_refl _, h.lo 0 hj⟩
  | succ j =>
    rw [lastT_succ L j (by omega)]
    exact ⟨h.lo j (by omega), h.up j (j + 1) hj (by omega)⟩

theorem tmod_small (x s : Int) (h0 : 0 ≤ s) (h1 : s < 1073741824) : absS (x.tmod (s + 1)) ≤ s ∧ -9223372036854775808 ≤ x.tmod (s + 1) ∧ x.tmod (s + 1) ≤ 9223372036854775807 := by
  have h : -s ≤ x.tmod (s + 1) ∧ x.tmod (s + 1) ≤ s := by
    have := Int.tmod_lt_of_pos x (show 0 < s + 1 by omega)
    have h2 := Int.lt_tmod_of_pos x (show 0 < s + 1 by omega)
    omega
  refine ⟨?_, by omega, by omega⟩
  unfold absS
  split
  · omega
  · split <;> omega

/-- An offset that is not too great is slewed. -/
theorem upd_small {c0 c : CS} {T off now : Int} (h : c0.Of c T) (hb : c0.Bd) (hn : T ≤ now) (h1 : now ≤ 4611686018427387904) (h0 : 0 ≤ T) (hs : absS off ≤ c0.st) :
    (c.upd off now).1 = 1 ∧ (c.upd off now).2.1 = 0 ∧ ((c.upd off now).2.2.s = 3 ∨ (c.upd off now).2.2.s = 4) ∧
    (c.s = 4 → (c.upd off now).2.2.s = 4) ∧ (c.s = 3 → c0.so ≤ now - c.si → (c.upd off now).2.2.s = 4) ∧ (c.s = 3 → (c.upd off now).2.2.s = 3 → (c.upd off now).2.2.si = c.si) := by
  have ht : isTime now = true := isTime_mk (by omega) h1
  obtain ⟨a1, a2, a3, a4, a5, a6, a7⟩ := h
  obtain ⟨b1, b2, b3, b4, b5, b6, b7, b8⟩ := hb
  have e1 : ¬ (isTime now = false ∨ now < c.si) := by simp [ht]; omega
  have e2 : ¬ (c.pa > 0 ∧ absS off > c.pa) := by omega
  have e3 : ¬ (absS off > c.st) := by omega
  unfold CS.upd
  rw [if_neg e1, if_neg e2]
  simp only [e3, if_false, if_neg, not_false_eq_true, and_true, and_false, false_and, true_and]
  unfold CS.comes
  by_cases h0 : c.s = 0
  · simp [h0]
  · by_cases h1' : c.s = 1
    · simp [h1']
    · by_cases h3 : c.s = 3
      · by_cases hl : now - c.si ≥ c.so
        · simp [h3, hl]
        · simp [h3, hl]
          omega
      · by_cases h4 : c.s = 4
        · simp [h4]
        · simp [h0, h1', h3, h4]
end Go.Proofs.Yteoglmbmbejlaaa
