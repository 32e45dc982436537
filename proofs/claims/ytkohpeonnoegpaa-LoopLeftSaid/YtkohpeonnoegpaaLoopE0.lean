/- LoopComes' plain law: it comes. -/
import Derived.Test.YtkohpeonnoegpaaLoopC
namespace Go.Proofs.Ytkohpeonnoegpaa
open Go.RowKit
set_option linter.unusedVariables false
set_option linter.unusedSimpArgs false

/-- How far the frequency is off, at most, ahead of so many updates. -/
def seqH : Nat → Nat
  | 0 => 200000
  | 1 => 200000
  | n + 2 => (seqH (n + 1) + 1) / 2
/-- How great the offset is, at most. -/
def seqB : Nat → Nat
  | 0 => 128000000
  | n + 1 => max (seqB n - 4800000) (16 * seqH (n + 1) + 16)
theorem seqH_le : ∀ n, seqH n ≤ 200000 ∧ seqH (n + 1) ≤ 200000
  | 0 => ⟨by decide, by decide⟩
  | n + 1 => by
    have h := seqH_le n
    refine ⟨h.2, ?_⟩
    show (seqH (n + 1) + 1) / 2 ≤ 200000
    omega
theorem max_bd (B B1 H : Nat) (h : B1 = max (B - 4800000) (16 * H + 16)) : (B : Int) - 4800000 ≤ B1 ∧ 16 * (H : Int) + 16 ≤ B1 := by omega
theorem seqB_le : ∀ n, seqB n ≤ 128000000
  | 0 => by decide
  | n + 1 => by
    have h := seqB_le n
    have h2 := seqH_le (n + 1)
    show max (seqB n - 4800000) (16 * seqH (n + 1) + 16) ≤ 128000000
    omega
theorem seq_end : (List.range 120).all (fun i => decide (i < 64) || (decide (seqB (i + 1) ≤ 1000) && decide (seqH (i + 1) ≤ 20))) = true := by kernel_rfl
theorem seq_late {i : Nat} (h0 : 64 ≤ i) (h1 : i < 120) : seqB (i + 1) ≤ 1000 ∧ seqH (i + 1) ≤ 20 := by
  have h := List.all_eq_true.1 seq_end i (List.mem_range.2 h1)
  simp at h
  omega

theorem rate16 (o : Int) : rateS o 16000000000 = if o < 0 then max (o / 16) (-500000) else min (-((-o) / 16)) 500000 := by
  have ht : timeS 16000000000 = 16000000000 := by decide
  unfold rateS
  rw [ht, if_neg (by decide)]
  by_cases h : o < 0
  · rw [if_pos h, if_pos h]
    unfold mulDivS
    rw [if_neg (show ¬ (16000000000 : Int) ≤ 0 by decide)]
    simp only [Bool.false_eq_true, if_false]
    rw [ableS_mm]
    have e : o * 1000000000 / 16000000000 = o / 16 := by omega
    rw [e]
    split
    · simp only [if_true]; omega
    · simp only [Int.reduceEq, if_false]; omega
  · rw [if_neg h, if_neg h]
    unfold mulDivS
    rw [if_neg (show ¬ (16000000000 : Int) ≤ 0 by decide)]
    simp only [if_true]
    rw [ableS_mm]
    have e : (-(o * 1000000000)) / 16000000000 = (-o) / 16 := by omega
    rw [e]
    split
    · simp only [if_true]; omega
    · simp only [Int.reduceEq, if_false]; omega
theorem slewed16 (x : Int) (h : -500000 ≤ x ∧ x ≤ 500000) : slewedS x 16000000000 = 16 * x := by
  have ht : timeS 16000000000 = 16000000000 := by decide
  unfold slewedS
  rw [ht, ableS_mm]
  omega

/-- What an update makes of the offset, the frequency being off by d - f. -/
theorem offset_step (o d f : Int) (hd : -200000 ≤ d ∧ d ≤ 200000) (hf : -200000 ≤ f ∧ f ≤ 200000) : ∃ r, clampS (f + rateS o 16000000000) (-500000) 500000 = r ∧ -500000 ≤ r ∧ r ≤ 500000 ∧ -500000 ≤ r - f ∧ r - f ≤ 500000 ∧
    (0 ≤ o → 16 * (d - f) - 15 ≤ o + 16 * d - 16 * r ∧ o + 16 * d - 16 * r ≤ max (o - 4800000 + 16 * max 0 (d - f - 200000)) (16 * (d - f))) ∧
    (o ≤ 0 → o + 16 * d - 16 * r ≤ 16 * (d - f) + 15 ∧ min (o + 4800000 - 16 * max 0 (f - d - 200000)) (16 * (d - f)) ≤ o + 16 * d - 16 * r) := by
  refine ⟨_, rfl, ?_⟩
  rw [clampS_mm _ 500000 (by decide), rate16]
  split
  · refine ⟨by omega, by omega, by omega, by omega, fun h => by omega, fun _ => ?_⟩
    constructor <;> omega
  · refine ⟨by omega, by omega, by omega, by omega, fun _ => ?_, fun h => ?_⟩
    · constructor <;> omega
    · constructor <;> omega

structure CInv (d : Int) (i : Nat) (c : LS) (o : Int) : Prop where
  ups : c.ups = i
  e0 : -(seqH i : Int) ≤ d - c.freq
  e1 : d - c.freq ≤ seqH i
  p0 : 0 ≤ d → 0 ≤ d - c.freq ∧ d - c.freq ≤ d
  p1 : d ≤ 0 → d ≤ d - c.freq ∧ d - c.freq ≤ 0
  rf0 : -500000 ≤ c.rate - c.freq
  rf1 : c.rate - c.freq ≤ 500000
  r0 : -500000 ≤ c.rate
  r1 : c.rate ≤ 500000
  o0 : -(seqB i : Int) ≤ o
  o1 : o ≤ seqB i
  l0 : -128000000 ≤ c.left
  l1 : c.left ≤ 128000000
  z : i = 0 → c = ⟨0, 0, 0, 0⟩
  link : 0 < i → o = c.left + 16 * d - 16 * c.rate
def elOf (i : Nat) : Int := if i = 0 then 0 else 16000000000
theorem CInv.ok {d : Int} {i : Nat} {c : LS} {o : Int} (h : CInv d i c o) (hd : -200000 ≤ d ∧ d ≤ 200000) (hi : i ≤ 1000) : c.ok := by
  obtain ⟨u, e0, e1, p0, p1, rf0, rf1, r0, r1, o0, o1, l0, l1, z, lk⟩ := h
  constructor <;> omega
theorem CInv.step {d : Int} {i : Nat} {c : LS} {o : Int} (h : CInv d i c o) (hd : -200000 ≤ d ∧ d ≤ 200000) : CInv d (i + 1) (c.next o (elOf i) 16000000000) (o + 16 * d - 16 * (c.next o (elOf i) 16000000000).rate) := by
  obtain ⟨u, e0, e1, p0, p1, rf0, rf1, r0, r1, o0, o1, l0, l1, z, lk⟩ := h
  have hB := seqB_le i
  have hH := seqH_le i
  have hm : max (16000000000 : Int) 16000000000 = 16000000000 := by decide
  have hf : ∃ f, c.learn o (elOf i) = f ∧ -(seqH (i + 1) : Int) ≤ d - f ∧ d - f ≤ seqH (i + 1) ∧ (0 ≤ d → 0 ≤ d - f ∧ d - f ≤ d) ∧ (d ≤ 0 → d ≤ d - f ∧ d - f ≤ 0) := by
    cases i with
    | zero =>
      have hc := z rfl
      refine ⟨0, by rw [hc]; rfl, ?_⟩
      have : seqH (0 + 1) = 200000 := rfl
      rw [this]
      omega
    | succ j =>
      have hel : elOf (j + 1) = 16000000000 := rfl
      have hl := lk (by omega)
      refine ⟨c.freq + (d - c.freq) / 2, ?_, ?_⟩
      · unfold LS.learn LS.rest
        rw [hel, slewed16 _ ⟨rf0, rf1⟩, if_pos (by omega), clampS_mm _ 250000 (by decide)]
        have e : o - (c.left - 16 * (c.rate - c.freq)) = 16 * (d - c.freq) := by omega
        rw [e]
        omega
      · have : seqH (j + 1 + 1) = (seqH (j + 1) + 1) / 2 := rfl
        rw [this]
        omega
  obtain ⟨f, hf0, hf1, hf2, hf3, hf4⟩ := hf
  have hfb : -200000 ≤ f ∧ f ≤ 200000 := by omega
  obtain ⟨r, hr, q0, q1, q2, q3, q4, q5⟩ := offset_step o d f hd hfb
  have hn : c.next o (elOf i) 16000000000 = ⟨f, r, o, c.ups + 1⟩ := by
    unfold LS.next
    rw [hf0, hm, hr]
  rw [hn]
  have hB1 := max_bd (seqB i) (seqB (i + 1)) (seqH (i + 1)) rfl
  have hHH := seqH_le (i + 1)
  have hfin : -(seqB (i + 1) : Int) ≤ o + 16 * d - 16 * r ∧ o + 16 * d - 16 * r ≤ seqB (i + 1) := by
    clear q0 q1 q2 q3 p0 p1 z lk hf3 hf4 hn hr hf0 hB hH
    generalize seqB (i + 1) = B1 at *
    generalize seqB i = B at *
    generalize seqH (i + 1) = H1 at *
    rcases Int.le_total 0 o with h | h
    · have h1 := q4 h
      clear q4 q5
      omega
    · have h1 := q5 h
      clear q4 q5
      omega
  have hl0 : -128000000 ≤ o := by omega
  have hl1 : o ≤ 128000000 := by omega
  exact ⟨by simp only; omega, hf1, hf2, hf3, hf4, q2, q3, q0, q1, hfin.1, hfin.2, hl0, hl1, fun h => by omega, fun _ => rfl⟩
theorem CInv.start (d o : Int) (hd : -200000 ≤ d ∧ d ≤ 200000) (ho : -128000000 ≤ o ∧ o ≤ 128000000) : CInv d 0 ⟨0, 0, 0, 0⟩ o := by
  have hB : seqB 0 = 128000000 := rfl
  have hH : seqH 0 = 200000 := rfl
  constructor <;> (try simp only [hB, hH]) <;> first | rfl | (intro h; omega) | omega
end Go.Proofs.Ytkohpeonnoegpaa
