/- Plain facts on Update for ClockSteps: what becomes of an offset, case by case; the law's own size. -/
import Derived.Test.YteoglmbmbejlaaaPure2
namespace Go.Proofs.Yteoglmbmbejlaaa
open Go.RowKit
set_option linter.unusedVariables false
set_option linter.unusedSimpArgs false

theorem size_any (a : Int) (w : World) (h0 : -9223372036854775808 ≤ a) (h1 : a ≤ 9223372036854775807) :
    Calls Try.prog 13 #[.int .i64 a] w fun e w' => e = .returned (.int .i64 (absS a)) ∧ w' = w := by
  by_cases h : a = -9223372036854775808
  · subst h
    go_enter Try.func13, Try.ntmps13
    go_wp2
    go_ret
    exact ⟨rfl, rfl⟩
  · have hb : (a == -9223372036854775808) = false := by simp [h]
    have e1 : -9223372036854775807 ≤ a := by omega
    by_cases hn : a < 0
    · have e2 : absS a = -a := by rw [absS, if_neg h, if_pos hn]
      have E := Lib.hid e2
      clear h e2
      go_enter Try.func13, Try.ntmps13
      go_wp2
      go_ret
      exact ⟨ret_int (by first | exact E.out.symm | (rw [E.out]; simp; omega) | (rw [E.out]; split <;> omega)), rfl⟩
    · have e2 : absS a = a := by rw [absS, if_neg h, if_neg hn]
      have E := Lib.hid e2
      clear h e2
      go_enter Try.func13, Try.ntmps13
      go_wp2
      go_ret
      exact ⟨ret_int (by first | exact E.out.symm | (rw [E.out]; simp; omega) | (rw [E.out]; split <;> omega)), rfl⟩

/-- What the law carries from offset to offset: is it the first one; since when all were too great; when it stepped last. -/
structure StepInv (c0 c : CS) (T : Int) (first : Bool) (great last : Int) : Prop where
  of : c0.Of c T
  f1 : first = true → (c.s = 0 ∨ c.s = 1) ∧ last = -1 ∧ c.s = c0.s
  f2 : first = false → 2 ≤ c.s
  g0 : -1 ≤ great
  g1 : great ≤ T
  g2 : c.s = 2 → 0 ≤ great ∧ great ≤ c.si
  l0 : -1 ≤ last
  l1 : last ≤ c.si

theorem upd_beyond {c0 c : CS} {T off now : Int} (h : c0.Of c T) (hn : T ≤ now) (h1 : now ≤ 4611686018427387904) (h0 : 0 ≤ T) (hb : 0 < c0.pa ∧ c0.pa < absS off) : c.upd off now = (0, 34, c) := by
  have ht : isTime now = true := isTime_mk (by omega) h1
  have a7 := h.si1
  unfold CS.upd
  rw [if_neg (by simp [ht]; omega), if_pos (by rw [h.pa]; exact hb)]
theorem upd_in {c0 c : CS} {T off now : Int} (h : c0.Of c T) (hn : T ≤ now) (h1 : now ≤ 4611686018427387904) (h0 : 0 ≤ T) (hb : ¬ (0 < c0.pa ∧ c0.pa < absS off)) :
    c.upd off now = (let d := if absS off > c0.st then 2 else 1
    if c.s = 0 then (d, 0, c.comes 3 now)
    else if c.s = 1 then (d, 0, c.comes 4 now)
    else if c.s ≠ 3 ∧ absS off > c0.st ∧ c.s = 4 then (0, 0, c.comes 2 now)
    else if c.s ≠ 3 ∧ ¬ absS off > c0.st then (1, 0, c.comes 4 now)
    else if absS off > c0.st ∧ ¬ now - c.si ≥ c0.so then (0, 0, c)
    else if ¬ absS off > c0.st ∧ ¬ now - c.si ≥ c0.so then (1, 0, c)
    else (d, 0, c.comes 4 now)) := by
  have ht : isTime now = true := isTime_mk (by omega) h1
  have a7 := h.si1
  unfold CS.upd
  rw [if_neg (by simp [ht]; omega), if_neg (by rw [h.pa]; exact hb), h.st, h.so]

/-- An offset that is small: slewed. -/
theorem step_small {c0 c : CS} {T off now : Int} {first : Bool} {great last : Int} (h : StepInv c0 c T first great last) (hb : c0.Bd) (hn : T ≤ now) (h1 : now ≤ 4611686018427387904) (h0 : 0 ≤ T) (hs : ¬ c0.st < absS off) :
    ∃ c', c.upd off now = (1, 0, c') ∧ StepInv c0 c' now false (-1) last ∧ (c'.s = 3 ∨ c'.s = 4) ∧ c'.si ≤ now := by
  have hu := upd_small (off := off) h.of hb hn h1 h0 (by omega)
  have hof := upd_of (off := off) h.of hn h0
  refine ⟨(c.upd off now).2.2, Prod.ext hu.1 (Prod.ext hu.2.1 rfl), ?_, hu.2.2.1, hof.si1⟩
  have h34 := hu.2.2.1
  have hsi : last ≤ (c.upd off now).2.2.si := by
    have hl := h.l1
    have h7 := h.of.si1
    unfold CS.upd
    simp only
    unfold CS.comes
    repeat' split
    all_goals simp only
    all_goals omega
  exact ⟨hof, by simp, fun _ => by omega, by omega, by omega, fun h2 => by omega, h.l0, hsi⟩
/-- An offset that is too great, but not beyond all. -/
theorem step_great {c0 c : CS} {T off now : Int} {first : Bool} {great last g' : Int} (h : StepInv c0 c T first great last) (hb : c0.Bd) (hn : T ≤ now) (h1 : now ≤ 4611686018427387904) (h0 : 0 ≤ T) (hs : c0.st < absS off)
    (hp : ¬ (0 < c0.pa ∧ c0.pa < absS off)) (hg : great < 0 ∧ g' = now ∨ 0 ≤ great ∧ g' = great) :
    ∃ d c', c.upd off now = (d, 0, c') ∧ (d = 2 ∧ StepInv c0 c' now false g' now ∧ (first = true ∨ first = false ∧ c.s = 2 ∧ c0.so ≤ now - g' ∨ first = false ∧ c.s = 3 ∧ c0.so ≤ now - c.si) ∧ (last = -1 ∨ c0.so ≤ now - last) ∨
      d = 0 ∧ first = false ∧ StepInv c0 c' now false g' last) ∧ (c'.s = 2 ∨ c'.s = 3 ∨ c'.s = 4) ∧ c'.si ≤ now := by
  have hu := upd_in h.of hn h1 h0 hp
  obtain ⟨hof, f1, f2, g0, g1, g2, l0, l1⟩ := h
  have si1 := hof.si1
  have si0 := hof.si0
  have s0 := hof.s0
  have s4 := hof.s4
  have so0 := hb.so0
  have hs' : absS off > c0.st := hs
  have gb : 0 ≤ g' ∧ g' ≤ now := by omega
  simp only [hs', if_true, not_true_eq_false, and_false, true_and, false_and, if_false] at hu
  have nf : first = true ∨ first = false := by cases first <;> simp
  by_cases h0' : c.s = 0
  · have hf : first = true := by rcases nf with h | h; exact h; have := f2 h; omega
    obtain ⟨_, hl, _⟩ := f1 hf
    rw [if_pos h0'] at hu
    have e : c.comes 3 now = { c with s := 3, si := now } := by unfold CS.comes; rw [if_neg (by omega)]
    rw [e] at hu
    exact ⟨_, _, hu, .inl ⟨rfl, ⟨by have := hof.comes (s := 3) hn h0 (by decide) (by decide); rw [e] at this; exact this, by simp, fun _ => by show (2 : Int) ≤ 3; omega, by omega, gb.2, fun h => by have : (3 : Int) = 2 := h; omega, by omega, Int.le_refl _⟩, .inl hf, .inl hl⟩, .inr (.inl rfl), Int.le_refl _⟩
  · rw [if_neg h0'] at hu
    by_cases h1' : c.s = 1
    · have hf : first = true := by rcases nf with h | h; exact h; have := f2 h; omega
      obtain ⟨_, hl, _⟩ := f1 hf
      rw [if_pos h1'] at hu
      have e : c.comes 4 now = { c with s := 4, si := now } := by unfold CS.comes; rw [if_neg (by omega)]
      rw [e] at hu
      exact ⟨_, _, hu, .inl ⟨rfl, ⟨by have := hof.comes (s := 4) hn h0 (by decide) (by decide); rw [e] at this; exact this, by simp, fun _ => by show (2 : Int) ≤ 4; omega, by omega, gb.2, fun h => by have : (4 : Int) = 2 := h; omega, by omega, Int.le_refl _⟩, .inl hf, .inl hl⟩, .inr (.inr rfl), Int.le_refl _⟩
    · rw [if_neg h1'] at hu
      have hf : first = false := by rcases nf with h | h; have := (f1 h).1; omega; exact h
      by_cases h4 : c.s = 4
      · rw [if_pos ⟨by omega, h4⟩] at hu
        have e : c.comes 2 now = { c with s := 2, si := now } := by unfold CS.comes; rw [if_neg (by omega)]
        rw [e] at hu
        exact ⟨_, _, hu, .inr ⟨rfl, hf, ⟨by have := hof.comes (s := 2) hn h0 (by decide) (by decide); rw [e] at this; exact this, by simp, fun _ => by show (2 : Int) ≤ 2; omega, by omega, gb.2, fun _ => gb, l0, by show last ≤ now; omega⟩⟩, .inl rfl, Int.le_refl _⟩
      · rw [if_neg (by omega)] at hu
        by_cases hl : now - c.si ≥ c0.so
        · rw [if_neg (by omega)] at hu
          have e : c.comes 4 now = { c with s := 4, si := now } := by unfold CS.comes; rw [if_neg (by omega)]
          rw [e] at hu
          have hst : StepInv c0 { c with s := 4, si := now } now false g' now := ⟨by have := hof.comes (s := 4) hn h0 (by decide) (by decide); rw [e] at this; exact this, by simp, fun _ => by show (2 : Int) ≤ 4; omega, by omega, gb.2, fun h => by have : (4 : Int) = 2 := h; omega, by omega, Int.le_refl _⟩
          refine ⟨_, _, hu, .inl ⟨rfl, hst, ?_, .inr (by omega)⟩, .inr (.inr rfl), Int.le_refl _⟩
          by_cases h2 : c.s = 2
          · have := g2 h2
            exact .inr (.inl ⟨hf, h2, by omega⟩)
          · exact .inr (.inr ⟨hf, by omega, by omega⟩)
        · rw [if_pos (by omega)] at hu
          refine ⟨_, _, hu, .inr ⟨rfl, hf, ⟨hof.mono hn, by simp, fun _ => f2 hf, by omega, gb.2, fun h2 => by have := g2 h2; omega, l0, l1⟩⟩, by have := f2 hf; omega, by omega⟩
end Go.Proofs.Yteoglmbmbejlaaa
