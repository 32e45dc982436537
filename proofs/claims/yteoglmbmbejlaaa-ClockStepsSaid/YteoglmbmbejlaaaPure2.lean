/- More plain facts on Update: signs, a later begin, doubled bounds; fair's result as the laws use it. -/
import Derived.Test.YteoglmbmbejlaaaPure
namespace Go.Proofs.Yteoglmbmbejlaaa
open Go.RowKit
set_option linter.unusedVariables false
set_option linter.unusedSimpArgs false

theorem upd_abs {c : CS} {off off' now : Int} (h : absS off = absS off') : c.upd off now = c.upd off' now := by
  unfold CS.upd
  rw [h]
theorem absS_neg (x : Int) (h0 : -9223372036854775808 < x) (h1 : x ≤ 9223372036854775807) : absS (-x) = absS x := by
  simp only [absS]
  repeat' split
  all_goals omega
theorem absS_two (x : Int) (h0 : -1152921504606846976 < x) (h1 : x < 1152921504606846976) : absS (2 * x) = 2 * absS x := by
  simp only [absS]
  repeat' split
  all_goals omega

theorem tmod60 (x : Int) : -1152921504606846976 < x.tmod 1152921504606846976 ∧ x.tmod 1152921504606846976 < 1152921504606846976 := by
  have := Int.tmod_lt_of_pos x (show 0 < 1152921504606846976 by omega)
  have h2 := Int.lt_tmod_of_pos x (show 0 < 1152921504606846976 by omega)
  omega
/-- The same clock with doubled bounds. -/
def CS.dbl (c : CS) : CS := ⟨2 * c.st, 2 * c.pa, c.so, c.s, c.si⟩
theorem dbl_comes (c : CS) (s now : Int) : (c.dbl).comes s now = (c.comes s now).dbl := by
  unfold CS.comes CS.dbl
  simp only
  split <;> rfl
theorem upd_dbl {c : CS} {off off' now : Int} (h : absS off' = 2 * absS off) : c.dbl.upd off' now = ((c.upd off now).1, (c.upd off now).2.1, (c.upd off now).2.2.dbl) := by
  have e1 : (c.dbl.pa > 0 ∧ absS off' > c.dbl.pa) = (c.pa > 0 ∧ absS off > c.pa) := by
    rw [h]; simp only [CS.dbl]; apply propext; omega
  have e2 : (absS off' > c.dbl.st) = (absS off > c.st) := by
    rw [h]; simp only [CS.dbl]; apply propext; omega
  unfold CS.upd
  simp only [e1, e2, dbl_comes]
  have e3 : c.dbl.si = c.si := rfl
  have e4 : c.dbl.s = c.s := rfl
  have e5 : c.dbl.so = c.so := rfl
  simp only [e3, e4, e5]
  repeat' split
  all_goals rfl

/-- The same clock, begun later. -/
structure Lat (b : Int) (c l : CS) : Prop where
  st : l.st = c.st
  pa : l.pa = c.pa
  so : l.so = c.so
  s : l.s = c.s
  si : l.si = c.si + b ∨ (c.s = 0 ∨ c.s = 1) ∧ c.si = 0 ∧ l.si = 0
theorem Lat.comes {b : Int} {c l : CS} (h : Lat b c l) (s now : Int) (hs : s ≠ 0) (hs1 : s ≠ 1) : Lat b (c.comes s now) (l.comes s (now + b)) := by
  obtain ⟨h1, h2, h3, h4, h5⟩ := h
  unfold CS.comes
  rw [h4]
  split
  · rename_i e
    exact ⟨h1, h2, h3, h4, by rcases h5 with h5 | ⟨h5, _⟩; exact .inl h5; omega⟩
  · exact ⟨h1, h2, h3, rfl, .inl rfl⟩
theorem upd_lat {b : Int} {c l : CS} {off now : Int} (h : Lat b c l) (ht : isTime now = true) (ht' : isTime (now + b) = true) (hb : 0 ≤ b) (hs : c.si ≤ now) :
    (l.upd off (now + b)).1 = (c.upd off now).1 ∧ (l.upd off (now + b)).2.1 = (c.upd off now).2.1 ∧ Lat b (c.upd off now).2.2 (l.upd off (now + b)).2.2 := by
  have h' := h
  obtain ⟨h1, h2, h3, h4, h5⟩ := h
  obtain ⟨t0, t1⟩ := isTime_true ht
  have n1 : ¬ (isTime now = false ∨ now < c.si) := by simp [ht]; omega
  have n2 : ¬ (isTime (now + b) = false ∨ now + b < l.si) := by simp [ht']; omega
  unfold CS.upd
  rw [if_neg n1, if_neg n2, h1, h2, h3, h4]
  by_cases hp : c.pa > 0 ∧ absS off > c.pa
  · rw [if_pos hp, if_pos hp]; exact ⟨rfl, rfl, h'⟩
  · rw [if_neg hp, if_neg hp]
    simp only
    by_cases h0 : c.s = 0
    · rw [if_pos h0, if_pos h0]; exact ⟨rfl, rfl, h'.comes 3 now (by decide) (by decide)⟩
    · rw [if_neg h0, if_neg h0]
      by_cases h1' : c.s = 1
      · rw [if_pos h1', if_pos h1']; exact ⟨rfl, rfl, h'.comes 4 now (by decide) (by decide)⟩
      · rw [if_neg h1', if_neg h1']
        have hl : (now + b - l.si ≥ c.so) = (now - c.si ≥ c.so) := by apply propext; omega
        simp only [hl]
        by_cases a1 : c.s ≠ 3 ∧ absS off > c.st ∧ c.s = 4
        · rw [if_pos a1, if_pos a1]; exact ⟨rfl, rfl, h'.comes 2 now (by decide) (by decide)⟩
        · rw [if_neg a1, if_neg a1]
          by_cases a2 : c.s ≠ 3 ∧ ¬absS off > c.st
          · rw [if_pos a2, if_pos a2]; exact ⟨rfl, rfl, h'.comes 4 now (by decide) (by decide)⟩
          · rw [if_neg a2, if_neg a2]
            by_cases a3 : absS off > c.st ∧ ¬now - c.si ≥ c.so
            · rw [if_pos a3, if_pos a3]; exact ⟨rfl, rfl, h'⟩
            · rw [if_neg a3, if_neg a3]
              by_cases a4 : ¬absS off > c.st ∧ ¬now - c.si ≥ c.so
              · rw [if_pos a4, if_pos a4]; exact ⟨rfl, rfl, h'⟩
              · rw [if_neg a4, if_neg a4]; exact ⟨rfl, rfl, h'.comes 4 now (by decide) (by decide)⟩

/-- What fair hands out, as the laws use it. -/
def FairPost2 (st pa so : Int) (kn : Bool) (L : List (Int × Int)) (w : World) (e : Ending) (w' : World) : Prop :=
  ∃ g A c, e = .returned (.tuple #[.pointer (some ⟨g, 0, none⟩), .agg #[.int .i64 (st % 1073741824), .int .i64 (fpa st pa), .int .i64 (so % 1099511627776), .bool kn], .slice A L.length c]) ∧
    (CS.mk (st % 1073741824) (fpa st pa) (so % 1099511627776) (if kn then 1 else 0) 0).at w' g ∧ w.heap.size ≤ g ∧ L.length ≤ c ∧ c ≤ maxLen ∧
    (∀ G : List Nat, (∀ k, k ∈ G → k = g ∨ k < w.heap.size) → RowIn w' A L.length 2 (pcells L) G) ∧ Stp [] w w'
theorem fair_row (st pa so : Int) (kn : Bool) (A : Option Addr) (n c : Nat) (l : List (Int × Int)) (w : World)
    (hr : Reads w w.heap.size 2 A n (pcells l)) (hl : l.length = n) (hn : n * 16 ≤ 140737488351232) :
    Calls Try.prog 8 #[.agg #[.int .i64 st, .int .i64 pa, .int .i64 so, .bool kn], .slice A n c] w (FairPost2 st pa so kn (acc 0 (l.take 80)) w) := by
  refine (fair_any st pa so kn A n c l w hr hl hn).mono ?_
  rintro e w1 ⟨g, v, rfl, hat, hg, hown, hst⟩
  have ng : v.ownBlock ≠ some g := own_blk_ne (t := 46) hown (show Blk w1 g 46 _ from hat) (by decide)
  have hf : ∀ G : List Nat, (∀ k, k ∈ G → k = g ∨ k < w.heap.size) → ∃ A c, v = .slice A (acc 0 (l.take 80)).length c ∧ (acc 0 (l.take 80)).length ≤ c ∧ c ≤ maxLen ∧ RowIn w1 A (acc 0 (l.take 80)).length 2 (pcells (acc 0 (l.take 80))) G := fun G hG =>
    own_form (G := G) hown (fun k hk e => by
      rcases hG k hk with rfl | h
      · exact ng e
      · have := (hown.lt _ e).1; omega)
  obtain ⟨A2, c2, rfl, hc1, hc2, _⟩ := hf [] (by simp)
  refine ⟨g, A2, c2, rfl, hat, hg, hc1, hc2, fun G hG => ?_, hst⟩
  obtain ⟨A3, c3, e, _, _, hrow⟩ := hf G hG
  injection e with e1 e2 e3
  rw [e1]
  exact hrow
theorem RowIn.add {w : World} {A : Option Addr} {n size : Nat} {xs : List Value} {G : List Nat} (h : RowIn w A n size xs G) {g : Nat} (hg : w.heap.size ≤ g) : RowIn w A n size xs (g :: G) :=
  ⟨h.1, fun hn => by
    obtain ⟨b, off, e, hb, hbg, hc⟩ := h.2 hn
    exact ⟨b, off, e, hb, by simp; exact ⟨by omega, hbg⟩, hc⟩⟩
/-- Blocks of G are new since a: what has changed is new. -/
theorem Stp.new {G : List Nat} {a b c : World} (h : Stp [] a b) (k : Stp G b c) (hG : ∀ g, g ∈ G → a.heap.size ≤ g) : Stp [] a c :=
  ⟨k.os.trans h.os, k.tape.trans h.tape, k.output.trans h.output, Nat.le_trans h.size k.size, fun i hi hn =>
    (k.block i (Nat.lt_of_lt_of_le hi h.size) (fun hm => by have := hG i hm; omega)).trans (h.block i hi hn)⟩
end Go.Proofs.Yteoglmbmbejlaaa
