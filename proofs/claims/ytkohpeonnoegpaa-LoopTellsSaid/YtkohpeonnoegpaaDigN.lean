/- The document's numbers: numbers with a sign; of an int64, sums, the opposite. -/
import Derived.Test.YtkohpeonnoegpaaDigC
namespace Go.Proofs.Ytkohpeonnoegpaa
open Go.RowKit
set_option linter.unusedVariables false
set_option linter.unusedSimpArgs false

def sval (mi : Bool) (l : List Int) : Int := if mi then -dval l else dval l
/-- A number in memory, without zeros ahead. -/
def Num (w : World) (mi : Bool) (A : Option Addr) (n c : Nat) (v : Int) : Prop :=
  ∃ l, DRow w A n l ∧ n ≤ c ∧ c ≤ maxLen ∧ Cn l ∧ (l = [] → mi = false) ∧ sval mi l = v
def NAns (v : Int) (w : World) (e : Ending) (w' : World) : Prop :=
  ∃ mi A n c, e = .returned (.agg #[.bool mi, .slice A n c]) ∧ Num w' mi A n c v ∧ Stp [] w w'
theorem Num.stp {w w' : World} {mi : Bool} {A : Option Addr} {n c : Nat} {v : Int} (h : Num w mi A n c v) (hs : Stp [] w w') : Num w' mi A n c v := by
  obtain ⟨l, h1, h2⟩ := h
  exact ⟨l, h1.stp hs, h2⟩
theorem Num.facts {w : World} {mi : Bool} {A : Option Addr} {n c : Nat} {v : Int} (h : Num w mi A n c v) : ∃ l, DRow w A n l ∧ n ≤ c ∧ c ≤ maxLen ∧ Cn l ∧ 0 ≤ dval l ∧ (mi = true → v = -dval l ∧ 0 < dval l) ∧ (mi = false → v = dval l) ∧ (0 < n → 0 < dval l) ∧ (n = 0 → dval l = 0) := by
  obtain ⟨l, h1, h2, h3, h4, h5, h6⟩ := h
  have hn := dval_nonneg h4.1
  have hl := h1.2.1
  refine ⟨l, h1, h2, h3, h4, hn, fun e => ?_, fun e => ?_, fun h => h4.pos (by intro e; rw [e] at hl; simp at hl; omega), fun h => by have : l = [] := List.eq_nil_of_length_eq_zero (by omega); rw [this]; rfl⟩
  · subst e
    refine ⟨by rw [← h6]; rfl, h4.pos fun e => by simpa using h5 e⟩
  · subst e
    rw [← h6]; rfl
theorem Num.len {w : World} {mi : Bool} {A : Option Addr} {n c : Nat} {v : Int} (h : Num w mi A n c v) (m : Nat) (hv : -p65 m < v ∧ v < p65 m) : n ≤ m := by
  obtain ⟨l, h1, _, _, h4, _, h6, h7, _⟩ := h.facts
  rw [← h1.2.1]
  refine h4.len_le ?_
  cases mi with
  | true => have := h6 rfl; omega
  | false => have := h7 rfl; omega
theorem p65_4 : p65 4 = 18446744073709551616 := by decide
theorem p65_8 : p65 8 = 340282366920938463463374607431768211456 := by decide
theorem p65_10 : p65 10 = 1461501637330902918203684832716283019655932542976 := by decide
/-- Out of what trim answers. -/
theorem nans_of {P : Bool → List Int → Prop} {v : Int} {w : World} {e : Ending} {w' : World} (h : BAns P w e w') (hv : ∀ m l, P m l → sval m l = v) : NAns v w e w' := by
  obtain ⟨mi, A, n, c, l, he, h1, h2, h3, h4, h5, h6, h7⟩ := h
  exact ⟨mi, A, n, c, he, ⟨l, h1, h2, h3, h4, h5, hv _ _ h6⟩, h7⟩
theorem sval_trim {mi : Bool} {l r : List Int} (hc : Cn r) (h : dval r = dval l) : sval (mi && decide (0 < r.length)) r = sval mi l := by
  cases mi with
  | false => simpa [sval] using h
  | true =>
    by_cases h0 : r = []
    · subst h0
      have : dval l = 0 := by rw [← h]; rfl
      simp [sval, this]
      rfl
    · have : 0 < r.length := by cases r; exact absurd rfl h0; simp
      simp [sval, this, h]
/-- trim of a row that says a number. -/
theorem dtrim_num (mi : Bool) (A : Option Addr) (n c : Nat) (l : List Int) (v : Int) (w : World) (h : DRow w A n l) (hn : n ≤ 1000) (hc : n ≤ c) (hc2 : c ≤ maxLen) (hv : sval mi l = v) :
    Calls Try.prog 64 #[.agg #[.bool mi, .slice A n c]] w (NAns v w) := by
  refine (dtrim_any mi A n c l w h hn hc hc2).mono fun e w' h => ?_
  obtain ⟨mi2, A2, n2, c2, r, he, h1, h2, h3, h4, h5, ⟨h6, h7, _⟩, h8⟩ := h
  exact ⟨mi2, A2, n2, c2, he, ⟨r, h1, h2, h3, h4, h5, by rw [h6, sval_trim h4 h7, hv]⟩, h8⟩

theorem big_cells {w : World} {g : Nat} {x y : Value} (h : Blk w g 61 #[x, y]) : w.cell? ⟨g, 0, none⟩ = some x ∧ w.cell? ⟨g, 1, none⟩ = some y ∧ w.frozen? ⟨g, 0, none⟩ = false ∧ w.frozen? ⟨g, 1, none⟩ = false :=
  ⟨h.cell 0, h.cell 1, h.frozen 0, h.frozen 1⟩
theorem Blk.stp {w w' : World} {g : Nat} {t : TypeId} {cs : Array Value} (h : Blk w g t cs) (hs : Stp [] w w') : Blk w' g t cs := hs.at h (by simp)
theorem big_set {w : World} {g : Nat} {x y : Value} (h : Blk w g 61 #[x, y]) (u v : Value) : Blk ((w.setCell ⟨g, 0, none⟩ u).setCell ⟨g, 1, none⟩ v) g 61 #[u, v] := (h.set_ 0 u).set_ 1 v
theorem big_three (w : World) (x1 y1 x2 y2 x3 y3 : Value) : ∀ W, ((w.alloc (.cells #[x1, y1] 61)).alloc (.cells #[x2, y2] 61)).alloc (.cells #[x3, y3] 61) = W →
    Blk W w.heap.size 61 #[x1, y1] ∧ Blk W (w.heap.size + 1) 61 #[x2, y2] ∧ Blk W (w.heap.size + 1 + 1) 61 #[x3, y3] ∧ Stp [] w W := by
  rintro W rfl
  have q1 := Blk.new w 61 #[x1, y1]
  have q2 := Blk.new (w.alloc (.cells #[x1, y1] 61)) 61 #[x2, y2]
  have q3 := Blk.new ((w.alloc (.cells #[x1, y1] 61)).alloc (.cells #[x2, y2] 61)) 61 #[x3, y3]
  simp only [World.size_alloc] at q2 q3
  exact ⟨(q1.alloc _).alloc _, q2.alloc _, q3, (((Stp.refl [] w).alloc _).alloc _).alloc _⟩
theorem DRow.far {w w' : World} {A : Option Addr} {n : Nat} {l : List Int} (h : DRow w A n l) {g : Nat} {b0 : Bool} {A0 : Option Addr} {n0 c0 : Nat} (hb : Blk w g 61 #[.bool b0, .slice A0 n0 c0]) (hs : Stp [g] w w') : DRow w' A n l := by
  refine ⟨⟨h.1.1, fun hn => ?_⟩, h.2⟩
  obtain ⟨b, off, e, hb1, hg, hc⟩ := h.1.2 hn
  have hl : 0 < l.length := by have := h.2.1; omega
  have h0 := hc 0 (.int .u32 l[0]) (by rw [List.getElem?_map, List.getElem?_eq_getElem hl]; rfl)
  have hne : b ≠ g := by
    rintro rfl
    rw [hb.cell (off + 0)] at h0
    match off, h0 with
    | 0, h0 => simp at h0
    | 1, h0 => simp at h0
    | k + 2, h0 => simp at h0
  exact ⟨b, off, e, Nat.lt_of_lt_of_le hb1 hs.size, hg, fun j u hu => hs.cell (hc j u hu) (by simpa using hne)⟩
theorem Num.far {w w' : World} {mi : Bool} {A : Option Addr} {n c : Nat} {v : Int} (h : Num w mi A n c v) {g : Nat} {b0 : Bool} {A0 : Option Addr} {n0 c0 : Nat} (hb : Blk w g 61 #[.bool b0, .slice A0 n0 c0]) (hs : Stp [g] w w') : Num w' mi A n c v := by
  obtain ⟨l, h1, h2⟩ := h
  exact ⟨l, h1.far hb hs, h2⟩
theorem big_two (w : World) (x1 y1 x2 y2 : Value) :
    Blk ((w.alloc (.cells #[x1, y1] 61)).alloc (.cells #[x2, y2] 61)) w.heap.size 61 #[x1, y1] ∧ Blk ((w.alloc (.cells #[x1, y1] 61)).alloc (.cells #[x2, y2] 61)) (w.heap.size + 1) 61 #[x2, y2] ∧ Stp [] w ((w.alloc (.cells #[x1, y1] 61)).alloc (.cells #[x2, y2] 61)) := by
  have q1 := Blk.new w 61 #[x1, y1]
  have q2 := Blk.new (w.alloc (.cells #[x1, y1] 61)) 61 #[x2, y2]
  simp only [World.size_alloc] at q2
  exact ⟨q1.alloc _, q2, ((Stp.refl [] w).alloc _).alloc _⟩
theorem set_big (w : World) (g : Nat) (u v : Value) : Stp [g] w ((w.setCell ⟨g, 0, none⟩ u).setCell ⟨g, 1, none⟩ v) :=
  ((Stp.refl _ w).setCell (p := ⟨g, 0, none⟩) (.inl (by simp)) u).setCell (p := ⟨g, 1, none⟩) (.inl (by simp)) v
end Go.Proofs.Ytkohpeonnoegpaa
