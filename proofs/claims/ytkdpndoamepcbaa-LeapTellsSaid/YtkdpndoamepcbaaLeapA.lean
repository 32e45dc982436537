/- leap: a table in memory; New, List, gone, Offset. -/
import Derived.Test.YtkdpndoamepcbaaLeapS
import Derived.Test.YtkdpndoamepcbaaSmearD
import Derived.Deep.DrawnRows
namespace Go.Proofs.Ytkdpndoamepcbaa
open Go.RowKit
set_option linter.unusedVariables false
set_option linter.unusedSimpArgs false
attribute [local go_sem ↓] Go.wp_at_zero Go.wp_at_succ

structure LT where
  L : List (Int × Int)
  (ex base : Int)
structure LT.ok (c : LT) : Prop where
  leaps : LOk c.L
  e0 : 0 ≤ c.ex
  e1 : c.ex ≤ 4611686018427387904
  b0 : -1000 ≤ c.base
  b1 : c.base ≤ 1000
def LT.at (c : LT) (w : World) (g : Nat) : Prop :=
  ∃ (A : Option Addr) (cp : Nat), w.heap[g]? = some (.cells #[.slice A c.L.length cp, .int .i64 c.ex, .int .i64 c.base, .bool true] 67 (0, 0)) ∧ c.L.length ≤ cp ∧ cp ≤ maxLen ∧ RowIn w A c.L.length 2 (pcells c.L) [g]
theorem LT.at.stp {c : LT} {w w' : World} {g : Nat} (h : c.at w g) (hs : Stp [] w w') : c.at w' g := by
  obtain ⟨A, cp, h1, h2, h3, h4⟩ := h
  refine ⟨A, cp, hs.at h1 (by simp), h2, h3, ⟨h4.1, fun hn => ?_⟩⟩
  obtain ⟨b, off, e, hb, hg, hc⟩ := h4.2 hn
  exact ⟨b, off, e, Nat.lt_of_lt_of_le hb hs.size, hg, fun j u hu => hs.cell (hc j u hu) (by simp)⟩
theorem LT.at.alloc {c : LT} {w : World} {g : Nat} (h : c.at w g) (o : Obj) : c.at (w.alloc o) g := h.stp ((Stp.refl _ _).alloc o)
theorem LT.at.drewN {c : LT} {w : World} {g : Nat} (h : c.at w g) (n : Nat) : c.at (w.drewN n) g := h.stp ((Stp.refl _ _).drewN n)
theorem LT.at.drew {c : LT} {w : World} {g : Nat} (h : c.at w g) : c.at w.drew g := h.stp (Stp.refl _ _).drew
theorem LT.at.lt {c : LT} {w : World} {g : Nat} (h : c.at w g) : g < w.heap.size := by
  obtain ⟨A, cp, h1, _⟩ := h
  exact lt_of_at h1
/-- What a walk reads of a table. -/
theorem LT.at.cells {c : LT} {w : World} {g : Nat} (h : c.at w g) : ∃ (A : Option Addr) (cp : Nat), w.cell? ⟨g, 0, none⟩ = some (.slice A c.L.length cp) ∧ w.cell? ⟨g, 1, none⟩ = some (.int .i64 c.ex) ∧ w.cell? ⟨g, 2, none⟩ = some (.int .i64 c.base) ∧ w.cell? ⟨g, 3, none⟩ = some (.bool true) ∧ c.L.length ≤ cp ∧ cp ≤ maxLen ∧ RowIn w A c.L.length 2 (pcells c.L) [g] := by
  obtain ⟨A, cp, h1, h2, h3, h4⟩ := h
  exact ⟨A, cp, cell_at h1 0, cell_at h1 1, cell_at h1 2, cell_at h1 3, h2, h3, h4⟩

theorem lnone_ptr (g : Nat) (w : World) (h3 : w.cell? ⟨g, 3, none⟩ = some (.bool true)) :
    Calls Try.prog 30 #[.pointer (some ⟨g, 0, none⟩)] w fun e w' => e = .returned (.bool false) ∧ w' = w := by
  go_enter Try.func30, Try.ntmps30
  go_wp2
  go_ret
  exact ⟨rfl, rfl⟩
theorem lnone_nil (w : World) : Calls Try.prog 30 #[.pointer none] w fun e w' => e = .returned (.bool true) ∧ w' = w := by
  go_enter Try.func30, Try.ntmps30
  go_wp2
  go_ret
  exact ⟨rfl, rfl⟩
theorem lnone_zero (g : Nat) (w : World) (h3 : w.cell? ⟨g, 3, none⟩ = some (.bool false)) :
    Calls Try.prog 30 #[.pointer (some ⟨g, 0, none⟩)] w fun e w' => e = .returned (.bool true) ∧ w' = w := by
  go_enter Try.func30, Try.ntmps30
  go_wp2
  go_ret
  exact ⟨rfl, rfl⟩

def MadeLeap (c : LT) (w : World) (e : Ending) (w' : World) : Prop :=
  ∃ g, e = .returned (.tuple #[.pointer (some ⟨g, 0, none⟩), .int .i64 0]) ∧ c.at w' g ∧ Stp [] w w' ∧ w.heap.size ≤ g
theorem new_lok (A : Option Addr) (n c : Nat) (L : List (Int × Int)) (w : World) (h : RowIn w A n 2 (pcells L) []) (hl : L.length = n) (ok : LOk L) :
    Calls Try.prog 25 #[.slice A n c] w (MadeTab L w) :=
  new_ok A n c L w h hl (by rw [← hl]; exact ok.len) (fun x hx => by have := ok.each x hx; omega) ok.leaps
theorem lnew_ok (A : Option Addr) (n cp : Nat) (c : LT) (w : World) (h : RowIn w A n 2 (pcells c.L) []) (hl : c.L.length = n) (ok : c.ok) :
    Calls Try.prog 18 #[.slice A n cp, .int .i64 c.ex, .int .i64 c.base] w (MadeLeap c w) := by
  have n1 := new_lok A n cp c.L w h hl ok.leaps
  have c1 := fun w h => clone_any A n cp (pcells c.L) w h (by have := ok.leaps.len; omega) (pcells_one c.L)
  have P := Lib.hid (And.intro n1 (And.intro h (And.intro c1 hl)))
  obtain ⟨L, ex, base⟩ := c
  obtain ⟨_, e0, e1, b0, b1⟩ := ok
  simp only at e0 e1 b0 b1
  clear n1 h hl c1
  go_enter Try.func18, Try.ntmps18
  go_wp2_with fail
  refine P.out.1.mono ?_
  rintro e w1 ⟨g1, rfl, t1, s1, _⟩
  go_wp2_with fail
  refine (P.out.2.2.1 _ (by exact (P.out.2.1.stp s1).reads)).mono ?_
  rintro e w2 ⟨v, rfl, hown, s2⟩
  obtain ⟨A2, c2, rfl, k1, k2, hrow⟩ := own_form (G := []) hown (by simp)
  go_wp2_with fail
  go_ret2
  refine ⟨w2.heap.size, rfl, ⟨A2, c2, ?_, ?_, k2, ?_⟩, (s1.trans s2).alloc _, (s1.trans s2).size⟩
  · rw [P.out.2.2.2]; exact new_at _ _
  · rw [P.out.2.2.2]; exact k1
  · rw [P.out.2.2.2]
    refine ⟨hrow.1, fun hn => ?_⟩
    obtain ⟨b, off, e, hb, _, hc⟩ := (hrow.alloc _).2 hn
    obtain ⟨b', off', e', hb', _⟩ := hrow.2 hn
    rw [e] at e'
    have eb : b = b' := congrArg Addr.block (Option.some.inj e')
    exact ⟨b, off, e, hb, by simp; omega, hc⟩

theorem llist_any (g : Nat) (c : LT) (w : World) (h : c.at w g) (hl : c.L.length ≤ 40) :
    Calls Try.prog 21 #[.pointer (some ⟨g, 0, none⟩)] w (Cloned c.L.length (pcells c.L) w) := by
  obtain ⟨A, cp, h0, h1, h2, h3, h4, h5, h6⟩ := h.cells
  have c1 := clone_any A c.L.length cp (pcells c.L) w h6.reads (by omega) (pcells_one c.L)
  have P := Lib.hid c1
  clear h h1 h2 h6 c1
  go_enter Try.func21, Try.ntmps21
  go_wp2_with fail
  refine (lnone_ptr _ _ (by assumption)).mono ?_
  rintro e w1 ⟨rfl, rfl⟩
  go_wp2_with fail
  refine P.out.mono ?_
  rintro e w2 ⟨v, rfl, hown, s2⟩
  go_wp2_with fail
  go_ret
  exact ⟨v, rfl, hown, s2⟩

theorem gone_test (b1 : Nat) (t a k : Int) (w : World) (hb : w.cell? ⟨b1, 0, none⟩ = some (.int .i64 t)) (hb1 : b1 < w.heap.size) :
    Calls Try.prog 46 #[.agg #[.int .i64 a, .int .i64 k], .pointer (some ⟨b1, 0, none⟩)] w fun e w' => e = .returned (.bool (decide (t < a))) ∧ Stp [] w w' := by
  go_enter Try.func46, Try.ntmps46
  go_wp2_with (go_quiet (fail))
  go_ret
  exact ⟨rfl, (Stp.refl _ _).alloc _⟩
set_option maxHeartbeats 1000000 in
theorem idx_gone (b1 : Nat) (t : Int) (A : Option Addr) (n c : Nat) (L : List (Int × Int)) (w : World) (h : RowIn w A n 2 (pcells L) []) (hl : L.length = n) (hn : L.length ≤ 32) (hb : w.cell? ⟨b1, 0, none⟩ = some (.int .i64 t)) (hb1 : b1 < w.heap.size) :
    Calls Try.prog 43 #[.slice A n c, .func (.func 46) #[] #[.pointer (some ⟨b1, 0, none⟩)]] w fun e w' => e = .returned (.int .i64 (idxS (fun y => decide (t < y.1)) L)) ∧ Stp [] w w' := by
  have t1 := fun a k w hb hb1 => gone_test b1 t a k w hb hb1
  obtain ⟨r, hr⟩ : ∃ r, idxS (fun y => decide (t < y.1)) L = r := ⟨_, rfl⟩
  rw [hr]
  have P := Lib.hid (And.intro h (And.intro hl (And.intro hb (And.intro t1 hr))))
  clear h hb t1 hr
  have hn1 : n ≤ 32 := by omega
  clear hn hl
  go_enter Try.func43, Try.ntmps43
  go_wp2_with fail
  go_loopw [8] (fun i wr => ∃ k : Nat, k ≤ n ∧ i = .int .i64 k ∧ (∀ j (hj : j < k) (hj2 : j < L.length), decide (t < L[j].1) = false) ∧ Stp [] w wr) (fun i _ => n - (intOf i).toNat)
  case atStart => exact ⟨0, Nat.zero_le _, rfl, fun j hj => absurd hj (by omega), Stp.refl _ _⟩
  case round =>
    obtain ⟨k, hk, rfl, hno, ht⟩ := hrel
    have NO := Lib.hid hno
    clear hno
    by_cases hlt : k < n
    · obtain ⟨b, off, rfl, hbb, hbg, hcell⟩ := (P.out.1.stp ht).2 (by omega)
      have hkl : k < L.length := by rw [P.out.2.1]; exact hlt
      have hx := pcells_get L k hkl
      have hc1 : wr.cell? ⟨b, off + k * 2, none⟩ = some (.int .i64 L[k].1) := hcell _ _ hx.1
      have hc2 : wr.cell? ⟨b, off + k * 2 + 1, none⟩ = some (.int .i64 L[k].2) := hcell _ _ hx.2
      have c1 := P.out.2.2.2.1 L[k].1 L[k].2 wr (ht.cell P.out.2.2.1 (by simp)) (Nat.lt_of_lt_of_le hb1 ht.size)
      clear hx hcell
      cases hq : decide (t < L[k].1) with
      | true =>
        have hr : (k : Int) = r := by rw [← P.out.2.2.2.2]; exact (idxS_some hkl (fun j hj => NO.out j hj (by omega)) hq).symm
        rw [hq] at c1
        have C := Lib.hid c1
        have HR := Lib.hid hr
        clear c1 hr hq
        generalize L[k] = y at *
        obtain ⟨y1, y2⟩ := y
        simp only at hc1 hc2
        go_wp2_with fail
        refine C.out.mono ?_
        rintro e w1 ⟨rfl, s1⟩
        go_wp2_with fail
        go_ret
        exact ⟨ret_int HR.out, ht.trans s1⟩
      | false =>
        have hno2 : ∀ j (hj : j < k + 1) (hj2 : j < L.length), decide (t < L[j].1) = false := fun j hj hj2 => by
          rcases Nat.lt_or_ge j k with h1 | h1
          · exact NO.out j h1 hj2
          · obtain rfl : j = k := by omega
            exact hq
        rw [hq] at c1
        have C := Lib.hid c1
        have N2 := Lib.hid hno2
        clear c1 hno2 hq
        generalize L[k] = y at *
        obtain ⟨y1, y2⟩ := y
        simp only at hc1 hc2
        go_wp2_with fail
        refine C.out.mono ?_
        rintro e w1 ⟨rfl, s1⟩
        go_wp2_with fail
        go_roundw
        case rel => exact ⟨k + 1, by omega, by go_num, N2.out, ht.trans s1⟩
        case measure => simp [intOf]; omega
    · have hr : (-1 : Int) = r := by
        rw [← P.out.2.2.2.2]
        refine (idxS_none fun x hx => ?_).symm
        obtain ⟨j, hj, rfl⟩ := List.getElem_of_mem hx
        exact NO.out j (by have := P.out.2.1; omega) hj
      have HR := Lib.hid hr
      clear hr
      go_wp2
      go_ret
      exact ⟨ret_int HR.out, ht⟩

set_option maxHeartbeats 1000000 in
theorem gone_any (g : Nat) (c : LT) (t : Int) (w : World) (h : c.at w g) (ok : c.ok) :
    Calls Try.prog 31 #[.pointer (some ⟨g, 0, none⟩), .int .i64 t] w fun e w' => e = .returned (.int .i64 (cntS t c.L)) ∧ Stp [] w w' := by
  obtain ⟨A, cp, h0, h1, h2, h3, h4, h5, h6⟩ := h.cells
  have hg := h.lt
  have ic := idx_cnt t c.L
  have cl := cntS_le t c.L
  have x1 := fun b1 w h hb hb1 => idx_gone b1 t A c.L.length cp c.L w h rfl ok.leaps.len hb hb1
  have hl := ok.leaps.len
  have y0 : (w.alloc (.cells #[.int .i64 t] 2)).cell? ⟨g, 0, none⟩ = some (.slice A c.L.length cp) := (World.cell?_alloc_lt w _ ⟨g, 0, none⟩ hg).trans h0
  have P := Lib.hid (And.intro x1 h6)
  generalize idxS (fun y => decide (t < y.1)) c.L = r at *
  generalize cntS t c.L = k at *
  have IC := Lib.hid ic
  clear x1 h h1 h2 h3 h6 ic ok
  generalize c.L.length = m at *
  go_enter Try.func31, Try.ntmps31
  go_wp2_with fail
  refine (P.out.1 w.heap.size _ (by exact (P.out.2.less (by simp)).alloc _) (by exact (Blk.new w 2 #[.int .i64 t]).cell 0) (by simp)).mono ?_
  rintro e w1 ⟨rfl, s1⟩
  have z0 : w1.cell? ⟨g, 0, none⟩ = some (.slice A m cp) := s1.cell y0 (by simp)
  by_cases hk : k = m
  · have hr : r = -1 := by rw [IC.out, if_pos hk]
    subst hr
    subst hk
    clear IC P
    go_wp2_with fail
    go_ret
    exact ⟨rfl, ((Stp.refl _ _).alloc _).trans s1⟩
  · have hr : r = k := by rw [IC.out, if_neg hk]
    subst hr
    clear IC P
    go_wp2_with fail
    go_ret
    exact ⟨rfl, ((Stp.refl _ _).alloc _).trans s1⟩
end Go.Proofs.Ytkdpndoamepcbaa
