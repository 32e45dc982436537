/- leap: New's table is new throughout; Add where New answers a table. -/
import Derived.Test.YtkdpndoamepcbaaLeapJ
namespace Go.Proofs.Ytkdpndoamepcbaa
open Go.RowKit
set_option linter.unusedVariables false
set_option linter.unusedSimpArgs false

/-- What New answers, with all of it in blocks that are new. -/
def MadeLeapF (c : LT) (w : World) (e : Ending) (w' : World) : Prop :=
  ∃ (g : Nat) (A : Option Addr) (cp : Nat), e = .returned (.tuple #[.pointer (some ⟨g, 0, none⟩), .int .i64 0]) ∧ w'.heap[g]? = some (.cells #[.slice A c.L.length cp, .int .i64 c.ex, .int .i64 c.base, .bool true] 67 (0, 0)) ∧ c.L.length ≤ cp ∧ cp ≤ maxLen ∧ RowIn w' A c.L.length 2 (pcells c.L) [] ∧ (∀ ad, A = some ad → w.heap.size ≤ ad.block ∧ ad.block < g) ∧ Stp [] w w' ∧ w.heap.size ≤ g
theorem lnew_fresh (A : Option Addr) (n cp : Nat) (c : LT) (w : World) (h : RowIn w A n 2 (pcells c.L) []) (hl : c.L.length = n) (ok : c.ok) :
    Calls Try.prog 18 #[.slice A n cp, .int .i64 c.ex, .int .i64 c.base] w (MadeLeapF c w) := by
  have n1 := new_lok A n cp c.L w h hl ok.leaps
  have c1 := fun w h => clone_any A n cp (pcells c.L) w h (by have := ok.leaps.len; omega) (pcells_one c.L)
  have P := Lib.hid (And.intro n1 (And.intro h (And.intro c1 hl)))
  obtain ⟨L, ex, base⟩ := c
  obtain ⟨_, e0, e1, b0, b1⟩ := ok
  simp only at e0 e1 b0 b1
  clear n1 h hl c1
  go_enter Try.func18, Try.ntmps18
  go_wp2_with fail
  refine P.out.1.mono ?_
  rintro e w1 ⟨g1, rfl, t1, s1, _⟩
  go_wp2_with fail
  refine (P.out.2.2.1 _ (by exact (P.out.2.1.stp s1).reads)).mono ?_
  rintro e w2 ⟨v, rfl, hown, s2⟩
  have ob := fun k hk => own_base (k := k) hown hk
  obtain ⟨A2, c2, rfl, k1, k2, hrow⟩ := own_form (G := []) hown (by simp)
  have hlt : ∀ ad, A2 = some ad → w1.heap.size ≤ ad.block ∧ ad.block < w2.heap.size := fun ad he => by
    rcases hown.2 with ⟨h, _⟩ | ⟨g', cap, cur, h, hb, hh, _⟩
    · rw [he] at h; cases h
    · rw [he] at h
      injection h with h
      injection h with h
      subst h
      exact ⟨hb, lt_of_at hh⟩
  go_wp2_with fail
  go_ret2
  refine ⟨w2.heap.size, A2, c2, ?_, ?_, ?_, k2, ?_, fun ad he => ⟨Nat.le_trans s1.size (hlt ad he).1, (hlt ad he).2⟩, (s1.trans s2).alloc _, (s1.trans s2).size⟩
  · rfl
  · rw [P.out.2.2.2]; exact new_at _ _
  · rw [P.out.2.2.2]; exact k1
  · rw [P.out.2.2.2]
    exact hrow.alloc _

def LT.more (c : LT) (y1 y2 ex : Int) : LT := ⟨c.L ++ [(y1, y2)], ex, c.base⟩
set_option maxHeartbeats 2000000 in
theorem ladd_late (g : Nat) (c : LT) (y1 y2 ex : Int) (w : World) (h : c.at w g) (ok : c.ok) (ok2 : (c.more y1 y2 ex).ok) (hlt : ex < c.ex) :
    Calls Try.prog 23 #[.pointer (some ⟨g, 0, none⟩), .agg #[.int .i64 y1, .int .i64 y2], .int .i64 ex] w fun e w' => e = .returned (.int .i64 1) ∧ Stp [] w w' := by
  have NW := Lib.hid (fun (w : World) (A : Option Addr) (cp : Nat) (hr : RowIn w A (c.L.length + 1) 2 (pcells c.L ++ [.int .i64 y1, .int .i64 y2]) []) => (show Calls Try.prog 18 #[.slice A (c.L.length + 1) cp, .int .i64 ex, .int .i64 c.base] w (MadeLeapF (c.more y1 y2 ex) w) from lnew_fresh A (c.L.length + 1) cp (c.more y1 y2 ex) w (by rw [show pcells (c.more y1 y2 ex).L = pcells c.L ++ [.int .i64 y1, .int .i64 y2] from pcells_append c.L [(y1, y2)]]; exact hr) (by simp [LT.more]) ok2))
  clear ok2
  have hcex := ok.e1
  obtain ⟨A, cp, h0, h1, h2, h3, h4, h5, h6⟩ := h.cells
  have hg := h.lt
  have P := Lib.hid (And.intro h ok)
  have z0 := fun o => (World.cell?_alloc_lt w o ⟨g, 0, none⟩ hg).trans h0
  have z1 := fun o => (World.cell?_alloc_lt w o ⟨g, 1, none⟩ hg).trans h1
  have z2 := fun o => (World.cell?_alloc_lt w o ⟨g, 2, none⟩ hg).trans h2
  have z3 := fun o => (World.cell?_alloc_lt w o ⟨g, 3, none⟩ hg).trans h3
  go_enter Try.func23, Try.ntmps23
  go_wp2_with fail
  refine (lnone_ptr _ _ (by first | exact h3 | exact z3 _)).mono ?_
  rintro e w1 ⟨rfl, rfl⟩
  go_wp2_with fail
  have LI := Lib.hid (fun w h => llist_any g c w h (by have := ok.leaps.len; omega))
  have AL := Lib.hid (h.alloc (.cells #[.int .i64 y1, .int .i64 y2] 34))
  obtain ⟨i0, hi, hz0, hz1, hz2⟩ := info_parts leap_info
  have Z := Lib.hid (And.intro z0 (And.intro z1 (And.intro z2 z3)))
  have hb := Blk.new w 34 #[.int .i64 y1, .int .i64 y2]
  have b0 : (w.alloc (.cells #[.int .i64 y1, .int .i64 y2] 34)).cell? ⟨w.heap.size, 0, none⟩ = some (.int .i64 y1) := hb.cell 0
  have b1 : (w.alloc (.cells #[.int .i64 y1, .int .i64 y2] 34)).cell? ⟨w.heap.size, 1, none⟩ = some (.int .i64 y2) := hb.cell 1
  have x1' := z1 (.cells #[.int .i64 y1, .int .i64 y2] 34)
  have y2' := z2 (.cells #[.int .i64 y1, .int .i64 y2] 34)
  generalize hW : w.alloc (.cells #[.int .i64 y1, .int .i64 y2] 34) = W at *
  clear z0 z1 z2 z3 h0 h1 h2 h3 hb
  have wW : Stp [] w W := by
    rw [← hW]
    exact (Stp.refl _ _).alloc _
  have hl32 := ok.leaps.len
  have K : ∀ w', Stp [] W w' → w'.cell? ⟨g, 2, none⟩ = some (.int .i64 c.base) ∧ w'.cell? ⟨w.heap.size, 0, none⟩ = some (.int .i64 y1) ∧ w'.cell? ⟨w.heap.size, 1, none⟩ = some (.int .i64 y2) ∧ Stp [] W w' := fun w' st => ⟨st.cell y2' (by simp), st.cell b0 (by simp), st.cell b1 (by simp), st⟩
  go_region_held3 (fun w' => w'.cell? ⟨g, 2, none⟩ = some (.int .i64 c.base) ∧ w'.cell? ⟨w.heap.size, 0, none⟩ = some (.int .i64 y1) ∧ w'.cell? ⟨w.heap.size, 1, none⟩ = some (.int .i64 y2) ∧ Stp [] W w')
    (first | (go_split_ands; refine K _ ?_; first | assumption | exact (Stp.refl _ _).drew | exact Stp.refl _ _ | exact Stp.trans (by assumption) s9 | exact Stp.trans (by assumption) s11 | exact Stp.alloc (by assumption) _ | exact Stp.grown (by assumption) grow10 (fun k hk => .inr (own_base own9 hk)) | exact Stp.grown (by assumption) grow10 (fun k hk => .inr (Nat.le_trans (Nat.le_trans (Nat.le_succ _) (by simp [World.drew])) (own_base own9 hk))) | exact Stp.grown (Stp.alloc (by assumption) _) grow10 (fun k hk => .inr (own_base own9 hk))))
    (first
      | (go_at_call 21; (with_reducible refine (LI.out _ (by first | exact AL.out | exact AL.out.drew | exact AL.out.alloc _ | exact (AL.out.alloc _).drew | (refine AL.out.stp ?_; assumption))).mono ?_); rintro e w9 ⟨v9, rfl, own9, s9⟩)
      | (refine step_append_any _ rfl (.tmp 13) (.tmp 15) 30 rfl _ 34 i0 (.agg #[.int .i64 0, .int .i64 0]) 2 16 Try.underlying30 hi hz0 hz1 hz2 rfl (by decide) v9 c.L.length (pcells c.L) rfl (own9.alloc _) _ _ 1 1 [.int .i64 y1, .int .i64 y2] rfl (reads_built w9 y1 y2) (two_one y1 y2) (by unfold maxLen; omega) (by omega) (Nat.le_trans s9.size ((Stp.refl [] w9).alloc _).size) ?_; intro v10 w10 own10 grow10 _; obtain ⟨A10, c10, rfl, k10, k11, row10⟩ := own_form (G := []) own10 (by simp))
      | (go_at_call 18; (with_reducible refine (NW.out _ _ _ row10).mono ?_); rintro e w11 ⟨g11, A11, c11, rfl, a11, k11', k12, r11, f11, s11, z11⟩)
      | (refine step_append_any _ rfl (.tmp 13) (.tmp 15) 30 rfl _ 34 i0 (.agg #[.int .i64 0, .int .i64 0]) 2 16 Try.underlying30 hi hz0 hz1 hz2 rfl (by decide) v9 c.L.length (pcells c.L) rfl own9 _ _ 1 1 [.int .i64 y1, .int .i64 y2] rfl (by exact ((reads_built W y1 y2).drew).stp (G := []) s9 (by simp [World.drew]) (by simp)) (two_one y1 y2) (by unfold maxLen; omega) (by omega) s9.size ?_; intro v10 w10 own10 grow10 _; obtain ⟨A10, c10, rfl, k10, k11, row10⟩ := own_form (G := []) own10 (by simp)))
  all_goals
    have sW : Stp [] W w11 := by first | assumption | (go_split_ands; assumption)
    have e1 := sW.cell x1' (by simp)
    have hd : decide (ex < c.ex) = true := decide_eq_true hlt
    go_wp2_with fail
    go_ret
    exact ⟨rfl, wW.trans sW⟩
set_option maxHeartbeats 2000000 in
theorem ladd_ok (g : Nat) (c : LT) (y1 y2 ex : Int) (w : World) (h : c.at w g) (ok : c.ok) (ok2 : (c.more y1 y2 ex).ok) (hge : c.ex ≤ ex) :
    Calls Try.prog 23 #[.pointer (some ⟨g, 0, none⟩), .agg #[.int .i64 y1, .int .i64 y2], .int .i64 ex] w fun e w' => e = .returned (.int .i64 0) ∧ (c.more y1 y2 ex).at w' g ∧ Stp [g] w w' := by
  have NW := Lib.hid (fun (w : World) (A : Option Addr) (cp : Nat) (hr : RowIn w A (c.L.length + 1) 2 (pcells c.L ++ [.int .i64 y1, .int .i64 y2]) []) => (show Calls Try.prog 18 #[.slice A (c.L.length + 1) cp, .int .i64 ex, .int .i64 c.base] w (MadeLeapF (c.more y1 y2 ex) w) from lnew_fresh A (c.L.length + 1) cp (c.more y1 y2 ex) w (by rw [show pcells (c.more y1 y2 ex).L = pcells c.L ++ [.int .i64 y1, .int .i64 y2] from pcells_append c.L [(y1, y2)]]; exact hr) (by simp [LT.more]) ok2))
  clear ok2
  have hcex := ok.e1
  obtain ⟨A, cp, h0, h1, h2, h3, h4, h5, h6⟩ := h.cells
  have hg := h.lt
  have P := Lib.hid (And.intro h ok)
  have z0 := fun o => (World.cell?_alloc_lt w o ⟨g, 0, none⟩ hg).trans h0
  have z1 := fun o => (World.cell?_alloc_lt w o ⟨g, 1, none⟩ hg).trans h1
  have z2 := fun o => (World.cell?_alloc_lt w o ⟨g, 2, none⟩ hg).trans h2
  have z3 := fun o => (World.cell?_alloc_lt w o ⟨g, 3, none⟩ hg).trans h3
  go_enter Try.func23, Try.ntmps23
  go_wp2_with fail
  refine (lnone_ptr _ _ (by first | exact h3 | exact z3 _)).mono ?_
  rintro e w1 ⟨rfl, rfl⟩
  go_wp2_with fail
  have LI := Lib.hid (fun w h => llist_any g c w h (by have := ok.leaps.len; omega))
  have AL := Lib.hid (h.alloc (.cells #[.int .i64 y1, .int .i64 y2] 34))
  obtain ⟨i0, hi, hz0, hz1, hz2⟩ := info_parts leap_info
  have Z := Lib.hid (And.intro z0 (And.intro z1 (And.intro z2 z3)))
  have hb := Blk.new w 34 #[.int .i64 y1, .int .i64 y2]
  have b0 : (w.alloc (.cells #[.int .i64 y1, .int .i64 y2] 34)).cell? ⟨w.heap.size, 0, none⟩ = some (.int .i64 y1) := hb.cell 0
  have b1 : (w.alloc (.cells #[.int .i64 y1, .int .i64 y2] 34)).cell? ⟨w.heap.size, 1, none⟩ = some (.int .i64 y2) := hb.cell 1
  have x1' := z1 (.cells #[.int .i64 y1, .int .i64 y2] 34)
  have y2' := z2 (.cells #[.int .i64 y1, .int .i64 y2] 34)
  generalize hW : w.alloc (.cells #[.int .i64 y1, .int .i64 y2] 34) = W at *
  clear z0 z1 z2 z3 h0 h1 h2 h3 hb
  have wW : Stp [] w W := by
    rw [← hW]
    exact (Stp.refl _ _).alloc _
  have hl32 := ok.leaps.len
  have K : ∀ w', Stp [] W w' → w'.cell? ⟨g, 2, none⟩ = some (.int .i64 c.base) ∧ w'.cell? ⟨w.heap.size, 0, none⟩ = some (.int .i64 y1) ∧ w'.cell? ⟨w.heap.size, 1, none⟩ = some (.int .i64 y2) ∧ Stp [] W w' := fun w' st => ⟨st.cell y2' (by simp), st.cell b0 (by simp), st.cell b1 (by simp), st⟩
  go_region_held3 (fun w' => w'.cell? ⟨g, 2, none⟩ = some (.int .i64 c.base) ∧ w'.cell? ⟨w.heap.size, 0, none⟩ = some (.int .i64 y1) ∧ w'.cell? ⟨w.heap.size, 1, none⟩ = some (.int .i64 y2) ∧ Stp [] W w')
    (first | (go_split_ands; refine K _ ?_; first | assumption | exact (Stp.refl _ _).drew | exact Stp.refl _ _ | exact Stp.trans (by assumption) s9 | exact Stp.trans (by assumption) s11 | exact Stp.alloc (by assumption) _ | exact Stp.grown (by assumption) grow10 (fun k hk => .inr (own_base own9 hk)) | exact Stp.grown (by assumption) grow10 (fun k hk => .inr (Nat.le_trans (Nat.le_trans (Nat.le_succ _) (by simp [World.drew])) (own_base own9 hk))) | exact Stp.grown (Stp.alloc (by assumption) _) grow10 (fun k hk => .inr (own_base own9 hk))))
    (first
      | (go_at_call 21; (with_reducible refine (LI.out _ (by first | exact AL.out | exact AL.out.drew | exact AL.out.alloc _ | exact (AL.out.alloc _).drew | (refine AL.out.stp ?_; assumption))).mono ?_); rintro e w9 ⟨v9, rfl, own9, s9⟩)
      | (refine step_append_any _ rfl (.tmp 13) (.tmp 15) 30 rfl _ 34 i0 (.agg #[.int .i64 0, .int .i64 0]) 2 16 Try.underlying30 hi hz0 hz1 hz2 rfl (by decide) v9 c.L.length (pcells c.L) rfl (own9.alloc _) _ _ 1 1 [.int .i64 y1, .int .i64 y2] rfl (reads_built w9 y1 y2) (two_one y1 y2) (by unfold maxLen; omega) (by omega) (Nat.le_trans s9.size ((Stp.refl [] w9).alloc _).size) ?_; intro v10 w10 own10 grow10 _; obtain ⟨A10, c10, rfl, k10, k11, row10⟩ := own_form (G := []) own10 (by simp))
      | (go_at_call 18; (with_reducible refine (NW.out _ _ _ row10).mono ?_); rintro e w11 ⟨g11, A11, c11, rfl, a11, k11', k12, r11, f11, s11, z11⟩)
      | (refine step_append_any _ rfl (.tmp 13) (.tmp 15) 30 rfl _ 34 i0 (.agg #[.int .i64 0, .int .i64 0]) 2 16 Try.underlying30 hi hz0 hz1 hz2 rfl (by decide) v9 c.L.length (pcells c.L) rfl own9 _ _ 1 1 [.int .i64 y1, .int .i64 y2] rfl (by exact ((reads_built W y1 y2).drew).stp (G := []) s9 (by simp [World.drew]) (by simp)) (two_one y1 y2) (by unfold maxLen; omega) (by omega) s9.size ?_; intro v10 w10 own10 grow10 _; obtain ⟨A10, c10, rfl, k10, k11, row10⟩ := own_form (G := []) own10 (by simp)))
  all_goals
    have sW : Stp [] W w11 := by first | assumption | (go_split_ands; assumption)
    have e1 := sW.cell x1' (by simp)
    have hd : decide (ex < c.ex) = false := decide_eq_false (by omega)
    obtain ⟨Ax, cpx, hx, _⟩ := P.out.1.stp (wW.trans sW)
    have hxc0 := cell_at hx 0
    have hxc2 := cell_at hx 2
    have hxc3 := cell_at hx 3
    have hxf0 := free_at hx 0
    have hxf1 := free_at hx 1
    have hxf2 := free_at hx 2
    have hxf3 := free_at hx 3
    have m0 := cell_at a11 0
    have m1 := cell_at a11 1
    have m2 := cell_at a11 2
    have m3 := cell_at a11 3
    have fin := set_at (set_at (set_at (set_at hx 0 (.slice A11 (c.more y1 y2 ex).L.length c11)) 1 (.int .i64 (c.more y1 y2 ex).ex)) 2 (.int .i64 (c.more y1 y2 ex).base)) 3 (.bool true)
    have gs : Stp [g] w11 ((((w11.setCell ⟨g, 0, none⟩ (.slice A11 (c.more y1 y2 ex).L.length c11)).setCell ⟨g, 1, none⟩ (.int .i64 (c.more y1 y2 ex).ex)).setCell ⟨g, 2, none⟩ (.int .i64 (c.more y1 y2 ex).base)).setCell ⟨g, 3, none⟩ (.bool true)) :=
      ((((Stp.refl _ _).setCell (p := ⟨g, 0, none⟩) (.inl (by simp)) _).setCell (p := ⟨g, 1, none⟩) (.inl (by simp)) _).setCell (p := ⟨g, 2, none⟩) (.inl (by simp)) _).setCell (p := ⟨g, 3, none⟩) (.inl (by simp)) _
    have rg : RowIn w11 A11 (c.more y1 y2 ex).L.length 2 (pcells (c.more y1 y2 ex).L) [g] := by
      refine ⟨r11.1, fun hn => ?_⟩
      obtain ⟨b, off, e, hb, _, hc⟩ := r11.2 hn
      refine ⟨b, off, e, hb, ?_, hc⟩
      have f1 := (f11 _ e).1
      simp only at f1
      have f2 := wW.size
      have f3 := s9.size
      have f4 := grow10.size
      simp at f2 f3 f4 ⊢
      omega
    have FIN := Lib.hid (And.intro fin (And.intro gs (And.intro (rg.stp gs) (And.intro k11' (And.intro k12 (wW.trans sW))))))
    clear fin gs rg r11 hx a11 own9 own10 s9 s11 grow10 row10 f11 k11' k12 NW LI
    generalize hM : c.more y1 y2 ex = M at *
    obtain ⟨ML, Mex, Mb⟩ := M
    simp only at m0 m1 m2 m3 FIN
    go_wp2_with fail
    go_ret
    exact ⟨rfl, by rw [hM]; exact ⟨A11, c11, FIN.out.1, FIN.out.2.2.2.1, FIN.out.2.2.2.2.1, FIN.out.2.2.1⟩, FIN.out.2.2.2.2.2.of_nil.trans FIN.out.2.1⟩
end Go.Proofs.Ytkdpndoamepcbaa
