/- leap: Add. -/
import Derived.Test.YtkdpndoamepcbaaLeapI
import Derived.Deep.RegionHeld3
namespace Go.Proofs.Ytkdpndoamepcbaa
open Go.RowKit
set_option linter.unusedVariables false
set_option linter.unusedSimpArgs false

theorem reads_built (w : World) (y1 y2 : Int) : Reads (w.alloc (.cells #[.int .i64 y1, .int .i64 y2] 34)) (w.heap.size + 1) 2 (some ⟨w.heap.size, 0, none⟩) 1 [.int .i64 y1, .int .i64 y2] := by
  have hb := Blk.new w 34 #[.int .i64 y1, .int .i64 y2]
  refine ⟨rfl, fun _ => ⟨_, rfl, Nat.lt_succ_self _, fun j u hu => ?_⟩⟩
  match j, hu with
  | 0, hu => cases hu; exact hb.cell 0
  | 1, hu => cases hu; exact hb.cell 1
  | j + 2, hu => simp at hu
theorem two_one (y1 y2 : Int) : ∀ u ∈ ([.int .i64 y1, .int .i64 y2] : List Value), u.oneCell' = true := by
  intro u hu
  simp at hu
  rcases hu with rfl | rfl <;> rfl
set_option maxHeartbeats 2000000 in
theorem ladd_bad (g : Nat) (c : LT) (y1 y2 ex : Int) (w : World) (h : c.at w g) (ok : c.ok) (NW : Hid (∀ w A cp, RowIn w A (c.L.length + 1) 2 (pcells c.L ++ [.int .i64 y1, .int .i64 y2]) [] → Calls Try.prog 18 #[.slice A (c.L.length + 1) cp, .int .i64 ex, .int .i64 c.base] w fun e w' => e = .returned (.tuple #[.pointer none, .int .i64 1]) ∧ Stp [] w w')) :
    Calls Try.prog 23 #[.pointer (some ⟨g, 0, none⟩), .agg #[.int .i64 y1, .int .i64 y2], .int .i64 ex] w fun e w' => e = .returned (.int .i64 1) ∧ Stp [] w w' := by
  obtain ⟨A, cp, h0, h1, h2, h3, h4, h5, h6⟩ := h.cells
  have hg := h.lt
  have P := Lib.hid (And.intro h ok)
  have z0 := fun o => (World.cell?_alloc_lt w o ⟨g, 0, none⟩ hg).trans h0
  have z1 := fun o => (World.cell?_alloc_lt w o ⟨g, 1, none⟩ hg).trans h1
  have z2 := fun o => (World.cell?_alloc_lt w o ⟨g, 2, none⟩ hg).trans h2
  have z3 := fun o => (World.cell?_alloc_lt w o ⟨g, 3, none⟩ hg).trans h3
  go_enter Try.func23, Try.ntmps23
  go_wp2_with fail
  refine (lnone_ptr _ _ (by first | exact h3 | exact z3 _)).mono ?_
  rintro e w1 ⟨rfl, rfl⟩
  go_wp2_with fail
  have LI := Lib.hid (fun w h => llist_any g c w h (by have := ok.leaps.len; omega))
  have AL := Lib.hid (h.alloc (.cells #[.int .i64 y1, .int .i64 y2] 34))
  obtain ⟨i0, hi, hz0, hz1, hz2⟩ := info_parts leap_info
  have Z := Lib.hid (And.intro z0 (And.intro z1 (And.intro z2 z3)))
  have hb := Blk.new w 34 #[.int .i64 y1, .int .i64 y2]
  have b0 : (w.alloc (.cells #[.int .i64 y1, .int .i64 y2] 34)).cell? ⟨w.heap.size, 0, none⟩ = some (.int .i64 y1) := hb.cell 0
  have b1 : (w.alloc (.cells #[.int .i64 y1, .int .i64 y2] 34)).cell? ⟨w.heap.size, 1, none⟩ = some (.int .i64 y2) := hb.cell 1
  have y2' := z2 (.cells #[.int .i64 y1, .int .i64 y2] 34)
  generalize hW : w.alloc (.cells #[.int .i64 y1, .int .i64 y2] 34) = W at *
  clear z0 z1 z2 z3 h0 h1 h2 h3 hb
  have wW : Stp [] w W := by
    rw [← hW]
    exact (Stp.refl _ _).alloc _
  have hl32 := ok.leaps.len
  have K : ∀ w', Stp [] W w' → w'.cell? ⟨g, 2, none⟩ = some (.int .i64 c.base) ∧ w'.cell? ⟨w.heap.size, 0, none⟩ = some (.int .i64 y1) ∧ w'.cell? ⟨w.heap.size, 1, none⟩ = some (.int .i64 y2) ∧ Stp [] W w' := fun w' st => ⟨st.cell y2' (by simp), st.cell b0 (by simp), st.cell b1 (by simp), st⟩
  go_region_held3 (fun w' => w'.cell? ⟨g, 2, none⟩ = some (.int .i64 c.base) ∧ w'.cell? ⟨w.heap.size, 0, none⟩ = some (.int .i64 y1) ∧ w'.cell? ⟨w.heap.size, 1, none⟩ = some (.int .i64 y2) ∧ Stp [] W w')
    (first | (go_split_ands; refine K _ ?_; first | assumption | exact (Stp.refl _ _).drew | exact Stp.refl _ _ | exact Stp.trans (by assumption) s9 | exact Stp.trans (by assumption) s11 | exact Stp.alloc (by assumption) _ | exact Stp.grown (by assumption) grow10 (fun k hk => .inr (own_base own9 hk)) | exact Stp.grown (by assumption) grow10 (fun k hk => .inr (Nat.le_trans (Nat.le_trans (Nat.le_succ _) (by simp [World.drew])) (own_base own9 hk))) | exact Stp.grown (Stp.alloc (by assumption) _) grow10 (fun k hk => .inr (own_base own9 hk))))
    (first
      | (go_at_call 21; (with_reducible refine (LI.out _ (by first | exact AL.out | exact AL.out.drew | exact AL.out.alloc _ | exact (AL.out.alloc _).drew | (refine AL.out.stp ?_; assumption))).mono ?_); rintro e w9 ⟨v9, rfl, own9, s9⟩)
      | (refine step_append_any _ rfl (.tmp 13) (.tmp 15) 30 rfl _ 34 i0 (.agg #[.int .i64 0, .int .i64 0]) 2 16 Try.underlying30 hi hz0 hz1 hz2 rfl (by decide) v9 c.L.length (pcells c.L) rfl (own9.alloc _) _ _ 1 1 [.int .i64 y1, .int .i64 y2] rfl (reads_built w9 y1 y2) (two_one y1 y2) (by unfold maxLen; omega) (by omega) (Nat.le_trans s9.size ((Stp.refl [] w9).alloc _).size) ?_; intro v10 w10 own10 grow10 _; obtain ⟨A10, c10, rfl, k10, k11, row10⟩ := own_form (G := []) own10 (by simp))
      | (go_at_call 18; (with_reducible refine (NW.out _ _ _ row10).mono ?_); rintro e w11 ⟨rfl, s11⟩)
      | (refine step_append_any _ rfl (.tmp 13) (.tmp 15) 30 rfl _ 34 i0 (.agg #[.int .i64 0, .int .i64 0]) 2 16 Try.underlying30 hi hz0 hz1 hz2 rfl (by decide) v9 c.L.length (pcells c.L) rfl own9 _ _ 1 1 [.int .i64 y1, .int .i64 y2] rfl (by exact ((reads_built W y1 y2).drew).stp (G := []) s9 (by simp [World.drew]) (by simp)) (two_one y1 y2) (by unfold maxLen; omega) (by omega) s9.size ?_; intro v10 w10 own10 grow10 _; obtain ⟨A10, c10, rfl, k10, k11, row10⟩ := own_form (G := []) own10 (by simp)))
  all_goals
    go_wp2_with fail
    go_ret
    exact ⟨rfl, wW.trans (by first | assumption | (go_split_ands; assumption))⟩
end Go.Proofs.Ytkdpndoamepcbaa
