/- leap: Offset and Label. -/
import Derived.Test.YtkdpndoamepcbaaLeapA
namespace Go.Proofs.Ytkdpndoamepcbaa
open Go.RowKit
set_option linter.unusedVariables false
set_option linter.unusedSimpArgs false
attribute [local go_sem ↓] Go.wp_at_zero Go.wp_at_succ

set_option maxHeartbeats 2000000 in
theorem offset_any (g : Nat) (c : LT) (t : Int) (w : World) (h : c.at w g) (ok : c.ok) :
    Calls Try.prog 16 #[.pointer (some ⟨g, 0, none⟩), .int .i64 t] w fun e w' => e = .returned (.int .i64 (c.base + kS t c.L)) ∧ Stp [] w w' := by
  obtain ⟨A, cp, h0, h1, h2, h3, h4, h5, h6⟩ := h.cells
  have g1 := fun w h => gone_any g c t w h ok
  have kl := cntS_le t c.L
  have P := Lib.hid (And.intro g1 (And.intro h (And.intro h6 ok)))
  obtain ⟨L, ex, base⟩ := c
  obtain ⟨okL, e0, e1, b0, b1⟩ := ok
  simp only at h0 h1 h2 h4 kl b0 b1 okL
  have hS : kS t L = kindS (L.take (cntS t L)) := rfl
  rw [hS]
  have hl := okL.len
  have OK := Lib.hid okL
  clear g1 h h6 hS okL
  have P2 : Hid ((∀ w', (LT.mk L ex base).at w' g → Calls Try.prog 31 #[.pointer (some ⟨g, 0, none⟩), .int .i64 t] w' fun e w'' => e = .returned (.int .i64 (cntS t L)) ∧ Stp [] w' w'') ∧ (LT.mk L ex base).at w g ∧ RowIn w A L.length 2 (pcells L) [g]) := ⟨P.out.1, P.out.2.1, P.out.2.2.1⟩
  clear P
  generalize cntS t L = n at *
  have n0 : (0 : Int) ≤ (n : Int) := by omega
  have n1 : (n : Int) ≤ (cp : Int) := by omega
  have n2 : (n : Int) ≤ (L.length : Int) := by omega
  go_enter Try.func16, Try.ntmps16
  go_wp2_with fail
  refine (lnone_ptr _ _ (by assumption)).mono ?_
  rintro e w1 ⟨rfl, rfl⟩
  go_wp2_with fail
  go_region_held3 (fun w' => w'.cell? ⟨g, 0, none⟩ = some (.slice A L.length cp)) (first | go_keep | exact h0 | exact s9.cell h0 (by simp))
    ((go_at_call 31; (with_reducible refine (P2.out.1 _ (by first | exact P2.out.2.1 | exact P2.out.2.1.drew)).mono ?_); rintro e w9 ⟨rfl, s9⟩))
  go_wp2_with fail
  have T9 := Lib.hid (show Stp [] w1 w9 by first | exact s9 | exact ⟨s9.os, s9.tape, s9.output, s9.size, s9.block⟩)
  clear h0 h1 h2 h3 s9
  go_loopw [5, 23] (fun v i wr => ∃ k : Nat, k ≤ n ∧ i = .int .i64 k ∧ v = .int .i64 (base + kindS (L.take k)) ∧ Stp [] w1 wr) (fun _ i _ => n - (intOf i).toNat)
  case atStart => exact ⟨0, Nat.zero_le _, rfl, by simp [kindS], T9.out⟩
  case round =>
    obtain ⟨k, hk, rfl, rfl, ht⟩ := hrel
    by_cases hlt : k < n
    · obtain ⟨b, off, rfl, hbb, hbg, hcell⟩ := P2.out.2.2.2 (by omega)
      have hkl : k < L.length := by omega
      have hx := pcells_get L k hkl
      have hc1 : wr.cell? ⟨b, off + k * 2, none⟩ = some (.int .i64 L[k].1) := ht.cell (hcell _ _ hx.1) (by simp)
      have hc2 : wr.cell? ⟨b, off + k * 2 + 1, none⟩ = some (.int .i64 L[k].2) := ht.cell (hcell _ _ hx.2) (by simp)
      have hs : kindS (L.take (k + 1)) = kindS (L.take k) + L[k].2 := by rw [List.take_succ_eq_append_getElem hkl, kindS_append]; simp [kindS]
      have tb := take_kind_bd OK.out k
      have hbk := (OK.out.each L[k] (List.getElem_mem _)).2.2
      clear hx hcell
      generalize L[k] = y at *
      obtain ⟨y1, y2⟩ := y
      simp only at hc1 hc2 hs hbk
      have HS := Lib.hid hs
      have kb0 : -1 ≤ y2 := by omega
      have kb1 : y2 ≤ 1 := by omega
      obtain ⟨tb0, tb1⟩ := tb
      clear hs hbk
      generalize kindS (L.take k) = q at *
      have e1 : base + q + y2 = base + (q + y2) := by omega
      have HE := Lib.hid e1
      clear e1
      go_wp2_with fail
      go_roundw
      case rel => exact ⟨k + 1, by omega, by go_num, by rw [HS.out, ← HE.out], ht.alloc _⟩
      case measure => simp [intOf]; omega
    · obtain rfl : k = n := by omega
      go_wp2
      go_ret
      exact ⟨rfl, ht⟩
end Go.Proofs.Ytkdpndoamepcbaa
