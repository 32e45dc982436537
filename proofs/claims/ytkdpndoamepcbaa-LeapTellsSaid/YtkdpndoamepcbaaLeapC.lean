/- leap: Label, Next, Bits. -/
import Derived.Test.YtkdpndoamepcbaaLeapB
namespace Go.Proofs.Ytkdpndoamepcbaa
open Go.RowKit
set_option linter.unusedVariables false
set_option linter.unusedSimpArgs false

theorem ins_at {t : Int} {L : List (Int × Int)} (ok : LOk L) {m : Nat} (hk : cntS t L = m + 1) (hm : m < L.length) : insS t L = (decide (0 < L[m].2) && decide (t - L[m].1 < 1000000000)) := by
  rw [ins_last t ok.rise (fun x hx => (ok.each x hx).2.2), hk]
  have e : L[m + 1 - 1]? = some L[m] := by rw [Nat.add_sub_cancel]; exact List.getElem?_eq_getElem hm
  rw [e]
  simp
theorem cnt_at {t : Int} : ∀ {L : List (Int × Int)} {k : Nat} (hk : k < L.length), k < cntS t L → L[k].1 ≤ t
  | [], k, hk, _ => by simp at hk
  | x :: l, k, hk, h => by
    have e : cntS t (x :: l) = if x.1 ≤ t then cntS t l + 1 else 0 := rfl
    rw [e] at h
    split at h
    · cases k with
      | zero => assumption
      | succ k => exact cnt_at (L := l) (k := k) (by simpa using hk) (by omega)
    · omega
theorem ins_no {t : Int} {L : List (Int × Int)} (ok : LOk L) (hk : cntS t L = 0) : insS t L = false := by
  rw [ins_last t ok.rise (fun x hx => (ok.each x hx).2.2), hk]
  simp

set_option maxHeartbeats 2000000 in
theorem label_any (g : Nat) (c : LT) (t : Int) (w : World) (h : c.at w g) (ok : c.ok) (ht : -4611700000000000000 ≤ t ∧ t ≤ 4611700000000000000) :
    Calls Try.prog 14 #[.pointer (some ⟨g, 0, none⟩), .int .i64 t] w fun e w' => e = .returned (.tuple #[.int .i64 (labelS c.base c.L t), .bool (insS t c.L)]) ∧ Stp [] w w' := by
  obtain ⟨A, cp, h0, h1, h2, h3, h4, h5, h6⟩ := h.cells
  have g1 := gone_any g c t w h ok
  have o1 := fun w h => offset_any g c t w h ok
  have kl := cntS_le t c.L
  have kb := kS_bd ok.leaps t
  have eL : labelS c.base c.L t = t - (c.base + kS t c.L) * 1000000000 := rfl
  rw [eL]
  have P := Lib.hid (And.intro g1 (And.intro o1 (And.intro h (And.intro h6 ok))))
  have b0 := ok.b0
  have b1 := ok.b1
  have hl32 := ok.leaps.len
  obtain ⟨t0, t1⟩ := ht
  obtain ⟨of, hof⟩ : ∃ of, c.base + kS t c.L = of := ⟨_, rfl⟩
  have o1' := P.out.2.1
  rw [hof] at o1' ⊢
  have O := Lib.hid o1'
  have of0 : -1032 ≤ of := by omega
  have of1 : of ≤ 1032 := by omega
  clear g1 o1 o1' h h1 h2 h6 eL hof kb b0 b1 ok
  rcases Nat.eq_zero_or_pos (cntS t c.L) with hz | hz
  · rw [ins_no P.out.2.2.2.2.leaps hz]
    have G : Hid (Calls Try.prog 31 #[.pointer (some ⟨g, 0, none⟩), .int .i64 t] w fun e w' => e = .returned (.int .i64 0) ∧ Stp [] w w') := by
      have := P.out.1
      rw [hz] at this
      exact this
    clear hz kl
    go_enter Try.func14, Try.ntmps14
    go_wp2_with fail
    refine (lnone_ptr _ _ (by assumption)).mono ?_
    rintro e w1 ⟨rfl, rfl⟩
    go_wp2_with fail
    refine G.out.mono ?_
    rintro e w2 ⟨rfl, s2⟩
    go_wp2_with fail
    refine (O.out _ (P.out.2.2.1.stp s2)).mono ?_
    rintro e w3 ⟨rfl, s3⟩
    go_wp2_with fail
    go_ret2
    exact ⟨rfl, s2.trans s3⟩
  · obtain ⟨m, hm⟩ : ∃ m, cntS t c.L = m + 1 := ⟨cntS t c.L - 1, by omega⟩
    have hml : m < c.L.length := by omega
    obtain ⟨kk, hkk⟩ : ∃ kk : Int, (cntS t c.L : Int) = kk := ⟨_, rfl⟩
    have hk1 : kk - 1 = (m : Int) := by omega
    have hk0 : 0 < kk := by omega
    have hk2 : kk ≤ 32 := by omega
    rw [ins_at P.out.2.2.2.2.leaps hm hml]
    have G : Hid (Calls Try.prog 31 #[.pointer (some ⟨g, 0, none⟩), .int .i64 t] w fun e w' => e = .returned (.int .i64 kk) ∧ Stp [] w w') := by
      have := P.out.1
      rw [hkk] at this
      exact this
    obtain ⟨b, off, rfl, hbb, hbg, hcell⟩ := P.out.2.2.2.1.2 (by omega)
    have hx := pcells_get c.L m hml
    have hc1 : w.cell? ⟨b, off + m * 2, none⟩ = some (.int .i64 c.L[m].1) := hcell _ _ hx.1
    have hc2 : w.cell? ⟨b, off + m * 2 + 1, none⟩ = some (.int .i64 c.L[m].2) := hcell _ _ hx.2
    have hbk := P.out.2.2.2.2.leaps.each c.L[m] (List.getElem_mem _)
    have hyt := cnt_at (t := t) hml (by omega)
    clear hx hcell hm hz kl hkk
    generalize c.L[m] = y at *
    obtain ⟨y1, y2⟩ := y
    simp only at hc1 hc2 hbk hyt ⊢
    obtain ⟨a0, a1, a2⟩ := hbk
    generalize c.L.length = n at *
    by_cases p1 : 0 < y2
    · simp only [p1, decide_true, Bool.true_and]
      go_enter Try.func14, Try.ntmps14
      go_wp2_with fail
      refine (lnone_ptr _ _ (by assumption)).mono ?_
      rintro e w1 ⟨rfl, rfl⟩
      go_wp2_with fail
      refine G.out.mono ?_
      rintro e w2 ⟨rfl, s2⟩
      have z0 := s2.cell h0 (by simp)
      have z1 := s2.cell hc1 (by simp)
      have z2 := s2.cell hc2 (by simp)
      go_wp2_with fail
      refine (O.out _ (P.out.2.2.1.stp s2)).mono ?_
      rintro e w3 ⟨rfl, s3⟩
      go_wp2_with fail
      go_ret2
      exact ⟨rfl, s2.trans s3⟩
    · simp only [p1, decide_false, Bool.false_and]
      go_enter Try.func14, Try.ntmps14
      go_wp2_with fail
      refine (lnone_ptr _ _ (by assumption)).mono ?_
      rintro e w1 ⟨rfl, rfl⟩
      go_wp2_with fail
      refine G.out.mono ?_
      rintro e w2 ⟨rfl, s2⟩
      have z0 := s2.cell h0 (by simp)
      have z1 := s2.cell hc1 (by simp)
      have z2 := s2.cell hc2 (by simp)
      go_wp2_with fail
      refine (O.out _ (P.out.2.2.1.stp s2)).mono ?_
      rintro e w3 ⟨rfl, s3⟩
      go_wp2_with fail
      go_ret2
      exact ⟨rfl, s2.trans s3⟩

/-- What Next tells. -/
def nextS (t : Int) (L : List (Int × Int)) : Int × Int × Bool := if h : cntS t L < L.length then (L[cntS t L].1, L[cntS t L].2, true) else (0, 0, false)
set_option maxHeartbeats 2000000 in
theorem next_any (g : Nat) (c : LT) (t : Int) (w : World) (h : c.at w g) (ok : c.ok) :
    Calls Try.prog 17 #[.pointer (some ⟨g, 0, none⟩), .int .i64 t] w fun e w' => e = .returned (.tuple #[.agg #[.int .i64 (nextS t c.L).1, .int .i64 (nextS t c.L).2.1], .bool (nextS t c.L).2.2]) ∧ Stp [] w w' := by
  obtain ⟨A, cp, h0, h1, h2, h3, h4, h5, h6⟩ := h.cells
  have hg := h.lt
  have g1 := fun w h => gone_any g c t w h ok
  have kl := cntS_le t c.L
  have hl32 := ok.leaps.len
  unfold nextS
  have P := Lib.hid (And.intro g1 (And.intro h h6))
  have y0 : ∀ o, (w.alloc o).cell? ⟨g, 0, none⟩ = some (.slice A c.L.length cp) := fun o => (World.cell?_alloc_lt w o ⟨g, 0, none⟩ hg).trans h0
  have y3 : ∀ o, (w.alloc o).cell? ⟨g, 3, none⟩ = some (.bool true) := fun o => (World.cell?_alloc_lt w o ⟨g, 3, none⟩ hg).trans h3
  have Y := Lib.hid (And.intro y0 y3)
  clear g1 h h1 h2 h6 ok h0 h3 y0 y3
  generalize cntS t c.L = m at *
  by_cases hm : m < c.L.length
  · rw [dif_pos hm]
    obtain ⟨b, off, rfl, hbb, hbg, hcell⟩ := P.out.2.2.2 (by omega)
    have hx := pcells_get c.L m hm
    have hc1 : w.cell? ⟨b, off + m * 2, none⟩ = some (.int .i64 c.L[m].1) := hcell _ _ hx.1
    have hc2 : w.cell? ⟨b, off + m * 2 + 1, none⟩ = some (.int .i64 c.L[m].2) := hcell _ _ hx.2
    clear hx hcell kl
    generalize c.L[m] = y at *
    obtain ⟨y1, y2⟩ := y
    simp only at hc1 hc2 ⊢
    generalize c.L.length = n at *
    have hne : ((m : Int) == (n : Int)) = false := by simp; omega
    go_enter Try.func17, Try.ntmps17
    go_wp2_with fail
    refine (lnone_ptr _ _ (by exact Y.out.2 _)).mono ?_
    rintro e w1 ⟨rfl, rfl⟩
    go_wp2_with fail
    refine (P.out.1 _ (P.out.2.1.alloc _)).mono ?_
    rintro e w2 ⟨rfl, s2⟩
    have z0 := s2.cell (Y.out.1 _) (by simp)
    have z1 := s2.cell ((World.cell?_alloc_lt w _ ⟨b, off + m * 2, none⟩ hbb).trans hc1) (by simp)
    have z2 := s2.cell ((World.cell?_alloc_lt w _ ⟨b, off + m * 2 + 1, none⟩ hbb).trans hc2) (by simp)
    have bx := s2.at (show (w.alloc _).heap[w.heap.size]? = _ from Blk.new w 34 #[.int .i64 0, .int .i64 0]) (by simp)
    have f0 := free_at bx 0
    have f1 := free_at bx 1
    have u0 := cell_at bx 0
    have u1 := cell_at bx 1
    have BX := Lib.hid bx
    clear bx
    go_wp2_with fail
    refine bodyPost_ret (v := .tuple #[.agg #[.int .i64 y1, .int .i64 y2], .bool true]) ?_ rfl ⟨rfl, ?_⟩
    · have q0 := cell_at (set_at (set_at BX.out 0 (.int .i64 y1)) 1 (.int .i64 y2)) 0
      have q1 := cell_at (set_at (set_at BX.out 0 (.int .i64 y1)) 1 (.int .i64 y2)) 1
      simp at q0 q1
      simp [results, Try.results17, go_sem, q0, q1]
    · exact ((((Stp.refl [] w).alloc _).trans s2).setCell (.inr (by simp)) _).setCell (.inr (by simp)) _
  · rw [dif_neg hm]
    have hmn : m = c.L.length := by omega
    simp only
    rw [← hmn] at Y P
    have hz : Hid (m = c.L.length) := hmn
    clear hm hmn kl
    go_enter Try.func17, Try.ntmps17
    go_wp2_with fail
    refine (lnone_ptr _ _ (by exact Y.out.2 _)).mono ?_
    rintro e w1 ⟨rfl, rfl⟩
    go_wp2_with fail
    refine (P.out.1 _ (P.out.2.1.alloc _)).mono ?_
    rintro e w2 ⟨rfl, s2⟩
    have z0 := s2.cell (Y.out.1 _) (by simp)
    have bx := s2.at (show (w.alloc _).heap[w.heap.size]? = _ from Blk.new w 34 #[.int .i64 0, .int .i64 0]) (by simp)
    have f0 := free_at bx 0
    have f1 := free_at bx 1
    have u0 := cell_at bx 0
    have u1 := cell_at bx 1
    have BX := Lib.hid bx
    clear bx
    go_wp2_with fail
    refine bodyPost_ret (v := .tuple #[.agg #[.int .i64 0, .int .i64 0], .bool false]) ?_ rfl ⟨rfl, ?_⟩
    · have q0 := cell_at (set_at (set_at BX.out 0 (.int .i64 0)) 1 (.int .i64 0)) 0
      have q1 := cell_at (set_at (set_at BX.out 0 (.int .i64 0)) 1 (.int .i64 0)) 1
      simp at q0 q1
      simp [results, Try.results17, go_sem, q0, q1]
    · exact ((((Stp.refl [] w).alloc _).trans s2).setCell (.inr (by simp)) _).setCell (.inr (by simp)) _
end Go.Proofs.Ytkdpndoamepcbaa
