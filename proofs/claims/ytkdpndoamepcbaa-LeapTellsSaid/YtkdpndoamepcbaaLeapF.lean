/- leap: Vote. -/
import Derived.Test.YtkdpndoamepcbaaLeapE
import Derived.Laws.Rows
namespace Go.Proofs.Ytkdpndoamepcbaa
open Go.RowKit
set_option linter.unusedVariables false
set_option linter.unusedSimpArgs false

def cntB (b : Int) (l : List Int) : Int := ((l.filter fun x => decide (x = b)).length : Int)
theorem cntB_snoc (b : Int) (l : List Int) (x : Int) : cntB b (l ++ [x]) = cntB b l + if x = b then 1 else 0 := by
  unfold cntB
  rw [List.filter_append]
  by_cases h : x = b <;> simp [h]
theorem cntB_bd (b : Int) (l : List Int) : 0 ≤ cntB b l ∧ cntB b l ≤ l.length := by
  unfold cntB
  have := List.length_filter_le (fun x => decide (x = b)) l
  omega
def voteS (l : List Int) : Int × Bool :=
  if cntB 0 l + cntB 1 l + cntB 2 l < 2 * cntB 0 l then (0, true) else if cntB 0 l + cntB 1 l + cntB 2 l < 2 * cntB 1 l then (1, true) else if cntB 0 l + cntB 1 l + cntB 2 l < 2 * cntB 2 l then (2, true) else (0, false)

set_option maxHeartbeats 2000000 in
theorem vote_any (A : Option Addr) (n c : Nat) (l : List Int) (w : World) (hr : RowIn w A n 1 (l.map (Value.int .u8)) []) (hl : l.length = n) (hn : n ≤ 1000000) (hb : ∀ x ∈ l, 0 ≤ x ∧ x ≤ 255) :
    Calls Try.prog 10 #[.slice A n c] w fun e w' => e = .returned (.tuple #[.int .u8 (voteS l).1, .bool (voteS l).2]) ∧ Stp [] w w' := by
  have P := Lib.hid (And.intro hr (And.intro hl hb))
  obtain ⟨r1, r2, hv⟩ : ∃ r1 r2, voteS l = (r1, r2) := ⟨_, _, rfl⟩
  rw [hv]
  have HV := Lib.hid hv
  clear hr hl hb hv
  go_enter Try.func10, Try.ntmps10
  go_wp2_with fail
  go_loopw [5, 12] (fun va i wr => ∃ k : Nat, k ≤ n ∧ i = .int .i64 k ∧ va = .int .i64 (cntB 0 (l.take k) + cntB 1 (l.take k) + cntB 2 (l.take k)) ∧ Hid (Blk wr w.heap.size 70 #[.int .i64 (cntB 0 (l.take k)), .int .i64 (cntB 1 (l.take k)), .int .i64 (cntB 2 (l.take k))]) ∧ Stp [] w wr) (fun _ i _ => n - (intOf i).toNat)
  case atStart => exact ⟨0, Nat.zero_le _, rfl, rfl, Blk.new w _ _, (Stp.refl _ _).alloc _⟩
  case round =>
    obtain ⟨k, hk, rfl, rfl, B, ht⟩ := hrel
    have c0 := cntB_bd 0 (l.take k)
    have c1 := cntB_bd 1 (l.take k)
    have c2 := cntB_bd 2 (l.take k)
    have htk : (l.take k).length ≤ 1000000 := by simp; omega
    have T := Lib.hid ht
    have hsz := ht.size
    by_cases hlt : k < n
    · obtain ⟨b, off, rfl, hbb, hbg, hcell⟩ := P.out.1.2 (by omega)
      have hkl : k < l.length := by have := P.out.2.1; omega
      have hc : wr.cell? ⟨b, off + k, none⟩ = some (.int .u8 l[k]) := ht.cell (hcell k _ (by rw [List.getElem?_map, List.getElem?_eq_getElem hkl]; rfl)) (by simp)
      have hbk := P.out.2.2 l[k] (List.getElem_mem _)
      have s0 := cntB_snoc 0 (l.take k) l[k]
      have s1 := cntB_snoc 1 (l.take k) l[k]
      have s2 := cntB_snoc 2 (l.take k) l[k]
      rw [← List.take_succ_eq_append_getElem hkl] at s0 s1 s2
      generalize l[k] = x at *
      generalize cntB 0 (l.take k) = q0 at *
      generalize cntB 1 (l.take k) = q1 at *
      generalize cntB 2 (l.take k) = q2 at *
      have S := Lib.hid (And.intro s0 (And.intro s1 s2))
      have u0 := B.out.cell 0
      have u1 := B.out.cell 1
      have u2 := B.out.cell 2
      have f0 := B.out.frozen 0
      have f1 := B.out.frozen 1
      have f2 := B.out.frozen 2
      simp at u0 u1 u2
      obtain ⟨q00, q01⟩ := c0
      obtain ⟨q10, q11⟩ := c1
      obtain ⟨q20, q21⟩ := c2
      have x00 : q0 ≤ 1000000 := by omega
      have x01 : q1 ≤ 1000000 := by omega
      have x02 : q2 ≤ 1000000 := by omega
      clear s0 s1 s2 hcell ht hkl q01 q11 q21 htk
      obtain ⟨b0, b1⟩ := hbk
      by_cases h3 : x < 3
      · have hx : x = 0 ∨ x = 1 ∨ x = 2 := by omega
        rcases hx with rfl | rfl | rfl
        · go_wp2_with fail
          go_roundw
          case rel => exact ⟨k + 1, by omega, by go_num, by rw [S.out.1, S.out.2.1, S.out.2.2]; simp; omega, by show Blk _ _ _ _; rw [S.out.1, S.out.2.1, S.out.2.2]; simpa using B.out.set_ 0 (.int .i64 (q0 + 1)), T.out.setCell (.inr (by simp)) _⟩
          case measure => simp [intOf]; omega
        · go_wp2_with fail
          go_roundw
          case rel => exact ⟨k + 1, by omega, by go_num, by rw [S.out.1, S.out.2.1, S.out.2.2]; simp; omega, by show Blk _ _ _ _; rw [S.out.1, S.out.2.1, S.out.2.2]; simpa using B.out.set_ 1 (.int .i64 (q1 + 1)), T.out.setCell (.inr (by simp)) _⟩
          case measure => simp [intOf]; omega
        · go_wp2_with fail
          go_roundw
          case rel => exact ⟨k + 1, by omega, by go_num, by rw [S.out.1, S.out.2.1, S.out.2.2]; simp; omega, by show Blk _ _ _ _; rw [S.out.1, S.out.2.1, S.out.2.2]; simpa using B.out.set_ 2 (.int .i64 (q2 + 1)), T.out.setCell (.inr (by simp)) _⟩
          case measure => simp [intOf]; omega
      · have n0 : x ≠ 0 := by omega
        have n1 : x ≠ 1 := by omega
        have n2 : x ≠ 2 := by omega
        have S2 := Lib.hid (show cntB 0 (l.take (k + 1)) = q0 ∧ cntB 1 (l.take (k + 1)) = q1 ∧ cntB 2 (l.take (k + 1)) = q2 by
          have := S.out
          rw [if_neg n0, if_neg n1, if_neg n2] at this
          omega)
        clear n0 n1 n2
        go_wp2_with fail
        go_roundw
        case rel => exact ⟨k + 1, by omega, by go_num, by rw [S2.out.1, S2.out.2.1, S2.out.2.2], by show Blk _ _ _ _; rw [S2.out.1, S2.out.2.1, S2.out.2.2]; exact B.out, T.out⟩
        case measure => simp [intOf]; omega
    · have hkn : k = n := by omega
      have hlt' : ¬ (k : Int) < n := by omega
      rw [List.take_of_length_le (by have := P.out.2.1; omega)] at *
      have hv := HV.out
      unfold voteS at hv
      clear HV
      generalize cntB 0 l = q0 at *
      generalize cntB 1 l = q1 at *
      generalize cntB 2 l = q2 at *
      have BB : wr.heap[w.heap.size]? = some (.cells #[.int .i64 q0, .int .i64 q1, .int .i64 q2] 70 (0, 0)) := B.out
      have i0 : ∀ w, (Instr.index 70 (.agg #[.int .i64 q0, .int .i64 q1, .int .i64 q2]) (.int .i64 0)).run Try.prog w = .ok (.int .i64 q0) w := fun _ => by kernel_rfl
      have i1 : ∀ w, (Instr.index 70 (.agg #[.int .i64 q0, .int .i64 q1, .int .i64 q2]) (.int .i64 1)).run Try.prog w = .ok (.int .i64 q1) w := fun _ => by kernel_rfl
      have i2 : ∀ w, (Instr.index 70 (.agg #[.int .i64 q0, .int .i64 q1, .int .i64 q2]) (.int .i64 2)).run Try.prog w = .ok (.int .i64 q2) w := fun _ => by kernel_rfl
      have HBB := Lib.hid BB
      have u0 := B.out.cell 0
      have u1 := B.out.cell 1
      have u2 := B.out.cell 2
      simp at u0 u1 u2
      obtain ⟨q00, q01⟩ := c0
      obtain ⟨q10, q11⟩ := c1
      obtain ⟨q20, q21⟩ := c2
      have x00 : q0 ≤ 1000000 := by omega
      have x01 : q1 ≤ 1000000 := by omega
      have x02 : q2 ≤ 1000000 := by omega
      clear BB ht hkn hlt q01 q11 q21 htk
      by_cases h0 : q0 + q1 + q2 < 2 * q0
      · rw [if_pos h0] at hv
        obtain ⟨rfl, rfl⟩ := Prod.mk.inj hv
        clear hv
        go_wp2_with fail
        refine wp_loop_rounds 4 ?_
        rw [rounds_succ]
        go_wp2_with fail
        go_ret2
        exact ⟨rfl, T.out⟩
      · rw [if_neg h0] at hv
        by_cases h1 : q0 + q1 + q2 < 2 * q1
        · rw [if_pos h1] at hv
          obtain ⟨rfl, rfl⟩ := Prod.mk.inj hv
          clear hv
          go_wp2_with fail
          refine wp_loop_rounds 4 ?_
          rw [rounds_succ]
          go_wp2_with fail
          rw [rounds_succ]
          go_wp2_with fail
          go_ret2
          exact ⟨rfl, T.out⟩
        · rw [if_neg h1] at hv
          by_cases h2 : q0 + q1 + q2 < 2 * q2
          · rw [if_pos h2] at hv
            obtain ⟨rfl, rfl⟩ := Prod.mk.inj hv
            clear hv
            go_wp2_with fail
            refine wp_loop_rounds 4 ?_
            rw [rounds_succ]
            go_wp2_with fail
            rw [rounds_succ]
            go_wp2_with fail
            rw [rounds_succ]
            go_wp2_with fail
            go_ret2
            exact ⟨rfl, T.out⟩
          · rw [if_neg h2] at hv
            obtain ⟨rfl, rfl⟩ := Prod.mk.inj hv
            clear hv
            go_wp2_with fail
            refine wp_loop_rounds 4 ?_
            rw [rounds_succ]
            go_wp2_with fail
            rw [rounds_succ]
            go_wp2_with fail
            rw [rounds_succ]
            go_wp2_with fail
            rw [rounds_succ]
            go_wp2_with fail
            go_ret2
            exact ⟨rfl, T.out⟩
end Go.Proofs.Ytkdpndoamepcbaa
