/- The document's numbers: numbers with a sign; of an int64, sums, the opposite. -/
import Derived.Test.YtkohpeonnoegpaaDigN
import Derived.Deep.RegionWith
namespace Go.Proofs.Ytkohpeonnoegpaa
open Go.RowKit
set_option linter.unusedVariables false
set_option linter.unusedSimpArgs false

theorem of_round {r : List Int} {k : Nat} {n : Int} (hr : r.length = k) : dval (r ++ [n % 65536]) + p65 (k + 1) * (n / 65536) = dval r + p65 k * n := by
  rw [dval_snoc, hr, p65_succ]
  have h : n = 65536 * (n / 65536) + n % 65536 := by omega
  generalize n / 65536 = q at *
  generalize n % 65536 = m at *
  generalize p65 k = P at *
  subst h
  grind
theorem of_canon {r : List Int} {n : Int} (dr : Dg r) (h0 : 0 ≤ n) (hn : n ≠ 0) : n / 65536 = 0 → Cn (r ++ [n % 65536]) := by
  intro h
  refine ⟨dr.snoc (by omega) (by omega), fun m d he => ?_⟩
  have := List.append_inj_right' he (by simp)
  simp at this
  omega
theorem of_short {r : List Int} {k : Nat} {n V : Int} (h : dval r + p65 k * n = V) (dr : Dg r) (hk : k ≤ 4) (hn : 0 < n) (hV : V < 18446744073709551616) : k ≤ 3 := by
  rcases Nat.lt_or_ge k 4 with h1 | h1
  · omega
  · have : k = 4 := by omega
    subst this
    have h2 := dval_nonneg dr
    rw [p65_4] at h
    omega
set_option maxHeartbeats 1000000 in
theorem dOf_any (a : Int) (w : World) (ha : -9223372036854775808 ≤ a ∧ a ≤ 9223372036854775807) :
    Calls Try.prog 50 #[.int .i64 a] w (NAns a w) := by
  obtain ⟨i0, hi, hz0, hz1, hz2⟩ := info_parts u32_info
  obtain ⟨a0, a1⟩ := ha
  by_cases hneg : a < 0
  · have hw1 : IntKind.u64.wrap a = a + 18446744073709551616 := by rw [IntKind.wrap_u64]; omega
    have hw2 : IntKind.u64.wrap (-(a + 18446744073709551616)) = -a := by rw [IntKind.wrap_u64]; omega
    go_enter Try.func50, Try.ntmps50
    go_wp2_with fail
    obtain ⟨q1, q2, st⟩ := big_two w (.bool false) (.slice none 0 0) (.bool true) (.slice none 0 0)
    go_loopw [3] (fun i wr => ∃ (k : Nat) (n : Int) (r : List Int) (v : Value), k ≤ 4 ∧ i = .int .u64 n ∧ (0 ≤ n ∧ n ≤ 18446744073709551615) ∧ r.length = k ∧ Hid (dval r + p65 k * n = -a ∧ Dg r ∧ (n = 0 → Cn r)) ∧ Hid (Blk wr w.heap.size 61 #[.bool false, .slice none 0 0] ∧ Blk wr (w.heap.size + 1) 61 #[.bool true, v] ∧ wr.ownsRow (w.heap.size + 1 + 1) 77 1 v k (r.map (Value.int .u32)) ∧ Stp [] w wr)) (fun i _ => (intOf i).toNat)
    case atStart => exact ⟨0, -a, [], .slice none 0 0, by omega, rfl, by omega, rfl, (by exact ⟨by simp [dval, p65_zero], Dg.nil, fun _ => Cn.nil⟩), (by exact ⟨q1, q2, World.ownsRow_nil _ _ _ _, st⟩)⟩
    case round =>
      obtain ⟨k, n, r, v, hk, rfl, ⟨n0, n1⟩, hr, F, H⟩ := hrel
      clear q1 q2 st
      obtain ⟨x0, x1, xf0, xf1⟩ := big_cells H.out.2.1
      by_cases hn : n = 0
      · subst hn
        have hown := H.out.2.2.1
        obtain ⟨A2, c2, rfl, e1, e2, e3⟩ := own_form (G := []) hown (by simp)
        obtain ⟨z0, z1, t0, t1⟩ := big_cells H.out.1
        have sf := set_big wr w.heap.size (.bool true) (.slice A2 k c2)
        obtain ⟨r0, r1, _, _⟩ := big_cells (big_set H.out.1 (.bool true) (.slice A2 k c2))
        have hc := F.out.2.2 rfl
        have dr : DRow wr A2 k r := ⟨e3, hr, F.out.2.1⟩
        have d3 : Num _ true A2 k c2 a := ⟨r, dr.far H.out.1 sf, e1, e2, hc, fun h => by
          first
            | rfl
            | (exfalso; have hv := F.out.1; have z : dval [] = 0 := rfl; rw [h, z, Int.mul_zero] at hv; omega), by
          have hv := F.out.1
          rw [Int.mul_zero] at hv
          simp [sval]
          try omega⟩
        have D3 := Lib.hid (And.intro d3 (H.out.2.2.2.far sf (.inr (Nat.le_refl _))))
        clear hown H F e1 e2 e3 sf hc dr d3
        go_wp2_with fail
        refine bodyPost_ret (v := .agg #[.bool true, .slice A2 k c2]) ?_ rfl ⟨true, A2, k, c2, rfl, D3.out.1, D3.out.2⟩
        simp [results, Try.results50, go_sem, r0, r1]
      · have k3 : k ≤ 3 := of_short F.out.1 F.out.2.1 hk (by omega) (by omega)
        have OR := of_round (n := n) hr
        have OC := of_canon F.out.2.1 n0 hn
        have F2 := Lib.hid (And.intro (OR.trans F.out.1) (And.intro (F.out.2.1.snoc (d := n % 65536) (by omega) (by omega)) OC))
        clear F OR OC
        go_wp2_with (at_builtin; refine wpList_append_own _ rfl _ _ 59 rfl (w.heap.size + 1 + 1) 77 i0 (.int .u32 0) 1 4 Try.underlying59 hi hz0 hz1 hz2 rfl (by decide) _ _ _ rfl (H.out.2.2.1.alloc _) ⟨wr.heap.size, 0, none⟩ 1 1 [.int .u32 (n % 65536)] rfl rfl (by intro j u hj; match j, hj with | 0, hj => (simp at hj; subst hj; simp [Addr.add])) (by intro u hu; simp at hu; subst hu; rfl) (by unfold maxLen; omega) (by omega) (by have := lt_of_at H.out.2.1; (try simp); omega) ?_)
        intro v' w2 hown' hgrow _
        have ne1 := own_blk_ne H.out.2.2.1 H.out.1 (by decide)
        have ne2 := own_blk_ne H.out.2.2.1 H.out.2.1 (by decide)
        have b1 := (H.out.1.alloc _).grown hgrow (Ne.symm ne1)
        have b2 := (H.out.2.1.alloc _).grown hgrow (Ne.symm ne2)
        have ne3 := own_blk_ne hown' b2 (by decide)
        have st2 := (H.out.2.2.2.alloc _).grown hgrow (fun k hk => .inr (Nat.le_trans (by omega) (dig_base H.out.2.2.1 hk)))
        obtain ⟨y0, y1, yf0, yf1⟩ := big_cells b2
        have Q := Lib.hid (And.intro (b1.far (p := ⟨w.heap.size + 1, 1, none⟩) (by simp) v') (And.intro (b2.set_ 1 v') (And.intro (own_far hown' (p := ⟨w.heap.size + 1, 1, none⟩) ne3 v') (st2.setCell (p := ⟨w.heap.size + 1, 1, none⟩) (.inr (by simp)) v'))))
        obtain ⟨A3, c3, rfl, _, _, _⟩ := own_form (G := []) hown' (by simp)
        clear hown' hgrow ne1 ne2 b1 b2 ne3 st2 H x0 x1 xf0 xf1
        go_wp2_with fail
        go_roundw
        case rel => exact ⟨k + 1, n / 65536, r ++ [n % 65536], .slice A3 (k + 1) c3, by omega, rfl, by omega, by simp; omega, (by exact F2.out), (by exact ⟨Q.out.1, Q.out.2.1, by rw [List.map_append]; exact Q.out.2.2.1, Q.out.2.2.2⟩)⟩
        case measure => simp [intOf]; omega
  · have hn0 : 0 ≤ a := by omega
    go_enter Try.func50, Try.ntmps50
    go_wp2_with fail
    obtain ⟨q1, q2, st⟩ := big_two w (.bool false) (.slice none 0 0) (.bool false) (.slice none 0 0)
    go_loopw [3] (fun i wr => ∃ (k : Nat) (n : Int) (r : List Int) (v : Value), k ≤ 4 ∧ i = .int .u64 n ∧ (0 ≤ n ∧ n ≤ 18446744073709551615) ∧ r.length = k ∧ Hid (dval r + p65 k * n = a ∧ Dg r ∧ (n = 0 → Cn r)) ∧ Hid (Blk wr w.heap.size 61 #[.bool false, .slice none 0 0] ∧ Blk wr (w.heap.size + 1) 61 #[.bool false, v] ∧ wr.ownsRow (w.heap.size + 1 + 1) 77 1 v k (r.map (Value.int .u32)) ∧ Stp [] w wr)) (fun i _ => (intOf i).toNat)
    case atStart => exact ⟨0, a, [], .slice none 0 0, by omega, rfl, by omega, rfl, (by exact ⟨by simp [dval, p65_zero], Dg.nil, fun _ => Cn.nil⟩), (by exact ⟨q1, q2, World.ownsRow_nil _ _ _ _, st⟩)⟩
    case round =>
      obtain ⟨k, n, r, v, hk, rfl, ⟨n0, n1⟩, hr, F, H⟩ := hrel
      clear q1 q2 st
      obtain ⟨x0, x1, xf0, xf1⟩ := big_cells H.out.2.1
      by_cases hn : n = 0
      · subst hn
        have hown := H.out.2.2.1
        obtain ⟨A2, c2, rfl, e1, e2, e3⟩ := own_form (G := []) hown (by simp)
        obtain ⟨z0, z1, t0, t1⟩ := big_cells H.out.1
        have sf := set_big wr w.heap.size (.bool false) (.slice A2 k c2)
        obtain ⟨r0, r1, _, _⟩ := big_cells (big_set H.out.1 (.bool false) (.slice A2 k c2))
        have hc := F.out.2.2 rfl
        have dr : DRow wr A2 k r := ⟨e3, hr, F.out.2.1⟩
        have d3 : Num _ false A2 k c2 a := ⟨r, dr.far H.out.1 sf, e1, e2, hc, fun h => by
          first
            | rfl
            | (exfalso; have hv := F.out.1; have z : dval [] = 0 := rfl; rw [h, z, Int.mul_zero] at hv; omega), by
          have hv := F.out.1
          rw [Int.mul_zero] at hv
          simp [sval]
          try omega⟩
        have D3 := Lib.hid (And.intro d3 (H.out.2.2.2.far sf (.inr (Nat.le_refl _))))
        clear hown H F e1 e2 e3 sf hc dr d3
        go_wp2_with fail
        refine bodyPost_ret (v := .agg #[.bool false, .slice A2 k c2]) ?_ rfl ⟨false, A2, k, c2, rfl, D3.out.1, D3.out.2⟩
        simp [results, Try.results50, go_sem, r0, r1]
      · have k3 : k ≤ 3 := of_short F.out.1 F.out.2.1 hk (by omega) (by omega)
        have OR := of_round (n := n) hr
        have OC := of_canon F.out.2.1 n0 hn
        have F2 := Lib.hid (And.intro (OR.trans F.out.1) (And.intro (F.out.2.1.snoc (d := n % 65536) (by omega) (by omega)) OC))
        clear F OR OC
        go_wp2_with (at_builtin; refine wpList_append_own _ rfl _ _ 59 rfl (w.heap.size + 1 + 1) 77 i0 (.int .u32 0) 1 4 Try.underlying59 hi hz0 hz1 hz2 rfl (by decide) _ _ _ rfl (H.out.2.2.1.alloc _) ⟨wr.heap.size, 0, none⟩ 1 1 [.int .u32 (n % 65536)] rfl rfl (by intro j u hj; match j, hj with | 0, hj => (simp at hj; subst hj; simp [Addr.add])) (by intro u hu; simp at hu; subst hu; rfl) (by unfold maxLen; omega) (by omega) (by have := lt_of_at H.out.2.1; (try simp); omega) ?_)
        intro v' w2 hown' hgrow _
        have ne1 := own_blk_ne H.out.2.2.1 H.out.1 (by decide)
        have ne2 := own_blk_ne H.out.2.2.1 H.out.2.1 (by decide)
        have b1 := (H.out.1.alloc _).grown hgrow (Ne.symm ne1)
        have b2 := (H.out.2.1.alloc _).grown hgrow (Ne.symm ne2)
        have ne3 := own_blk_ne hown' b2 (by decide)
        have st2 := (H.out.2.2.2.alloc _).grown hgrow (fun k hk => .inr (Nat.le_trans (by omega) (dig_base H.out.2.2.1 hk)))
        obtain ⟨y0, y1, yf0, yf1⟩ := big_cells b2
        have Q := Lib.hid (And.intro (b1.far (p := ⟨w.heap.size + 1, 1, none⟩) (by simp) v') (And.intro (b2.set_ 1 v') (And.intro (own_far hown' (p := ⟨w.heap.size + 1, 1, none⟩) ne3 v') (st2.setCell (p := ⟨w.heap.size + 1, 1, none⟩) (.inr (by simp)) v'))))
        obtain ⟨A3, c3, rfl, _, _, _⟩ := own_form (G := []) hown' (by simp)
        clear hown' hgrow ne1 ne2 b1 b2 ne3 st2 H x0 x1 xf0 xf1
        go_wp2_with fail
        go_roundw
        case rel => exact ⟨k + 1, n / 65536, r ++ [n % 65536], .slice A3 (k + 1) c3, by omega, rfl, by omega, by simp; omega, (by exact F2.out), (by exact ⟨Q.out.1, Q.out.2.1, by rw [List.map_append]; exact Q.out.2.2.1, Q.out.2.2.2⟩)⟩
        case measure => simp [intOf]; omega
end Go.Proofs.Ytkohpeonnoegpaa
