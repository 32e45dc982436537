/- SmearForward: the smeared time goes on by what passes, but for an 86400th of it and 1; for any leaps that are told by gaps, any instant and any stretch. -/
import Derived.Test.YtbjjfjgomkmdhaaSmearF
import Derived.Test.YtbjjfjgomkmdhaaSmearG
namespace Go.Proofs.Ytbjjfjgomkmdhaa
open Go.RowKit
set_option linter.unusedVariables false
set_option linter.unusedSimpArgs false

def touchS (t d : Int) (L : List (Int × Int)) : Bool := L.any fun x => decide (t < x.1 + 43200000000000) && decide (x.1 - 43200000000000 < t + d)
def sumS (L : List (Int × Int)) : Int := (L.map (·.2)).sum
theorem touch_step {L : List (Int × Int)} {k : Nat} (hk : k < L.length) (t d : Int) : touchS t d (L.take (k + 1)) = (touchS t d (L.take k) || (decide (t < L[k].1 + 43200000000000) && decide (L[k].1 - 43200000000000 < t + d))) ∧ sumS (L.take (k + 1)) = sumS (L.take k) + L[k].2 := by
  rw [List.take_succ_eq_append_getElem hk]
  exact ⟨by simp only [touchS, List.any_append, List.any_cons, List.any_nil, Bool.or_false], by simp only [sumS, List.map_append, List.sum_append, List.map_cons, List.map_nil, List.sum_cons, List.sum_nil]; omega⟩
theorem taken_end : ∀ {L : List (Int × Int)} {t : Int}, (∀ x ∈ L, x.1 + 43200000000000 ≤ t) → takenS t L = sumS L * 1000000000
  | [], _, _ => rfl
  | x :: L, t, h => by
    have ih := taken_end (L := L) (t := t) (fun y hy => h y (List.mem_cons_of_mem _ hy))
    have hx := h x (List.mem_cons_self ..)
    have e : goneS t x.1 = 86400000000000 := by rw [goneS_mm]; omega
    have es : sumS (x :: L) = x.2 + sumS L := by simp [sumS]
    rw [takenS_cons, ih, es]
    unfold oneS
    rw [e]
    omega
theorem taken_still : ∀ {L : List (Int × Int)} {t s : Int}, t ≤ s → (∀ x ∈ L, x.1 + 43200000000000 ≤ t ∨ s ≤ x.1 - 43200000000000) → takenS s L = takenS t L
  | [], _, _, _, _ => rfl
  | x :: L, t, s, hts, h => by
    have ih := taken_still (L := L) hts (fun y hy => h y (List.mem_cons_of_mem _ hy))
    have hx := h x (List.mem_cons_self ..)
    have e : goneS s x.1 = goneS t x.1 := by rw [goneS_mm, goneS_mm]; omega
    rw [takenS_cons, takenS_cons, ih]
    unfold oneS
    rw [e]
theorem sum_bd : ∀ {L : List (Int × Int)}, (∀ x ∈ L, x.2 = 1 ∨ x.2 = -1) → -(L.length : Int) ≤ sumS L ∧ sumS L ≤ L.length
  | [], _ => by simp [sumS]
  | x :: L, h => by
    have h1 := sum_bd (L := L) (fun y hy => h y (List.mem_cons_of_mem _ hy))
    have h2 := h x (List.mem_cons_self ..)
    have es : sumS (x :: L) = x.2 + sumS L := by simp [sumS]
    rw [es, List.length_cons]
    omega

theorem forward_facts {M : List (Int × Int)} (ok : LOk M) {t d : Int} (t0 : 0 ≤ t) (t1 : t < 2305843009213693952) (d0 : 0 ≤ d) (d1 : d < 2305843009213693952) :
    0 ≤ toS M (t + d) - toS M t ∧ d - d / 86400 - 1 ≤ toS M (t + d) - toS M t ∧ toS M (t + d) - toS M t ≤ d + d / 86400 + 1 ∧ (touchS t d M = false → toS M (t + d) - toS M t = d) := by
  have h := takenS_lip ok (show t ≤ t + d by omega)
  rw [toS_in (by omega) (by omega), toS_in (by omega) (by omega)]
  have e : t + d - t = d := by omega
  rw [e] at h
  refine ⟨by omega, by omega, by omega, fun hn => ?_⟩
  have := taken_still (L := M) (show t ≤ t + d by omega) (fun x hx => by
    have h2 := List.any_eq_false.1 hn x hx
    simp at h2
    omega)
  omega

set_option maxRecDepth 100000 in
set_option maxHeartbeats 2000000 in
theorem smearForward_walk (A : Option Addr) (n c : Nat) (l : List (Int × Bool)) (t0 d0 : Int) (w : World) (hr : Reads w w.heap.size 2 A n (gcells l)) (hl : l.length = n) (hn : n * 4 ≤ 140737488351232) (hb : ∀ x ∈ l, 0 ≤ x.1 ∧ x.1 ≤ 65535) (ht0 : -9223372036854775808 ≤ t0 ∧ t0 ≤ 9223372036854775807) (hd0 : -9223372036854775808 ≤ d0 ∧ d0 ≤ 9223372036854775807) :
    Calls Try.prog 3 #[.slice A n c, .int .i64 t0, .int .i64 d0] w fun e w' => e = .returned (.bool true) ∧ Stp [] w w' := by
  have m1 := made_any A n c l w hr hl hn hb
  obtain ⟨ok, hfar⟩ := made_ok l
  generalize madeL l = M at *
  have hm := i64_mask61 t0
  have hm2 := i64_mask61 d0
  obtain ⟨t, ht⟩ : ∃ t, t0 % 2305843009213693952 = t := ⟨_, rfl⟩
  obtain ⟨d, hd⟩ : ∃ d, d0 % 2305843009213693952 = d := ⟨_, rfl⟩
  rw [ht] at hm
  rw [hd] at hm2
  have t0b : 0 ≤ t := by omega
  have t1b : t < 2305843009213693952 := by omega
  have d0b : 0 ≤ d := by omega
  have d1b : d < 2305843009213693952 := by omega
  have ff := forward_facts ok t0b t1b d0b d1b
  have bd1 := toS_bd ok (t + d)
  have bd2 := toS_bd ok t
  have e1 : toS M 4611686018427387904 = 4611686018427387904 - sumS M * 1000000000 := by
    rw [toS_in (by decide) (by decide), taken_end (fun x hx => by have := hfar x hx; omega)]
  have e2 : toS M 0 = 0 := by rw [toS_in (by decide) (by decide), taken_zero ok (by decide)]; rfl
  have x1 := fun w g h => to_any g M (t + d) w h ok
  have x2 := fun w g h => to_any g M t w h ok
  have x3 := fun w g h => to_is (w := w) (g := g) h ok e1
  have x4 := fun w g h => to_is (w := w) (g := g) h ok e2
  generalize toS M (t + d) = v1 at *
  generalize toS M t = v2 at *
  obtain ⟨gn, hgn⟩ : ∃ gn, v1 - v2 = gn := ⟨_, rfl⟩
  rw [hgn] at ff
  obtain ⟨f1, f2, f3, f4⟩ := ff
  obtain ⟨q, hq⟩ : ∃ q, d / 86400 = q := ⟨_, rfl⟩
  have q0 : 0 ≤ q := by omega
  have q1 : q ≤ 26687997791825 := by omega
  rw [hq] at f2 f3
  have P := Lib.hid (And.intro m1 (And.intro x1 (And.intro x2 (And.intro x3 (And.intro x4 (And.intro ok f4))))))
  have g1 : ¬ gn < d - q - 1 := by omega
  have g2 : ¬ d + q + 1 < gn := by omega
  have g0 : ¬ gn < 0 := by omega
  have v10 := bd1.1
  have v11 := bd1.2
  have v20 := bd2.1
  have v21 := bd2.2
  clear m1 x1 x2 x3 x4 f4 bd1 bd2 e1 e2 hfar ht hd hr hl hb ht0 hd0 hn f1 f2 f3 ok
  go_enter Try.func3, Try.ntmps3
  go_wp2_with fail
  refine P.out.1.mono ?_
  rintro e w1 ⟨g, A2, c2, rfl, a1, hrow, s1, _, k1, k2⟩
  go_wp2_with fail
  refine (awake_any _).mono ?_
  rintro e w2 ⟨rfl, s2⟩
  have a2 := a1.stp s2
  have r2 := hrow.stp s2
  have z2 := s1.trans s2
  clear a1 s1 s2 hrow
  go_wp2_with fail
  refine (P.out.2.1 _ _ a2).mono ?_
  rintro e w3 ⟨rfl, s3⟩
  have a3 := a2.stp s3
  have r3 := r2.stp s3
  have z3 := z2.trans s3
  clear a2 r2 z2 s3
  go_wp2_with fail
  refine (P.out.2.2.1 _ _ a3).mono ?_
  rintro e w4 ⟨rfl, s4⟩
  have a4 := a3.stp s4
  have r4 := r3.stp s4
  have z4 := z3.trans s4
  have R := Lib.hid (And.intro a4 (And.intro r4 z4))
  clear a3 r3 z3 s4 a4 r4 z4
  go_wp2_with fail
  have HGN := Lib.hid hgn
  clear hgn hq hm hm2 g0 g1 g2
  go_loopw [10, 11, 60] (fun vt vs i wr => ∃ k : Nat, k ≤ M.length ∧ i = .int .i64 k ∧ vt = .bool (touchS t d (M.take k)) ∧ vs = .int .i64 (sumS (M.take k) * 1000000000) ∧ Stp [] w4 wr) (fun _ _ i _ => M.length - (intOf i).toNat)
  case atStart => exact ⟨0, Nat.zero_le _, rfl, rfl, rfl, Stp.refl _ _⟩
  case round =>
    obtain ⟨k, hk, rfl, rfl, rfl, hst⟩ := hrel
    have hl32 := P.out.2.2.2.2.2.1.len
    by_cases hlt : k < M.length
    · obtain ⟨b, off, rfl, hbb, hbg, hcell⟩ := R.out.2.1.2 (by omega)
      have hx := pcells_get M k hlt
      have hc1 : wr.cell? ⟨b, off + k * 2, none⟩ = some (.int .i64 M[k].1) := hst.cell (hcell _ _ hx.1) (by simp)
      have hc2 : wr.cell? ⟨b, off + k * 2 + 1, none⟩ = some (.int .i64 M[k].2) := hst.cell (hcell _ _ hx.2) (by simp)
      have hbk := P.out.2.2.2.2.2.1.each M[k] (List.getElem_mem _)
      have hs := touch_step hlt t d
      have sb := sum_bd (L := M.take k) (fun x hx => (P.out.2.2.2.2.2.1.each x (List.mem_of_mem_take hx)).2.2)
      have htk : (M.take k).length ≤ 32 := by simp; omega
      clear hx hcell
      generalize M[k] = y at *
      obtain ⟨y1, y2⟩ := y
      simp only at hc1 hc2 hs hbk
      obtain ⟨b0, b1, b2⟩ := hbk
      have S := Lib.hid (And.intro hs.1 hs.2)
      clear hs
      generalize sumS (M.take k) = q2 at *
      have q20 : -32 ≤ q2 := by omega
      have q21 : q2 ≤ 32 := by omega
      have y20 : -1 ≤ y2 := by omega
      have y21 : y2 ≤ 1 := by omega
      have e3 : q2 * 1000000000 + y2 * 1000000000 = (q2 + y2) * 1000000000 := by omega
      have E3 := Lib.hid e3
      clear sb htk b2 e3
      cases hT : touchS t d (M.take k) with
      | true =>
        have hS1 : touchS t d (M.take (k + 1)) = true := by rw [S.out.1, hT]; rfl
        have HS1 := Lib.hid hS1
        clear hS1 hT
        go_wp2_with fail
        go_roundw
        case rel => exact ⟨k + 1, by omega, by go_num, by rw [HS1.out], by rw [S.out.2, ← E3.out], hst.alloc _⟩
        case measure => simp [intOf]; omega
      | false =>
        have hS1 : touchS t d (M.take (k + 1)) = (decide (t < y1 + 43200000000000) && decide (y1 - 43200000000000 < t + d)) := by rw [S.out.1, hT]; rfl
        have HS1 := Lib.hid hS1
        clear hS1 hT
        by_cases c1 : t < y1 + 43200000000000
        · by_cases c2' : y1 - 43200000000000 < t + d
          · have D1 := Lib.hid (show touchS t d (M.take (k + 1)) = true by rw [HS1.out]; simp [c1, c2'])
            go_wp2_with fail
            go_roundw
            case rel => exact ⟨k + 1, by omega, by go_num, by rw [D1.out], by rw [S.out.2, ← E3.out], hst.alloc _⟩
            case measure => simp [intOf]; omega
          · have D1 := Lib.hid (show touchS t d (M.take (k + 1)) = false by rw [HS1.out]; simp [c1, c2'])
            go_wp2_with fail
            go_roundw
            case rel => exact ⟨k + 1, by omega, by go_num, by rw [D1.out], by rw [S.out.2, ← E3.out], hst.alloc _⟩
            case measure => simp [intOf]; omega
        · have D1 := Lib.hid (show touchS t d (M.take (k + 1)) = false by rw [HS1.out]; simp [c1])
          go_wp2_with fail
          go_roundw
          case rel => exact ⟨k + 1, by omega, by go_num, by rw [D1.out], by rw [S.out.2, ← E3.out], hst.alloc _⟩
          case measure => simp [intOf]; omega
    · obtain rfl : k = M.length := by omega
      have hT := P.out.2.2.2.2.2.2
      have sb := sum_bd (L := M) (fun x hx => (P.out.2.2.2.2.2.1.each x hx).2.2)
      rw [List.take_length]
      have X3 := Lib.hid (P.out.2.2.2.1)
      have X4 := Lib.hid (P.out.2.2.2.2.1)
      have R1 := R.out.1
      have zz := R.out.2.2.trans hst
      have R5 := Lib.hid (And.intro (R1.stp hst) zz)
      clear P R R1 zz hst
      generalize touchS t d M = T at *
      generalize sumS M = q2 at *
      have q20 : -32 ≤ q2 := by omega
      have q21 : q2 ≤ 32 := by omega
      clear sb
      have hcase : T = true ∨ T = false ∧ gn = d := by
        cases T with
        | true => exact .inl rfl
        | false => exact .inr ⟨rfl, hT rfl⟩
      clear hT
      have hgn' : v1 - v2 = gn := HGN.out
      rcases hcase with rfl | ⟨rfl, rfl⟩
      all_goals
        go_wp2_with fail
        refine (X3.out _ _ R5.out.1).mono ?_
        rintro e w6 ⟨rfl, s6⟩
        go_wp2_with fail
        refine (X4.out _ _ (R5.out.1.stp s6)).mono ?_
        rintro e w7 ⟨rfl, s7⟩
        go_wp2_with fail
        go_ret
        exact ⟨rfl, (R5.out.2.trans s6).trans s7⟩
end Go.Proofs.Ytbjjfjgomkmdhaa
