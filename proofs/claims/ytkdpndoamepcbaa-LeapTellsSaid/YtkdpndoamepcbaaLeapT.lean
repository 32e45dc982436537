/- leap: the document's table: Next, Bits, Even. -/
import Derived.Test.YtkdpndoamepcbaaLeapR
namespace Go.Proofs.Ytkdpndoamepcbaa
open Go.RowKit
set_option linter.unusedVariables false
set_option linter.unusedSimpArgs false

theorem cnt_eq {t : Int} : ∀ {L : List (Int × Int)} {k : Nat} (hk : k < L.length), (∀ j (hj : j < k) (hj2 : j < L.length), L[j].1 ≤ t) → t < L[k].1 → cntS t L = k
  | x :: l, 0, hk, _, h => by
    have e : cntS t (x :: l) = if x.1 ≤ t then cntS t l + 1 else 0 := rfl
    simp at h
    rw [e, if_neg (by omega)]
  | x :: l, k + 1, hk, hno, h => by
    have e : cntS t (x :: l) = if x.1 ≤ t then cntS t l + 1 else 0 := rfl
    have h0 : x.1 ≤ t := hno 0 (by omega) (by simp)
    rw [e, if_pos h0, cnt_eq (k := k) (by simpa using hk) (fun j hj hj2 => by have := hno (j + 1) (by omega) (by simp; omega); simpa using this) (by simpa using h)]
theorem cnt_all {t : Int} : ∀ {L : List (Int × Int)}, (∀ j (hj2 : j < L.length), L[j].1 ≤ t) → cntS t L = L.length
  | [], _ => rfl
  | x :: l, hno => by
    have e : cntS t (x :: l) = if x.1 ≤ t then cntS t l + 1 else 0 := rfl
    have h0 : x.1 ≤ t := hno 0 (by simp)
    rw [e, if_pos h0, cnt_all (fun j hj2 => by have := hno (j + 1) (by simp; omega); simpa using this)]
    rfl
set_option maxHeartbeats 2000000 in
theorem rnext_any (g : Nat) (c : LT) (t : Int) (w : World) (h : c.rat w g) (ok : c.ok) :
    Calls Try.prog 36 #[.pointer (some ⟨g, 0, none⟩), .int .i64 t] w fun e w' => e = .returned (.tuple #[.agg #[.int .i64 (nextS t c.L).1, .int .i64 (nextS t c.L).2.1], .bool (nextS t c.L).2.2]) ∧ Stp [] w w' := by
  obtain ⟨A, cp, h0, h1, h2, h3, h4, h5⟩ := h.cells
  have hg := h.lt
  have bx := Blk.new w 34 #[.int .i64 0, .int .i64 0]
  have P := Lib.hid (And.intro h5 bx)
  have hl := ok.leaps.len
  obtain ⟨⟨p1, p2, p3⟩, hR⟩ : ∃ R, nextS t c.L = R := ⟨_, rfl⟩
  rw [hR]
  have HR := Lib.hid hR
  have y0 : (w.alloc (.cells #[.int .i64 0, .int .i64 0] 34)).cell? ⟨g, 0, none⟩ = some (.slice A c.L.length cp) := (World.cell?_alloc_lt w _ ⟨g, 0, none⟩ hg).trans h0
  have f0 := bx.frozen 0
  have f1 := bx.frozen 1
  have u0 := bx.cell 0
  have u1 := bx.cell 1
  have hst := Lib.hid ((Stp.refl [] w).alloc (.cells #[.int .i64 0, .int .i64 0] 34))
  clear h h5 h3 h4 ok h1 hR h0 h2 bx
  generalize hW : w.alloc (.cells #[.int .i64 0, .int .i64 0] 34) = W at *
  have HW := Lib.hid hW
  clear hW
  generalize hn : c.L.length = n at *
  go_enter Try.func36, Try.ntmps36
  go_wp2_with fail
  rw [HW.out]
  go_loopw [6] (fun i wr => ∃ k : Nat, k ≤ n ∧ i = .int .i64 k ∧ Hid (∀ j (hj : j < k) (hj2 : j < c.L.length), c.L[j].1 ≤ t) ∧ wr = W) (fun i _ => n - (intOf i).toNat)
  case atStart => exact ⟨0, Nat.zero_le _, rfl, (by intro j hj; exact absurd hj (by omega)), rfl⟩
  case round =>
    obtain ⟨k, hk, rfl, H, rfl⟩ := hrel
    by_cases hlt : k < n
    · obtain ⟨b, off, rfl, hbb, hbg, hcell⟩ := P.out.1.2 (by omega)
      have hkl : k < c.L.length := by omega
      have hx := pcells_get c.L k hkl
      have hc1 : wr.cell? ⟨b, off + k * 2, none⟩ = some (.int .i64 c.L[k].1) := by rw [← HW.out]; exact (World.cell?_alloc_lt w _ ⟨b, off + k * 2, none⟩ hbb).trans (hcell _ _ hx.1)
      have hc2 : wr.cell? ⟨b, off + k * 2 + 1, none⟩ = some (.int .i64 c.L[k].2) := by rw [← HW.out]; exact (World.cell?_alloc_lt w _ ⟨b, off + k * 2 + 1, none⟩ hbb).trans (hcell _ _ hx.2)
      have YES := Lib.hid (fun (h : t < c.L[k].1) => (show nextS t c.L = (c.L[k].1, c.L[k].2, true) by
        have e := cnt_eq hkl H.out h
        unfold nextS
        rw [dif_pos (by omega)]
        simp only [e]))
      have NO := Lib.hid (fun (h : c.L[k].1 ≤ t) => (show ∀ j (hj : j < k + 1) (hj2 : j < c.L.length), c.L[j].1 ≤ t from fun j hj hj2 => by
        rcases Nat.lt_or_ge j k with h1 | h1
        · exact H.out j h1 hj2
        · obtain rfl : j = k := by omega
          exact h))
      clear hx hcell H
      generalize c.L[k] = y at *
      obtain ⟨y1, y2⟩ := y
      simp only at hc1 hc2 YES NO
      by_cases hle : t < y1
      · have e := YES.out hle
        rw [HR.out] at e
        injection e with e1 e2
        injection e2 with e2 e3
        subst e1 e2 e3
        clear YES NO HR
        go_wp2_with fail
        refine bodyPost_ret (v := .tuple #[.agg #[.int .i64 p1, .int .i64 p2], .bool true]) ?_ rfl ⟨rfl, ?_⟩
        · have q0 := cell_at (set_at (set_at P.out.2 0 (.int .i64 p1)) 1 (.int .i64 p2)) 0
          have q1 := cell_at (set_at (set_at P.out.2 0 (.int .i64 p1)) 1 (.int .i64 p2)) 1
          simp at q0 q1
          simp [results, Try.results36, go_sem, q0, q1]
        · exact (hst.out.setCell (.inr (Nat.le_refl _)) _).setCell (.inr (Nat.le_refl _)) _
      · have N := Lib.hid (NO.out (by omega))
        clear YES NO
        go_wp2_with fail
        go_roundw
        case rel => exact ⟨k + 1, by omega, by go_num, N.out, (by first | rfl | trivial)⟩
        case measure => simp [intOf]; omega
    · obtain rfl : k = n := by omega
      have e : nextS t c.L = (0, 0, false) := by
        have e := cnt_all (fun j hj2 => H.out j (by omega) hj2)
        unfold nextS
        rw [dif_neg (by omega)]
      rw [HR.out] at e
      injection e with e1 e2
      injection e2 with e2 e3
      subst e1 e2 e3
      clear HR H
      go_wp2_with fail
      refine bodyPost_ret (v := .tuple #[.agg #[.int .i64 0, .int .i64 0], .bool false]) ?_ rfl ⟨rfl, ?_⟩
      · have q0 := cell_at (set_at (set_at P.out.2 0 (.int .i64 0)) 1 (.int .i64 0)) 0
        have q1 := cell_at (set_at (set_at P.out.2 0 (.int .i64 0)) 1 (.int .i64 0)) 1
        simp at q0 q1
        simp [results, Try.results36, go_sem, q0, q1]
      · exact (hst.out.setCell (.inr (Nat.le_refl _)) _).setCell (.inr (Nat.le_refl _)) _

set_option maxHeartbeats 2000000 in
theorem rbits_any (g : Nat) (c : LT) (t : Int) (w : World) (h : c.rat w g) (ok : c.ok) (ht : -4611686018427387903 ≤ t ∧ t ≤ 4611686018427387904) :
    Calls Try.prog 38 #[.pointer (some ⟨g, 0, none⟩), .int .i64 t] w fun e w' => e = .returned (.int .u8 (bitsS c t)) ∧ Stp [] w w' := by
  obtain ⟨A, cp, h0, h1, h2, h3, h4, h5⟩ := h.cells
  have N := Lib.hid (rnext_any g c t w h ok)
  have nf := nextS_facts ok t
  unfold bitsS
  generalize nextS t c.L = q at *
  obtain ⟨q1, q2, q3⟩ := q
  simp only at nf N ⊢
  obtain ⟨t0, t1⟩ := ht
  obtain ⟨n0, n1, n2, n3⟩ := nf
  clear h h5 ok h0 h2 h3 h4
  by_cases a1 : c.ex ≤ t
  · rw [if_pos a1]
    go_enter Try.func38, Try.ntmps38
    go_wp2_with fail
    go_ret
    exact ⟨rfl, by first | exact Stp.refl _ _ | exact (Stp.refl _ _).alloc _⟩
  · rw [if_neg a1]
    have hw : wrap64 (q1 - 86400000000000) = q1 - 86400000000000 := wrap64_id (by omega) (by omega)
    cases q3 with
    | false =>
      rw [if_pos (.inl rfl)]
      go_enter Try.func38, Try.ntmps38
      go_wp2_with fail
      refine N.out.mono ?_
      rintro e w1 ⟨rfl, s1⟩
      go_wp2_with fail
      go_ret
      exact ⟨rfl, by first | exact s1 | exact s1.alloc _⟩
    | true =>
      by_cases a2 : 86400000000000 < q1 - t
      · rw [if_pos (.inr a2)]
        have hd : decide (t < q1 - 86400000000000) = true := decide_eq_true (by omega)
        go_enter Try.func38, Try.ntmps38
        go_wp2_with fail
        refine N.out.mono ?_
        rintro e w1 ⟨rfl, s1⟩
        go_wp2_with fail
        go_ret
        exact ⟨rfl, by first | exact s1 | exact s1.alloc _⟩
      · rw [if_neg (by simp; omega)]
        have hd : decide (t < q1 - 86400000000000) = false := decide_eq_false (by omega)
        by_cases a3 : 0 < q2
        · rw [if_pos a3]
          obtain rfl : q2 = 1 := by omega
          go_enter Try.func38, Try.ntmps38
          go_wp2_with fail
          refine N.out.mono ?_
          rintro e w1 ⟨rfl, s1⟩
          go_wp2_with fail
          go_ret
          exact ⟨rfl, by first | exact s1 | exact s1.alloc _⟩
        · rw [if_neg a3]
          have ne : (q2 == 1) = false := by simp; omega
          go_enter Try.func38, Try.ntmps38
          go_wp2_with fail
          refine N.out.mono ?_
          rintro e w1 ⟨rfl, s1⟩
          go_wp2_with fail
          go_ret
          exact ⟨rfl, by first | exact s1 | exact s1.alloc _⟩

theorem has_off {c : LT} (ok : c.ok) {label u : Int} {ins : Bool} (hu : hasS c label ins u) : ∃ m, -1040 ≤ m ∧ m ≤ 1040 ∧ label + m * 1000000000 = u := by
  refine ⟨c.base + kS u c.L, ?_, ?_, ?_⟩
  · have := kS_bd ok.leaps u; have := ok.b0; omega
  · have := kS_bd ok.leaps u; have := ok.b1; omega
  · obtain ⟨_, _, h, _⟩ := hu
    rw [← h]
    unfold labelS
    omega
/-- What Even of both tells. -/
def evenP (c : LT) (label : Int) (ins : Bool) (r : Int × Bool) : Prop :=
  (r.2 = true ∧ hasS c label ins r.1) ∨ (r = (0, false) ∧ ∀ u, ¬ hasS c label ins u)
set_option maxHeartbeats 2000000 in
theorem reven_any (g : Nat) (c : LT) (label : Int) (ins : Bool) (r : Int × Bool) (w : World) (h : c.rat w g) (ok : c.ok) (hlb : -4611686018427387904 < label ∧ label < 4611686018427387904) (hr : evenP c label ins r) :
    Calls Try.prog 39 #[.pointer (some ⟨g, 0, none⟩), .int .i64 label, .bool ins] w fun e w' => e = .returned (.tuple #[.int .i64 r.1, .bool r.2]) ∧ w' = w := by
  have L := Lib.hid (fun (t : Int) (ht : -4611700000000000000 ≤ t ∧ t ≤ 4611700000000000000) => rlabel_any g c t w h ok ht)
  have OK := Lib.hid ok
  have HR := Lib.hid hr
  obtain ⟨r1, r2⟩ := r
  obtain ⟨l0, l1⟩ := hlb
  clear h ok hr
  go_enter Try.func39, Try.ntmps39
  go_wp2_with fail
  go_loopw [8, 9] (fun bv i wr => ∃ (n b : Int), (-1040 ≤ n ∧ n ≤ 1041) ∧ i = .int .i64 n ∧ bv = .int .i64 b ∧ (-1 ≤ b ∧ b ≤ 4611686018427387904) ∧ Hid ((b = -1 ∧ ∀ m, -1040 ≤ m → m < n → ¬ hasS c label ins (label + m * 1000000000)) ∨ hasS c label ins b) ∧ wr = w) (fun _ i _ => (1041 - intOf i).toNat)
  case atStart => exact ⟨-1040, -1, by decide, rfl, rfl, by decide, (by exact .inl ⟨rfl, fun m h1 h2 => by omega⟩), rfl⟩
  case round =>
    obtain ⟨n, b, ⟨n0, n1⟩, rfl, rfl, ⟨b0, b1⟩, H, rfl⟩ := hrel
    by_cases hlt : n ≤ 1040
    · obtain ⟨t, ht⟩ : ∃ t, label + n * 1000000000 = t := ⟨_, rfl⟩
      have hw : wrap64 (n * 1000000000) = n * 1000000000 := wrap64_id (by omega) (by omega)
      have hw2 : wrap64 (label + n * 1000000000) = t := by rw [ht]; exact wrap64_id (by omega) (by omega)
      have NO := Lib.hid (fun (h : ¬ hasS c label ins t) => (show (b = -1 ∧ ∀ m, -1040 ≤ m → m < n + 1 → ¬ hasS c label ins (label + m * 1000000000)) ∨ hasS c label ins b from by
        rcases H.out with ⟨h1, h2⟩ | h1
        · refine .inl ⟨h1, fun m m0 m1 => ?_⟩
          rcases Int.lt_or_le m n with h3 | h3
          · exact h2 m m0 h3
          · obtain rfl : m = n := by omega
            rw [ht]
            exact h
        · exact .inr h1))
      by_cases r0 : t < 0
      · have N := Lib.hid (NO.out (fun h => by have := h.1; omega))
        clear NO H
        go_wp2_with fail
        go_roundw
        case rel => exact ⟨n + 1, b, by omega, by go_num, rfl, by omega, N.out, (by first | rfl | trivial)⟩
        case measure => simp [intOf]; omega
      · by_cases r1' : 4611686018427387904 < t
        · have N := Lib.hid (NO.out (fun h => by have := h.2.1; omega))
          clear NO H
          go_wp2_with fail
          go_roundw
          case rel => exact ⟨n + 1, b, by omega, by go_num, rfl, by omega, N.out, (by first | rfl | trivial)⟩
          case measure => simp [intOf]; omega
        · have L1 := Lib.hid (L.out t (by omega))
          have HAS := Lib.hid (fun (h1 : labelS c.base c.L t = label) (h2 : insS t c.L = ins) => (show hasS c label ins t from ⟨by omega, by omega, h1, h2⟩))
          have NOT1 := Lib.hid (fun (h1 : labelS c.base c.L t ≠ label) (h : hasS c label ins t) => h1 h.2.2.1)
          have NOT2 := Lib.hid (fun (h1 : insS t c.L ≠ ins) (h : hasS c label ins t) => h1 h.2.2.2)
          generalize labelS c.base c.L t = lb at *
          generalize insS t c.L = q at *
          go_wp2_with fail
          refine L1.out.mono ?_
          rintro e w1 ⟨rfl, rfl⟩
          by_cases h1 : lb = label
          · by_cases h2 : q = ins
            · have hs := HAS.out h1 h2
              subst h1 h2
              have hq : (q == q) = true := by simp
              rcases H.out with ⟨rfl, h3⟩ | h3
              · have N := Lib.hid (show (t = -1 ∧ ∀ m, -1040 ≤ m → m < n + 1 → ¬ hasS c lb q (lb + m * 1000000000)) ∨ hasS c lb q t from .inr hs)
                clear NO H HAS NOT1 NOT2 hs h3
                go_wp2_with fail
                go_roundw
                case rel => exact ⟨n + 1, t, by omega, by go_num, rfl, by omega, N.out, (by first | rfl | trivial)⟩
                case measure => simp [intOf]; omega
              · obtain rfl : b = t := has_uniq OK.out h3 hs
                have N := Lib.hid (show (b = -1 ∧ ∀ m, -1040 ≤ m → m < n + 1 → ¬ hasS c lb q (lb + m * 1000000000)) ∨ hasS c lb q b from .inr hs)
                clear NO H HAS NOT1 NOT2 hs h3
                go_wp2_with fail
                go_roundw
                case rel => exact ⟨n + 1, b, by omega, by go_num, rfl, by omega, N.out, (by first | rfl | trivial)⟩
                case measure => simp [intOf]; omega
            · have N := Lib.hid (NO.out (NOT2.out h2))
              subst h1
              have hq : (q == ins) = false := by simp [h2]
              clear NO H HAS NOT1 NOT2 h2
              go_wp2_with fail
              go_roundw
              case rel => exact ⟨n + 1, b, by omega, by go_num, rfl, by omega, N.out, (by first | rfl | trivial)⟩
              case measure => simp [intOf]; omega
          · have N := Lib.hid (NO.out (NOT1.out h1))
            have hq : (lb == label) = false := by simp [h1]
            clear NO H HAS NOT1 NOT2
            go_wp2_with fail
            go_roundw
            case rel => exact ⟨n + 1, b, by omega, by go_num, rfl, by omega, N.out, (by first | rfl | trivial)⟩
            case measure => simp [intOf]; omega
    · obtain rfl : n = 1041 := by omega
      rcases H.out with ⟨rfl, h3⟩ | h3
      · have hr : r1 = 0 ∧ r2 = false := by
          rcases HR.out with ⟨_, h⟩ | ⟨h, _⟩
          · obtain ⟨m, m0, m1, hm⟩ := has_off OK.out h
            exact absurd (by rw [hm]; exact h) (h3 m m0 (by omega))
          · injection h with h1 h2
            exact ⟨h1, h2⟩
        obtain ⟨rfl, rfl⟩ := hr
        clear H HR h3
        go_wp2_with fail
        go_ret2
        exact ⟨rfl, rfl⟩
      · have hr : r1 = b ∧ r2 = true := by
          rcases HR.out with ⟨h, h'⟩ | ⟨_, h⟩
          · exact ⟨has_uniq OK.out h' h3, h⟩
          · exact absurd h3 (h b)
        obtain ⟨rfl, rfl⟩ := hr
        have b2 := h3.1
        clear H HR h3
        go_wp2_with fail
        go_ret2
        exact ⟨rfl, rfl⟩
end Go.Proofs.Ytkdpndoamepcbaa
