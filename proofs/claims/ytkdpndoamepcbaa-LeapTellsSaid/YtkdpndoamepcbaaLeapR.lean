/- leap: the document's table: New, Offset, Inserted, Label, Next, Bits. -/
import Derived.Test.YtkdpndoamepcbaaLeapK
namespace Go.Proofs.Ytkdpndoamepcbaa
open Go.RowKit
set_option linter.unusedVariables false
set_option linter.unusedSimpArgs false

/-- The document's table in memory. -/
def LT.rat (c : LT) (w : World) (g : Nat) : Prop :=
  ∃ (A : Option Addr) (cp : Nat), w.heap[g]? = some (.cells #[.slice A c.L.length cp, .int .i64 c.ex, .int .i64 c.base] 54 (0, 0)) ∧ c.L.length ≤ cp ∧ cp ≤ maxLen ∧ RowIn w A c.L.length 2 (pcells c.L) [g]
theorem LT.rat.stp {c : LT} {w w' : World} {g : Nat} (h : c.rat w g) (hs : Stp [] w w') : c.rat w' g := by
  obtain ⟨A, cp, h1, h2, h3, h4⟩ := h
  refine ⟨A, cp, hs.at h1 (by simp), h2, h3, ⟨h4.1, fun hn => ?_⟩⟩
  obtain ⟨b, off, e, hb, hg, hc⟩ := h4.2 hn
  exact ⟨b, off, e, Nat.lt_of_lt_of_le hb hs.size, hg, fun j u hu => hs.cell (hc j u hu) (by simp)⟩
theorem LT.rat.lt {c : LT} {w : World} {g : Nat} (h : c.rat w g) : g < w.heap.size := by
  obtain ⟨A, cp, h1, _⟩ := h
  exact lt_of_at h1
theorem LT.rat.cells {c : LT} {w : World} {g : Nat} (h : c.rat w g) : ∃ (A : Option Addr) (cp : Nat), w.cell? ⟨g, 0, none⟩ = some (.slice A c.L.length cp) ∧ w.cell? ⟨g, 1, none⟩ = some (.int .i64 c.ex) ∧ w.cell? ⟨g, 2, none⟩ = some (.int .i64 c.base) ∧ c.L.length ≤ cp ∧ cp ≤ maxLen ∧ RowIn w A c.L.length 2 (pcells c.L) [g] := by
  obtain ⟨A, cp, h1, h2, h3, h4⟩ := h
  exact ⟨A, cp, cell_at h1 0, cell_at h1 1, cell_at h1 2, h2, h3, h4⟩

/-- What the leaps that are not behind an instant come to, one by one. -/
def offS (t : Int) (L : List (Int × Int)) : Int := (L.map fun x => if x.1 ≤ t then x.2 else 0).sum
theorem offS_cons (t : Int) (x : Int × Int) (L : List (Int × Int)) : offS t (x :: L) = (if x.1 ≤ t then x.2 else 0) + offS t L := by simp [offS]
theorem offS_append (t : Int) (L M : List (Int × Int)) : offS t (L ++ M) = offS t L + offS t M := by simp [offS, List.sum_append]
theorem offS_zero {t : Int} : ∀ {L : List (Int × Int)}, (∀ x ∈ L, t < x.1) → offS t L = 0
  | [], _ => rfl
  | x :: l, h => by
    have h1 := h x (List.mem_cons_self ..)
    rw [offS_cons, if_neg (by omega), offS_zero (fun y hy => h y (List.mem_cons_of_mem _ hy))]
    rfl
theorem offS_ks (t : Int) : ∀ {L : List (Int × Int)}, Rise L → offS t L = kS t L
  | [], _ => rfl
  | x :: l, h => by
    have hl := List.pairwise_cons.1 h
    rw [offS_cons, kS_cons]
    by_cases h1 : x.1 ≤ t
    · rw [if_pos h1, if_pos h1, offS_ks t hl.2]
    · rw [if_neg h1, if_neg h1, offS_zero fun y hy => by have := hl.1 y hy; omega]
      rfl
theorem offS_bd (t : Int) : ∀ {L : List (Int × Int)}, (∀ x ∈ L, x.2 = 1 ∨ x.2 = -1) → -(L.length : Int) ≤ offS t L ∧ offS t L ≤ L.length
  | [], _ => by simp [offS]
  | x :: L, h => by
    have h1 := offS_bd t (L := L) (fun y hy => h y (List.mem_cons_of_mem _ hy))
    have h2 := h x (List.mem_cons_self ..)
    rw [offS_cons, List.length_cons]
    split <;> omega
theorem offS_snoc (t : Int) {L : List (Int × Int)} {k : Nat} (hk : k < L.length) : offS t (L.take (k + 1)) = offS t (L.take k) + if L[k].1 ≤ t then L[k].2 else 0 := by
  rw [List.take_succ_eq_append_getElem hk, offS_append]
  simp [offS]

set_option maxHeartbeats 2000000 in
theorem roffset_any (g : Nat) (c : LT) (t : Int) (w : World) (h : c.rat w g) (ok : c.ok) :
    Calls Try.prog 37 #[.pointer (some ⟨g, 0, none⟩), .int .i64 t] w fun e w' => e = .returned (.int .i64 (c.base + kS t c.L)) ∧ w' = w := by
  obtain ⟨A, cp, h0, h1, h2, h3, h4, h5⟩ := h.cells
  have P := Lib.hid (And.intro h5 ok)
  have b0 := ok.b0
  have b1 := ok.b1
  have hl := ok.leaps.len
  have E := Lib.hid (show c.base + offS t (c.L.take c.L.length) = c.base + kS t c.L by rw [List.take_length, offS_ks t ok.leaps.rise])
  clear h h5 h3 h4 ok h1
  generalize hn : c.L.length = n at *
  go_enter Try.func37, Try.ntmps37
  go_wp2_with fail
  go_loopw [5, 6] (fun v i wr => ∃ k : Nat, k ≤ n ∧ i = .int .i64 k ∧ v = .int .i64 (c.base + offS t (c.L.take k)) ∧ wr = w) (fun _ i _ => n - (intOf i).toNat)
  case atStart => exact ⟨0, Nat.zero_le _, rfl, by simp [offS], rfl⟩
  case round =>
    obtain ⟨k, hk, rfl, rfl, rfl⟩ := hrel
    by_cases hlt : k < n
    · obtain ⟨b, off, rfl, hbb, hbg, hcell⟩ := P.out.1.2 (by omega)
      have hkl : k < c.L.length := by omega
      have hx := pcells_get c.L k hkl
      have hc1 : wr.cell? ⟨b, off + k * 2, none⟩ = some (.int .i64 c.L[k].1) := hcell _ _ hx.1
      have hc2 : wr.cell? ⟨b, off + k * 2 + 1, none⟩ = some (.int .i64 c.L[k].2) := hcell _ _ hx.2
      have hs := offS_snoc t hkl
      have hbk := (P.out.2.leaps.each c.L[k] (List.getElem_mem _)).2.2
      have tb := offS_bd t (L := c.L.take k) (fun x hx => (P.out.2.leaps.each x (List.mem_of_mem_take hx)).2.2)
      have tl : (c.L.take k).length = k := by simp; omega
      rw [tl] at tb
      clear hx hcell tl
      generalize c.L[k] = y at *
      obtain ⟨y1, y2⟩ := y
      simp only at hc1 hc2 hs hbk
      obtain ⟨tb0, tb1⟩ := tb
      have HS := Lib.hid hs
      have kb0 : -1 ≤ y2 := by omega
      have kb1 : y2 ≤ 1 := by omega
      clear hs hbk
      generalize offS t (c.L.take k) = q at *
      by_cases hle : y1 ≤ t
      · have hs := HS.out
        rw [if_pos hle] at hs
        have HQ := Lib.hid (show c.base + q + y2 = c.base + offS t (c.L.take (k + 1)) by omega)
        clear hs HS
        go_wp2_with fail
        go_roundw
        case rel => exact ⟨k + 1, by omega, by go_num, by rw [← HQ.out], (by first | rfl | trivial)⟩
        case measure => simp [intOf]; omega
      · have hs := HS.out
        rw [if_neg hle] at hs
        have HQ := Lib.hid (show c.base + q = c.base + offS t (c.L.take (k + 1)) by omega)
        clear hs HS
        go_wp2_with fail
        go_roundw
        case rel => exact ⟨k + 1, by omega, by go_num, by rw [← HQ.out], (by first | rfl | trivial)⟩
        case measure => simp [intOf]; omega
    · obtain rfl : k = n := by omega
      rw [E.out]
      go_wp2_with fail
      go_ret
      exact ⟨rfl, rfl⟩

theorem ins_snoc (t : Int) {L : List (Int × Int)} {k : Nat} (hk : k < L.length) : insS t (L.take (k + 1)) = (insS t (L.take k) || decide (L[k].2 = 1 ∧ L[k].1 ≤ t ∧ t < L[k].1 + 1000000000)) := by
  unfold insS
  rw [List.take_succ_eq_append_getElem hk, List.any_append]
  simp only [List.any_cons, List.any_nil, Bool.or_false]
theorem ins_in (t : Int) {L : List (Int × Int)} {k : Nat} (hk : k < L.length) (h : L[k].2 = 1 ∧ L[k].1 ≤ t ∧ t < L[k].1 + 1000000000) : insS t L = true := by
  rw [ins_iff]
  exact ⟨L[k], List.getElem_mem _, h⟩
set_option maxHeartbeats 2000000 in
theorem rins_any (g : Nat) (c : LT) (t : Int) (w : World) (h : c.rat w g) (ok : c.ok) :
    Calls Try.prog 47 #[.pointer (some ⟨g, 0, none⟩), .int .i64 t] w fun e w' => e = .returned (.bool (insS t c.L)) ∧ w' = w := by
  obtain ⟨A, cp, h0, h1, h2, h3, h4, h5⟩ := h.cells
  have P := Lib.hid (And.intro h5 ok)
  have hl := ok.leaps.len
  obtain ⟨R, hR⟩ : ∃ R, insS t c.L = R := ⟨_, rfl⟩
  rw [hR]
  have HR := Lib.hid hR
  clear h h5 h3 h4 ok h1 hR
  generalize hn : c.L.length = n at *
  go_enter Try.func47, Try.ntmps47
  go_wp2_with fail
  go_loopw [5] (fun i wr => ∃ k : Nat, k ≤ n ∧ i = .int .i64 k ∧ Hid (insS t (c.L.take k) = false) ∧ wr = w) (fun i _ => n - (intOf i).toNat)
  case atStart => exact ⟨0, Nat.zero_le _, rfl, (by show insS t (c.L.take 0) = false; rfl), rfl⟩
  case round =>
    obtain ⟨k, hk, rfl, H, rfl⟩ := hrel
    by_cases hlt : k < n
    · obtain ⟨b, off, rfl, hbb, hbg, hcell⟩ := P.out.1.2 (by omega)
      have hkl : k < c.L.length := by omega
      have hx := pcells_get c.L k hkl
      have hc1 : wr.cell? ⟨b, off + k * 2, none⟩ = some (.int .i64 c.L[k].1) := hcell _ _ hx.1
      have hc2 : wr.cell? ⟨b, off + k * 2 + 1, none⟩ = some (.int .i64 c.L[k].2) := hcell _ _ hx.2
      have HS := Lib.hid (And.intro (ins_snoc t hkl) (ins_in t hkl))
      have hbk := (P.out.2.leaps.each c.L[k] (List.getElem_mem _))
      clear hx hcell
      generalize c.L[k] = y at *
      obtain ⟨y1, y2⟩ := y
      simp only at hc1 hc2 HS hbk
      obtain ⟨hb0, hb1, hb2⟩ := hbk
      have no : ¬ (y2 = 1 ∧ y1 ≤ t ∧ t < y1 + 1000000000) → Hid (insS t (c.L.take (k + 1)) = false) := fun h => by
        have := HS.out.1
        rw [H.out, decide_eq_false h] at this
        exact this
      by_cases a1 : y2 = 1
      · by_cases a2 : y1 ≤ t
        · by_cases a3 : t < y1 + 1000000000
          · obtain rfl : R = true := by rw [← HR.out]; exact HS.out.2 ⟨a1, a2, a3⟩
            subst a1
            clear HS no H HR
            go_wp2_with fail
            go_ret
            exact ⟨rfl, rfl⟩
          · have N := no (by omega)
            subst a1
            clear HS no H
            go_wp2_with fail
            go_roundw
            case rel => exact ⟨k + 1, by omega, by go_num, N, (by first | rfl | trivial)⟩
            case measure => simp [intOf]; omega
        · have N := no (by omega)
          subst a1
          clear HS no H
          go_wp2_with fail
          go_roundw
          case rel => exact ⟨k + 1, by omega, by go_num, N, (by first | rfl | trivial)⟩
          case measure => simp [intOf]; omega
      · have N := no (by omega)
        have ne : (y2 == 1) = false := by simp [a1]
        clear HS no H
        go_wp2_with fail
        go_roundw
        case rel => exact ⟨k + 1, by omega, by go_num, N, (by first | rfl | trivial)⟩
        case measure => simp [intOf]; omega
    · obtain rfl : k = n := by omega
      obtain rfl : R = false := by rw [← HR.out]; have := H.out; rwa [List.take_of_length_le (by omega)] at this
      clear H HR
      go_wp2_with fail
      go_ret
      exact ⟨rfl, rfl⟩

theorem rlabel_any (g : Nat) (c : LT) (t : Int) (w : World) (h : c.rat w g) (ok : c.ok) (ht : -4611700000000000000 ≤ t ∧ t ≤ 4611700000000000000) :
    Calls Try.prog 35 #[.pointer (some ⟨g, 0, none⟩), .int .i64 t] w fun e w' => e = .returned (.tuple #[.int .i64 (labelS c.base c.L t), .bool (insS t c.L)]) ∧ w' = w := by
  have O := Lib.hid (And.intro (roffset_any g c t w h ok) (rins_any g c t w h ok))
  have b0 := ok.b0
  have b1 := ok.b1
  obtain ⟨k0, k1⟩ := kS_bd ok.leaps t
  unfold labelS
  clear h ok
  generalize kS t c.L = k at *
  generalize insS t c.L = q at *
  obtain ⟨t0, t1⟩ := ht
  generalize c.base = bb at *
  have e1 : wrap64 ((bb + k) * 1000000000) = (bb + k) * 1000000000 := wrap64_id (by omega) (by omega)
  have e2 : wrap64 (t - (bb + k) * 1000000000) = t - (bb + k) * 1000000000 := wrap64_id (by omega) (by omega)
  go_enter Try.func35, Try.ntmps35
  go_wp2_with fail
  refine O.out.1.mono ?_
  rintro e w1 ⟨rfl, rfl⟩
  go_wp2_with fail
  refine O.out.2.mono ?_
  rintro e w1 ⟨rfl, rfl⟩
  go_wp2_with fail
  go_ret2
  exact ⟨rfl, rfl⟩
end Go.Proofs.Ytkdpndoamepcbaa
