/- smear: what a list of leaps is in memory; Clone, leaps, New, List, instant. -/
import Derived.Test.YtbjjfjgomkmdhaaSmearS
import Derived.Test.YtbjjfjgomkmdhaaWords
import Derived.Outline
import Derived.StillTailTactics
import Derived.Deep.RegionHeld3
import Derived.LoopTactic
namespace Go.Proofs.Ytbjjfjgomkmdhaa
open Go.RowKit
set_option linter.unusedVariables false
set_option linter.unusedSimpArgs false

theorem leap_info : (Try.prog.info? 30).map (fun i => (i.zero, i.size, i.bytes)) = some (some (.agg #[.int .i64 0, .int .i64 0]), 2, 16) := by kernel_rfl

/-- A row of the call's own that reads as xs. -/
def Cloned (n : Nat) (xs : List Value) (w : World) (e : Ending) (w' : World) : Prop :=
  ∃ v, e = .returned v ∧ w'.ownsRow w.heap.size 30 2 v n xs ∧ Stp [] w w'

theorem clone_any (A : Option Addr) (n c : Nat) (xs : List Value) (w : World) (h : Reads w w.heap.size 2 A n xs) (hn : n ≤ 1000000) (h1 : ∀ u ∈ xs, u.oneCell' = true) :
    Calls Try.prog 16 #[.slice A n c] w (Cloned n xs w) := by
  have q22 : ∀ (w : World) (a : Option Addr) (n c n' c' : Nat), (binOp .eql 24 (.slice a n c) (.slice none n' c')).run Try.prog w = .ok (.bool a.isNone) w := fun w a n c n' c' => Lib.run_eql_slice_nil w _ _ a n c n' c' Try.underlying24
  rcases A with _ | ad
  · have hn0 : n = 0 := by
      rcases Nat.eq_zero_or_pos n with h0 | h0
      · exact h0
      · obtain ⟨a, h2, _⟩ := h.2 h0
        cases h2
    subst hn0
    have hx : xs = [] := List.eq_nil_of_length_eq_zero (by simpa using h.1)
    subst hx
    clear h h1
    go_enter Try.func16, Try.ntmps16
    go_wp2
    go_ret
    exact ⟨_, rfl, ⟨rfl, .inl ⟨rfl, rfl⟩⟩, Stp.refl _ _⟩
  · obtain ⟨i0, hi, hz0, hz1, hz2⟩ := info_parts leap_info
    have H := Lib.hid h
    have H1 := Lib.hid h1
    clear h h1
    go_enter Try.func16, Try.ntmps16
    go_wp2_with (at_builtin; refine wpList_append_any _ rfl _ _ 24 rfl w.heap.size 30 i0 (.agg #[.int .i64 0, .int .i64 0]) 2 16 Try.underlying24 hi hz0 hz1 hz2 rfl (by decide) _ _ _ rfl (World.ownsRow_made w #[] 0 (Nat.le_refl _) (Nat.zero_le _) rfl) w.heap.size (some ad) n c xs rfl (H.out.alloc (Nat.le_refl _) _) H1.out ?qc4 ?qc5 ?qc6 ?_)
    case qc4 => unfold maxLen; omega
    case qc5 => omega
    case qc6 => simp
    intro v' w1 hown hgrow hblk
    go_wp2
    go_ret
    refine ⟨v', rfl, by simpa using hown, ?_⟩
    exact ((Stp.refl [] w).alloc _).grown hgrow (by intro k hk; simp [Value.ownBlock] at hk; omega)

theorem leapsS_drop {L : List (Int × Int)} {k : Nat} (hk : k < L.length) (x : Int) : leapsS x (L.drop k) = if L[k].1 < x ∨ 4611686018427387904 < L[k].1 ∨ (L[k].2 ≠ 1 ∧ L[k].2 ≠ -1) then false else leapsS (L[k].1 + 172800000000000) (L.drop (k + 1)) := by
  rw [List.drop_eq_getElem_cons hk]
  rfl

set_option maxHeartbeats 1000000 in
theorem leaps_any (A : Option Addr) (n c : Nat) (L : List (Int × Int)) (w : World) (h : RowIn w A n 2 (pcells L) []) (hl : L.length = n) (hn : n ≤ 1000000) (hb : ∀ x ∈ L, (-9223372036854775808 ≤ x.1 ∧ x.1 ≤ 9223372036854775807) ∧ (-9223372036854775808 ≤ x.2 ∧ x.2 ≤ 9223372036854775807)) :
    Calls Try.prog 32 #[.slice A n c] w fun e w' => e = .returned (.bool (leapsS 86400000000000 L)) ∧ Stp [] w w' := by
  obtain ⟨R, hR⟩ : ∃ R, leapsS 86400000000000 L = R := ⟨_, rfl⟩
  rw [hR]
  have HR := Lib.hid hR
  have HL := Lib.hid hl
  have H := Lib.hid h
  have HB := Lib.hid hb
  clear hR hl h hb
  go_enter Try.func32, Try.ntmps32
  go_wp2_with fail
  go_loopw [3, 8] (fun v i wr => ∃ (k : Nat) (x : Int), k ≤ n ∧ i = .int .i64 k ∧ v = .int .i64 x ∧ (86400000000000 ≤ x ∧ x ≤ 4611858818427387904) ∧ Hid (leapsS x (L.drop k) = R) ∧ Stp [] w wr) (fun _ i _ => n - (intOf i).toNat)
  case atStart => exact ⟨0, 86400000000000, by omega, rfl, rfl, by decide, by simpa using HR, Stp.refl _ _⟩
  case round =>
    obtain ⟨k, x, hk, rfl, rfl, ⟨x0, x1⟩, HX, ht⟩ := hrel
    by_cases hlt : k < n
    · obtain ⟨b, off, rfl, hbb, hbg, hcell⟩ := (H.out.stp ht).2 (by omega)
      have hkl : k < L.length := by rw [HL.out]; exact hlt
      have hx := pcells_get L k hkl
      have hc1 : wr.cell? ⟨b, off + k * 2, none⟩ = some (.int .i64 L[k].1) := hcell _ _ hx.1
      have hc2 : wr.cell? ⟨b, off + k * 2 + 1, none⟩ = some (.int .i64 L[k].2) := hcell _ _ hx.2
      have hd := leapsS_drop hkl x
      have hbk := HB.out L[k] (List.getElem_mem _)
      rw [HX.out] at hd
      clear hx hcell
      generalize L[k] = y at *
      obtain ⟨y1, y2⟩ := y
      simp only at hd hc1 hc2 hbk
      obtain ⟨⟨b0, b1⟩, b2, b3⟩ := hbk
      by_cases h1 : y1 < x
      · rw [if_pos (.inl h1)] at hd
        subst hd
        go_wp2_with fail
        go_ret
        exact ⟨rfl, by repeat (first | assumption | apply Stp.drewN | apply Stp.alloc)⟩
      · by_cases h2 : 4611686018427387904 < y1
        · rw [if_pos (.inr (.inl h2))] at hd
          subst hd
          go_wp2_with fail
          go_ret
          exact ⟨rfl, by repeat (first | assumption | apply Stp.drewN | apply Stp.alloc)⟩
        · have hd1 : decide (y1 < x) = false := decide_eq_false h1
          have hd2 : decide (4611686018427387904 < y1) = false := decide_eq_false h2
          have hs : IntKind.i64.wrap (y1 + 172800000000000) = y1 + 172800000000000 := IntWalk.i64_in _ (by omega)
          by_cases h3 : y2 = 1
          · subst h3
            rw [if_neg (by omega)] at hd
            have HD := Lib.hid hd.symm
            clear hd
            go_wp2_with fail
            go_roundw
            case rel => exact ⟨k + 1, y1 + 172800000000000, by omega, by go_num, rfl, by omega, HD, by repeat (first | assumption | apply Stp.drewN | apply Stp.alloc)⟩
            case measure => simp [intOf]; omega
          · by_cases h4 : y2 = -1
            · subst h4
              rw [if_neg (by omega)] at hd
              have HD := Lib.hid hd.symm
              clear hd
              go_wp2_with fail
              go_roundw
              case rel => exact ⟨k + 1, y1 + 172800000000000, by omega, by go_num, rfl, by omega, HD, by repeat (first | assumption | apply Stp.drewN | apply Stp.alloc)⟩
              case measure => simp [intOf]; omega
            · rw [if_pos (by omega)] at hd
              subst hd
              have e1 : (y2 != 1) = true := by simp; omega
              have e2 : (y2 != -1) = true := by simp; omega
              go_wp2_with fail
              go_ret
              exact ⟨rfl, by repeat (first | assumption | apply Stp.drewN | apply Stp.alloc)⟩
    · have hd : R = true := by
        rw [← HX.out, List.drop_of_length_le (by rw [HL.out]; omega)]
        rfl
      subst hd
      go_wp2
      go_ret
      exact ⟨rfl, ht⟩
end Go.Proofs.Ytbjjfjgomkmdhaa
