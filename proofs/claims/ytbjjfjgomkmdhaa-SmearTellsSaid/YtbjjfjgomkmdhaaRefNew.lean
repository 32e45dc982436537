/- smear: the document's answer to a list of leaps. -/
import Derived.Test.YtbjjfjgomkmdhaaSmearB
namespace Go.Proofs.Ytbjjfjgomkmdhaa
open Go.RowKit
set_option linter.unusedVariables false
set_option linter.unusedSimpArgs false

def refNewS (n : Nat) (L : List (Int × Int)) : Int := if 32 < n then 7 else if leapsS 86400000000000 L = true then 0 else 1
set_option maxHeartbeats 2000000 in
theorem refnew_any (A : Option Addr) (n c : Nat) (L : List (Int × Int)) (w : World) (h : RowIn w A n 2 (pcells L) []) (hl : L.length = n) (hn : n ≤ 1000000) (hb : ∀ x ∈ L, (-9223372036854775808 ≤ x.1 ∧ x.1 ≤ 9223372036854775807) ∧ (-9223372036854775808 ≤ x.2 ∧ x.2 ≤ 9223372036854775807)) :
    Calls Try.prog 17 #[.slice A n c] w fun e w' => e = .returned (.int .i64 (refNewS n L)) ∧ Stp [] w w' := by
  obtain ⟨R, hR⟩ : ∃ R, refNewS n L = R := ⟨_, rfl⟩
  rw [hR]
  have HR := Lib.hid hR
  have HL := Lib.hid hl
  have H := Lib.hid h
  have HB := Lib.hid hb
  clear hR hl h hb
  by_cases h32 : 32 < n
  · obtain rfl : R = 7 := by rw [← HR.out]; unfold refNewS; rw [if_pos h32]
    go_enter Try.func17, Try.ntmps17
    go_wp2_with fail
    go_ret
    exact ⟨rfl, Stp.refl _ _⟩
  · have HR2 := Lib.hid (show (if leapsS 86400000000000 L = true then (0 : Int) else 1) = R by rw [← HR.out]; unfold refNewS; rw [if_neg h32])
    clear HR
    go_enter Try.func17, Try.ntmps17
    go_wp2_with fail
    go_loopw [3] (fun i wr => ∃ (k : Nat) (x : Int), k ≤ n ∧ i = .int .i64 k ∧ Hid ((if leapsS x (L.drop k) = true then (0 : Int) else 1) = R ∧ 86400000000000 ≤ x ∧ (k = 0 → x = 86400000000000) ∧ (∀ (m : Nat) (hm : m < L.length), k = m + 1 → x = L[m].1 + 172800000000000 ∧ L[m].1 ≤ 4611686018427387904 ∧ 86400000000000 ≤ L[m].1)) ∧ ∃ j, wr = w.drewN j) (fun i _ => n - (intOf i).toNat)
    case atStart => exact ⟨0, 86400000000000, Nat.zero_le _, rfl, (by exact ⟨HR2.out, by decide, fun _ => rfl, fun m hm h => by omega⟩), 0, rfl⟩
    case round =>
      obtain ⟨k, x, hk, rfl, I, j, rfl⟩ := hrel
      by_cases hlt : k < n
      · obtain ⟨b, off, rfl, hbb, hbg, hcell⟩ := H.out.2 (by omega)
        have hkl : k < L.length := by rw [HL.out]; exact hlt
        have hx := pcells_get L k hkl
        have hc1 : w.cell? ⟨b, off + k * 2, none⟩ = some (.int .i64 L[k].1) := hcell _ _ hx.1
        have hc2 : w.cell? ⟨b, off + k * 2 + 1, none⟩ = some (.int .i64 L[k].2) := hcell _ _ hx.2
        have hd := leapsS_drop hkl x
        have hbk := HB.out L[k] (List.getElem_mem _)
        have NX := Lib.hid (fun (a : Int) (ha : L[k].1 = a) (m : Nat) (hm : m < L.length) (h : k + 1 = m + 1) => (show L[m].1 = a from by have e : k = m := (by omega); subst e; exact ha))
        have i1 := I.out.1
        have i2 := I.out.2.1
        have i3 := I.out.2.2.1
        have i4 := I.out.2.2.2
        rw [hd] at i1
        clear hx hd I
        generalize hy : L[k] = y at *
        obtain ⟨y1, y2⟩ := y
        simp only at hc1 hc2 hbk i1 NX
        obtain ⟨⟨a0, a1⟩, a2, a3⟩ := hbk
        have BAD : (y1 < x ∨ 4611686018427387904 < y1 ∨ y2 ≠ 1 ∧ y2 ≠ -1) → R = 1 := fun h => by rw [if_pos h] at i1; simpa using i1.symm
        have BADH := Lib.hid BAD
        have GOOD := Lib.hid (fun (h : ¬ (y1 < x ∨ 4611686018427387904 < y1 ∨ y2 ≠ 1 ∧ y2 ≠ -1)) => (show (if leapsS (y1 + 172800000000000) (L.drop (k + 1)) = true then (0 : Int) else 1) = R from by rw [if_neg h] at i1; exact i1))
        clear i1 BAD
        have hkind : (y2 = 1 ∨ y2 = -1) ∨ (¬ y2 = 1 ∧ ¬ y2 = -1) := by omega
        rcases hkind with hkind | ⟨hk1, hk2⟩
        · by_cases h1 : y1 < 86400000000000
          · obtain rfl := BADH.out (.inl (by omega))
            clear BADH GOOD NX i3 i4 hcell hy
            rcases hkind with rfl | rfl
            all_goals
              go_wp2_with (go_quiet (fail))
              go_ret
              exact ⟨rfl, by repeat (first | exact Stp.refl _ _ | apply Stp.drewN)⟩
          · by_cases h2 : 4611686018427387904 < y1
            · obtain rfl := BADH.out (.inr (.inl h2))
              clear BADH GOOD NX i3 i4 hcell hy
              rcases hkind with rfl | rfl
              all_goals
                go_wp2_with (go_quiet (fail))
                go_ret
                exact ⟨rfl, by repeat (first | exact Stp.refl _ _ | apply Stp.drewN)⟩
            · rcases k with _ | m
              · rw [Nat.zero_mul, Nat.add_zero] at hc1 hc2
                have G := Lib.hid (GOOD.out (by have := i3 rfl; omega))
                have NX2 := Lib.hid (NX.out y1 rfl)
                clear BADH GOOD NX i3 i4 hcell hy
                rcases hkind with rfl | rfl
                all_goals
                  go_wp2_with (go_quiet (fail))
                  go_roundw
                  all_goals first
                    | exact ⟨1, y1 + 172800000000000, by omega, by go_num, (by exact ⟨G.out, by omega, fun h => by omega, fun m hm h => by rw [NX2.out m hm (by omega)]; omega⟩), _, rfl⟩
                    | (simp [intOf]; omega)
              · have hml : m < L.length := by omega
                obtain ⟨x1, x2, x3⟩ := i4 m hml rfl
                have hxm := pcells_get L m hml
                have hp1 : w.cell? ⟨b, off + m * 2, none⟩ = some (.int .i64 L[m].1) := hcell _ _ hxm.1
                have ek : ((m + 1 : Nat) : Int) - 1 = (m : Int) := by omega
                have G := fun h => GOOD.out h
                have B := fun h => BADH.out h
                have NX2 := Lib.hid (NX.out y1 rfl)
                have em : off + (m + 1) * 2 = off + m * 2 + 2 := by omega
                rw [em] at hc1 hc2
                clear BADH GOOD NX i3 i4 hcell hy hxm
                generalize L[m].1 = p at *
                have wp : wrap64 (p + 172800000000000) = p + 172800000000000 := wrap64_id (by omega) (by omega)
                by_cases h3 : y1 < p + 172800000000000
                · obtain rfl := B (.inl (by omega))
                  clear G B
                  rcases hkind with rfl | rfl
                  all_goals
                    go_wp2_with (go_quiet (fail))
                    go_ret
                    exact ⟨rfl, by repeat (first | exact Stp.refl _ _ | apply Stp.drewN)⟩
                · have G2 := Lib.hid (G (by omega))
                  clear G B
                  rcases hkind with rfl | rfl
                  all_goals
                    go_wp2_with (go_quiet (fail))
                    go_roundw
                    all_goals first
                      | exact ⟨m + 1 + 1, y1 + 172800000000000, by omega, by go_num, (by exact ⟨G2.out, by omega, fun h => by omega, fun m' hm' h => by rw [NX2.out m' hm' (by omega)]; omega⟩), _, rfl⟩
                      | (simp [intOf]; omega)
        · obtain rfl := BADH.out (.inr (.inr ⟨hk1, hk2⟩))
          have e1 : (y2 != 1) = true := by simp [hk1]
          have e2 : (y2 != -1) = true := by simp [hk2]
          clear BADH GOOD NX i3 i4 hcell hy
          go_wp2_with (go_quiet (fail))
          go_ret
          exact ⟨rfl, by repeat (first | exact Stp.refl _ _ | apply Stp.drewN)⟩
      · obtain rfl : R = 0 := by
          have i1 := I.out.1
          rw [List.drop_of_length_le (by have := HL.out; omega)] at i1
          simpa [leapsS] using i1.symm
        clear I HR2
        go_wp2_with (go_quiet (fail))
        go_ret
        exact ⟨rfl, by repeat (first | exact Stp.refl _ _ | apply Stp.drewN)⟩
end Go.Proofs.Ytbjjfjgomkmdhaa
