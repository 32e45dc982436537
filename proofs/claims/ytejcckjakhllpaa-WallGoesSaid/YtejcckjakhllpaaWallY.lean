/- wall: the document's wall: New, At, When, Step. -/
import Derived.Test.YtejcckjakhllpaaWallX
import Derived.Test.YtejcckjakhllpaaWallW
import Derived.Test.YtejcckjakhllpaaDigAdd
import Derived.Deep.RegionWith
import Derived.Deep.RegionHeld3
namespace Go.Proofs.Ytejcckjakhllpaa
open Go.RowKit
set_option linter.unusedVariables false
set_option linter.unusedSimpArgs false

def WS.rat (c : WS) (w : World) (g : Nat) : Prop := w.heap[g]? = some (.cells #[.int .i64 c.base, .int .i64 c.steps] 45 (0, 0))
theorem rw_cells {w : World} {g : Nat} {c : WS} (h : c.rat w g) : w.cell? ⟨g, 0, none⟩ = some (.int .i64 c.base) ∧ w.cell? ⟨g, 1, none⟩ = some (.int .i64 c.steps) ∧ w.frozen? ⟨g, 0, none⟩ = false ∧ w.frozen? ⟨g, 1, none⟩ = false := by
  have h' : w.heap[g]? = some (.cells #[.int .i64 c.base, .int .i64 c.steps] 45 (0, 0)) := h
  exact ⟨cell_at h' 0, cell_at h' 1, free_at h' 0, free_at h' 1⟩
theorem WS.rat_stp {c : WS} {w w' : World} {g : Nat} (h : c.rat w g) (hs : Stp [] w w') : c.rat w' g := hs.at h (by simp)
def MadeRWall (c : WS) (w : World) (e : Ending) (w' : World) : Prop :=
  ∃ g, e = .returned (.tuple #[.pointer (some ⟨g, 0, none⟩), .int .i64 0]) ∧ c.rat w' g ∧ Stp [] w w' ∧ w.heap.size ≤ g
theorem rwnew_any (s : Int) (w : World) (h : 0 ≤ s ∧ s ≤ 4611686018427387904) : Calls Try.prog 20 #[.int .i64 s] w (MadeRWall ⟨s, 0⟩ w) := by
  obtain ⟨h0, h1⟩ := h
  go_enter Try.func20, Try.ntmps20
  go_wp2_with fail
  go_ret2
  exact ⟨w.heap.size, rfl, new_at _ _, (Stp.refl _ _).alloc _, Nat.le_refl _⟩
theorem rwnew_bad (s : Int) (w : World) (h : s < 0 ∨ 4611686018427387904 < s) : Calls Try.prog 20 #[.int .i64 s] w fun e w' => e = .returned (.tuple #[.pointer none, .int .i64 1]) ∧ w' = w := by
  have hc : s < 0 ∨ ¬ s < 0 ∧ 4611686018427387904 < s := by omega
  clear h
  rcases hc with h1 | ⟨h1, h2⟩
  all_goals
    go_enter Try.func20, Try.ntmps20
    go_wp2_with fail
    go_ret2
    exact ⟨rfl, rfl⟩

set_option maxHeartbeats 1000000 in
theorem rwstep_any (g : Nat) (c : WS) (b : Int) (w : World) (h : c.rat w g) (ok : c.ok) (hb : -9223372036854775808 ≤ b ∧ b ≤ 9223372036854775807) (hr : -4611686018427387904 ≤ c.base + b ∧ c.base + b ≤ 4611686018427387904) :
    Calls Try.prog 21 #[.pointer (some ⟨g, 0, none⟩), .int .i64 b] w fun e w' => e = .returned (.int .i64 0) ∧ (WS.mk (c.base + b) (c.steps + 1)).rat w' g ∧ Stp [g] w w' := by
  have A1 := Lib.hid (fun w => dAdd_any c.base b w (by have := ok.b0; have := ok.b1; omega) hb)
  have e : toldS (c.base + b) = (c.base + b, 0) := by unfold toldS; rw [if_pos (by unfold fits; omega)]
  rw [e] at A1
  have HH := Lib.hid h
  have s0 := ok.s0
  have s1 := ok.s1
  obtain ⟨x0, x1, _, _⟩ := rw_cells h
  clear h ok e
  go_enter Try.func21, Try.ntmps21
  go_wp2_with fail
  refine (A1.out _).mono ?_
  rintro e w1 ⟨rfl, st⟩
  have h9 := WS.rat_stp HH.out st
  have H9 := Lib.hid h9
  obtain ⟨x0', x1', z0, z1⟩ := rw_cells h9
  clear h9
  go_wp2_with fail
  go_ret
  exact ⟨rfl, set_at (set_at H9.out 0 _) 1 _, (st.of_nil.setCell (.inl (by simp)) _).setCell (.inl (by simp)) _⟩
set_option maxHeartbeats 1000000 in
theorem rwstep_bad (g : Nat) (c : WS) (b : Int) (w : World) (h : c.rat w g) (ok : c.ok) (hb : -9223372036854775808 ≤ b ∧ b ≤ 9223372036854775807) (hr : ¬ (-4611686018427387904 ≤ c.base + b ∧ c.base + b ≤ 4611686018427387904)) :
    Calls Try.prog 21 #[.pointer (some ⟨g, 0, none⟩), .int .i64 b] w fun e w' => e = .returned (.int .i64 20) ∧ Stp [] w w' := by
  have A1 := Lib.hid (fun w => dAdd_any c.base b w (by have := ok.b0; have := ok.b1; omega) hb)
  obtain ⟨x0, x1, _, _⟩ := rw_cells h
  clear h
  by_cases hf : fits (c.base + b)
  · have e : toldS (c.base + b) = (c.base + b, 0) := by unfold toldS; rw [if_pos hf]
    rw [e] at A1
    generalize c.base + b = v at *
    have hc : 4611686018427387904 < v ∨ ¬ 4611686018427387904 < v ∧ v < -4611686018427387904 := by omega
    clear ok e hf hr
    rcases hc with h1 | ⟨h1, h2⟩
    all_goals
      go_enter Try.func21, Try.ntmps21
      go_wp2_with fail
      refine (A1.out _).mono ?_
      rintro e w1 ⟨rfl, st⟩
      go_wp2_with fail
      go_ret
      exact ⟨rfl, st⟩
  · have e : toldS (c.base + b) = (0, 20) := by unfold toldS; rw [if_neg hf]
    rw [e] at A1
    clear ok e hf hr
    go_enter Try.func21, Try.ntmps21
    go_wp2_with fail
    refine (A1.out _).mono ?_
    rintro e w1 ⟨rfl, st⟩
    go_wp2_with fail
    go_ret
    exact ⟨rfl, st⟩

set_option maxHeartbeats 2000000 in
theorem rwat_any (g : Nat) (c : WS) (m : Int) (w : World) (h : c.rat w g) (ok : c.ok) (hm : -9223372036854775808 ≤ m ∧ m ≤ 9223372036854775807) :
    Calls Try.prog 23 #[.pointer (some ⟨g, 0, none⟩), .int .i64 m] w fun e w' => e = .returned (.int .i64 (c.tell m)) ∧ Stp [] w w' := by
  have T := Lib.hid (fun w => rtime_any m w hm)
  have tb := timeS_bd m
  unfold WS.tell
  obtain ⟨x0, _, _, _⟩ := rw_cells h
  have b0 := ok.b0
  have b1 := ok.b1
  clear h hm ok
  generalize c.base = bb at *
  generalize timeS m = t at *
  have O := Lib.hid (fun (a : Int) (w : World) (ha : -9223372036854775808 ≤ a ∧ a ≤ 9223372036854775807) => dOf_any a w ha)
  have HB := Lib.hid (And.intro tb (And.intro b0 b1))
  have K : ∀ w', Stp [] w w' → w'.cell? ⟨g, 0, none⟩ = some (.int .i64 bb) ∧ Stp [] w w' := fun w' st => ⟨st.cell x0 (by simp), st⟩
  clear tb b0 b1
  go_enter Try.func23, Try.ntmps23
  go_wp2_with fail
  go_region_held3 (fun w' => w'.cell? ⟨g, 0, none⟩ = some (.int .i64 bb) ∧ Stp [] w w')
    (first | (go_split_ands; refine K _ ?_; first | assumption | exact (Stp.refl _ _).drew | exact Stp.refl _ _ | exact Stp.trans (by assumption) s9 | exact Stp.trans (by assumption) s8 | exact Stp.trans (by assumption) s7 | exact Stp.trans (by assumption) s6 | exact Stp.trans (by assumption) s5))
    (first
      | (go_at_call 34; (with_reducible refine (T.out _).mono ?_); rintro e w5 ⟨rfl, s5⟩)
      | (go_at_call_of 37 t; (with_reducible refine (O.out t _ (by have := HB.out; omega)).mono ?_); rintro e w6 ⟨m6, A6, n6, c6, rfl, d6, s6⟩)
      | (go_at_call_of 37 bb; (with_reducible refine (O.out bb _ (by have := HB.out; omega)).mono ?_); rintro e w7 ⟨m7, A7, n7, c7, rfl, d7, s7⟩; have d6' := d6.stp s7)
      | (go_at_call 39; (with_reducible refine (dPlus_any _ _ _ _ _ _ _ _ _ _ _ d6' d7 (by have := d6'.small (by have := HB.out; omega); omega) (by have := d7.small (by have := HB.out; omega); omega)).mono ?_); rintro e w8 ⟨m8, A8, n8, c8, rfl, d8, s8⟩)
      | (go_at_call 36; (with_reducible refine (rwithin_any _ _ _ _ _ 0 4611686018427387904 _ d8 (by have := d8.wide (by have := HB.out; omega); omega) (by decide) (by decide) (by decide)).mono ?_); rintro e w9 ⟨rfl, s9⟩))
  all_goals
    have sW : Stp [] w w9 := by first | assumption | (go_split_ands; assumption)
    go_wp2_with fail
    go_ret
    exact ⟨rfl, sW⟩

/-- Where the search for a time ends. -/
theorem when_found {c : WS} {t hi : Int} (h0 : c.tell 0 < t) (h1 : 1 ≤ hi) (h2 : hi ≤ 4611686018427387904) (h3 : t ≤ c.tell hi) (h4 : c.tell (hi - 1) < t) : c.whenS t = (hi, true) := by
  have key : ∀ m, 0 ≤ m → m ≤ 4611686018427387904 → c.tell m = if m + c.base < 0 then 0 else if m + c.base > 4611686018427387904 then 4611686018427387904 else m + c.base := fun m m0 m1 => by
    have : timeS m = m := by unfold timeS clampS; rw [if_neg (by omega), if_neg (by omega)]
    unfold WS.tell
    rw [this]
    rfl
  have e0 := key 0 (by decide) (by decide)
  have e1 := key hi (by omega) h2
  have e2 := key (hi - 1) (by omega) (by omega)
  have hv : t - c.base = hi := by
    rw [e0] at h0
    rw [e1] at h3
    rw [e2] at h4
    (repeat' split at h0) <;> (repeat' split at h3) <;> (repeat' split at h4) <;> omega
  have hn : nearS (t - c.base) = hi := by rw [hv]; unfold nearS; rw [if_neg (by omega), if_neg (by omega)]
  unfold WS.whenS WS.first WS.may
  rw [hn, if_neg (by simp; omega), if_pos (by simp; omega)]
theorem when_zero {c : WS} {t : Int} (h0 : t ≤ c.tell 0) : c.whenS t = (0, true) := by
  unfold WS.whenS WS.first WS.may
  rw [if_pos (by simp; omega)]
theorem when_none {c : WS} {t : Int} (h0 : c.tell 0 < t) (h1 : c.tell 4611686018427387904 < t) (ok : c.ok) : c.whenS t = (0, false) := by
  have mono : ∀ m, 0 ≤ m → m ≤ 4611686018427387904 → c.tell m ≤ c.tell 4611686018427387904 := fun m m0 m1 => by
    unfold WS.tell timeS clampS
    (repeat' split) <;> omega
  unfold WS.whenS WS.first
  rw [if_neg (by unfold WS.may; simp; omega), if_neg (by
    unfold WS.may
    simp
    intro a0 a1
    have := mono _ a0 a1
    omega)]

set_option maxHeartbeats 2000000 in
theorem rwwhen_any (g : Nat) (c : WS) (t : Int) (w : World) (h : c.rat w g) (ok : c.ok) (ht : -9223372036854775808 ≤ t ∧ t ≤ 9223372036854775807) :
    Calls Try.prog 22 #[.pointer (some ⟨g, 0, none⟩), .int .i64 t] w fun e w' => e = .returned (.tuple #[.int .i64 (c.whenS t).1, .bool (c.whenS t).2]) ∧ Stp [] w w' := by
  have A := Lib.hid (fun (m : Int) (w' : World) (hs : Stp [] w w') (hm : -9223372036854775808 ≤ m ∧ m ≤ 9223372036854775807) => rwat_any g c m w' (WS.rat_stp h hs) ok hm)
  have A0 := Lib.hid (fun (w' : World) (hs : Stp [] w w') => A.out 0 w' hs (by decide))
  have A1 := Lib.hid (fun (w' : World) (hs : Stp [] w w') => A.out 4611686018427387904 w' hs (by decide))
  by_cases h0 : t ≤ c.tell 0
  · rw [when_zero h0]
    generalize c.tell 0 = q at *
    clear A1 A ok
    go_enter Try.func22, Try.ntmps22
    go_wp2_with fail
    refine (A0.out _ (Stp.refl _ _)).mono ?_
    rintro e w1 ⟨rfl, s1⟩
    go_wp2_with fail
    go_ret2
    exact ⟨rfl, s1⟩
  · by_cases h1 : c.tell 4611686018427387904 < t
    · rw [when_none (by omega) h1 ok]
      generalize c.tell 0 = q at *
      generalize c.tell 4611686018427387904 = q2 at *
      clear A ok
      go_enter Try.func22, Try.ntmps22
      go_wp2_with fail
      refine (A0.out _ (Stp.refl _ _)).mono ?_
      rintro e w1 ⟨rfl, s1⟩
      go_wp2_with fail
      refine (A1.out _ s1).mono ?_
      rintro e w2 ⟨rfl, s2⟩
      go_wp2_with fail
      go_ret2
      exact ⟨rfl, s1.trans s2⟩
    · have W0 := Lib.hid (show c.tell 0 < t ∧ t ≤ c.tell 4611686018427387904 by omega)
      obtain ⟨r, hr⟩ : ∃ r, c.whenS t = r := ⟨_, rfl⟩
      rw [hr]
      have HR := Lib.hid hr
      obtain ⟨q, hq⟩ : ∃ q, c.tell 0 = q := ⟨_, rfl⟩
      obtain ⟨q2, hq2⟩ : ∃ q2, c.tell 4611686018427387904 = q2 := ⟨_, rfl⟩
      rw [hq] at A0 h0
      rw [hq2] at A1 h1
      clear ok hr hq hq2
      go_enter Try.func22, Try.ntmps22
      go_wp2_with fail
      refine (A0.out _ (Stp.refl _ _)).mono ?_
      rintro e w1 ⟨rfl, s1⟩
      go_wp2_with fail
      refine (A1.out _ s1).mono ?_
      rintro e w2 ⟨rfl, s2⟩
      have st := Lib.hid (s1.trans s2)
      clear s1 s2
      go_wp2_with fail
      go_loopw [6, 7] (fun lo hi wr => ∃ (x y : Int), lo = .int .i64 x ∧ hi = .int .i64 y ∧ (0 ≤ x ∧ x < y ∧ y ≤ 4611686018427387904) ∧ Hid (c.tell x < t ∧ t ≤ c.tell y) ∧ Stp [] w wr) (fun lo hi _ => (intOf hi - intOf lo).toNat)
      case atStart => exact ⟨0, 4611686018427387904, rfl, rfl, by decide, W0, st.out⟩
      case round =>
        obtain ⟨x, y, rfl, rfl, ⟨x0, xy, y1⟩, H, hs⟩ := hrel
        clear st
        by_cases hlt : x + 1 < y
        · obtain ⟨m, hm⟩ : ∃ m, x + (y - x) / 2 = m := ⟨_, rfl⟩
          have hm1 : x < m := by omega
          have hm2 : m < y := by omega
          have hw1 : wrap64 (y - x) = y - x := wrap64_id (by omega) (by omega)
          have hw2 : wrap64 (x + (y - x) / 2) = m := by rw [hm]; exact wrap64_id (by omega) (by omega)
          have AM := Lib.hid (A.out m wr hs (by omega))
          obtain ⟨u, hu⟩ : ∃ u, c.tell m = u := ⟨_, rfl⟩
          rw [hu] at AM
          by_cases hk : t ≤ u
          · have N := Lib.hid (show c.tell x < t ∧ t ≤ c.tell m from ⟨H.out.1, by rw [hu]; exact hk⟩)
            clear H hu A A0 A1
            go_wp2_with fail
            refine AM.out.mono ?_
            rintro e v1 ⟨rfl, sv⟩
            go_wp2_with fail
            go_roundw
            case rel => exact ⟨x, m, rfl, rfl, ⟨x0, hm1, by omega⟩, N, hs.trans sv⟩
            case measure => simp [intOf]; omega
          · have N := Lib.hid (show c.tell m < t ∧ t ≤ c.tell y from ⟨by rw [hu]; omega, H.out.2⟩)
            clear H hu A A0 A1
            go_wp2_with fail
            refine AM.out.mono ?_
            rintro e v1 ⟨rfl, sv⟩
            go_wp2_with fail
            go_roundw
            case rel => exact ⟨m, y, rfl, rfl, ⟨by omega, hm2, y1⟩, N, hs.trans sv⟩
            case measure => simp [intOf]; omega
        · have hr2 : r = (y, true) := by
            rw [← HR.out]
            exact when_found W0.out.1 (by omega) y1 H.out.2 (by rw [show y - 1 = x by omega]; exact H.out.1)
          subst hr2
          have hw1 : wrap64 (y - x) = y - x := wrap64_id (by omega) (by omega)
          clear H HR A A0 A1
          go_wp2_with fail
          go_ret2
          exact ⟨rfl, hs⟩
end Go.Proofs.Ytejcckjakhllpaa
